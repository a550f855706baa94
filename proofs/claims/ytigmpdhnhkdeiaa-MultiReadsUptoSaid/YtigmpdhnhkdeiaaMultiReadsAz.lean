/- A key's way in a sketch for keys: ref20.Single. -/
import Derived.Test.YtigmpdhnhkdeiaaSd20
import Derived.Test.YtigmpdhnhkdeiaaSkP
import Derived.Test.YtigmpdhnhkdeiaaXsO
set_option linter.unusedSimpArgs false
set_option linter.unusedVariables false
namespace Go.Proofs.Ytigmpdhnhkdeiaa
open Go Go.RowKit
theorem fin_wf (key : List UInt8) : ∀ (t : Tr) (d : Nat), (∀ x ∈ t.leaves, x.1.length = 32 ∧ x.2.length = 32) → (t.fin key d Nd.zero).wf
  | .e, _, _ => zero_wf
  | .c _, _, _ => zero_wf
  | .l k v, _, h => Nd.one_wf2 (h (k, v) (List.mem_singleton.2 rfl)).1 (h (k, v) (List.mem_singleton.2 rfl)).2
  | .n a b, d, h => by
    unfold Tr.fin
    split
    · exact fin_wf key b (d + 1) fun x hx => h x (List.mem_append_right _ hx)
    · exact fin_wf key a (d + 1) fun x hx => h x (List.mem_append_left _ hx)
theorem muE_zero {ks : List (List UInt8)} {p : List Br} (hw : ∀ b ∈ p, b.wf) (he : muE ks p = 0) : ks.length ≤ 64 ∧ p.length ≤ 65536 ∧ upK ks = true ∧ ∃ t, muR ks p = some (t, []) ∧ muT ks p = t ∧ muPl ks p = t.pl (List.replicate 32 0) 0 ∧ t.okd 0 ∧ t.num ≤ 65536 ∧ t.dg.length = 32 ∧ ∀ x ∈ t.leaves, x.1.length = 32 ∧ x.2.length = 32 := by
  have he0 := he
  unfold muE at he
  split at he
  · cases he
  · rename_i h1
    split at he
    · cases he
    · rename_i h2
      cases ht : muR ks p with
      | none => rw [ht] at he; cases he
      | some Q =>
        obtain ⟨t, r⟩ := Q
        rw [ht] at he
        cases r with
        | cons b r => cases he
        | nil =>
          have ht' : rdTr (opK ks) 257 (List.replicate 32 0) 0 p = some (t, []) := ht
          obtain ⟨_, p2, p3, p4, _, _⟩ := rd_parts ht' hw
          have hn := (rd_num (by omega) ht').1
          have hmt : muT ks p = t := by unfold muT; rw [ht]
          refine ⟨by omega, by omega, by simpa using h2, t, rfl, hmt, ?_, rd_okd hw ht', by omega, p2, p3⟩
          unfold muPl; rw [if_pos he0, hmt]
theorem muE_no {ks : List (List UInt8)} {p : List Br} (he : muE ks p ≠ 0) : muPl ks p = [] := by unfold muPl; rw [if_neg he]
def muS (ks : List (List UInt8)) (p : List Br) (i : Int) : Int := if muE ks p = 0 then (if 0 ≤ i ∧ i < (ks.length : Int) then 0 else 2) else muE ks p
def muW (ks : List (List UInt8)) (p : List Br) (i : Int) : Pf := if muE ks p = 0 ∧ 0 ≤ i ∧ i < (ks.length : Int) then ⟨(muT ks p).way (ks.getD i.toNat []) 0, (muT ks p).fin (ks.getD i.toNat []) 0 Nd.zero⟩ else ⟨[], Nd.zero⟩
attribute [local irreducible] wpT
set_option maxRecDepth 20000 in
set_option maxHeartbeats 4000000 in
theorem single20_v (ks : List (List UInt8)) (hk32 : ∀ k ∈ ks, k.length = 32) (p : List Br) (hw : ∀ b ∈ p, b.wf) (hl1 : ks.length ≤ 34359730000) (hl2 : p.length ≤ 34359730000) (i : Int) (hi : -9223372036854775808 ≤ i ∧ i < 9223372036854775808) :
    VC Try.prog 30 [.sl (.ba 32) (bas ks) none, .st [.sl brT (brs p) none], .v (.int .i64 i)] [] (.tup [(muW ks p i).av, .v (.int .i64 (muS ks p i))]) := by
  have hp := places20_v ks hk32 p hw hl1 hl2
  have hkl := bas_len ks
  have hpl := brs_len p
  have hz2 : (List.replicate 32 (0 : UInt8)).length = 32 := List.length_replicate
  by_cases he : muE ks p = 0
  · obtain ⟨_, _, _, t, ht, hmt, hmp, hok, hnum, _, hlv⟩ := muE_zero hw he
    rw [he, hmp] at hp
    have hPl := pls_len (t.pl (List.replicate 32 0) 0)
    rw [t.pl_len] at hPl
    have hnp := t.num_pos
    by_cases hr : 0 ≤ i ∧ i < (ks.length : Int)
    · obtain ⟨k, rfl⟩ := Int.eq_ofNat_of_zero_le hr.1
      have hk : k < ks.length := by omega
      have hg := bas_get ks k hk
      have hgd : ks.getD k [] = ks[k] := by rw [List.getD_eq_getElem?_getD, List.getElem?_eq_getElem hk]; rfl
      have hmS : muS ks p (k : Int) = 0 := by unfold muS; rw [if_pos he, if_pos hr]
      have hmW : muW ks p (k : Int) = ⟨t.way ks[k] 0, t.fin ks[k] 0 Nd.zero⟩ := by
        unfold muW; rw [if_pos ⟨he, hr⟩, hmt, Int.toNat_natCast, hgd]
      have hmem := List.getElem_mem hk
      have hq := hk32 _ hmem
      have ht' : rdTr (opK ks) 257 (List.replicate 32 0) 0 p = some (t, []) := ht
      have hwy := way20_v t ks[k] (List.replicate 32 0) hq (fun g => rd_last (op := opK ks) (k := ks[k]) (fun top d hd hu => List.any_eq_true.2 ⟨ks[k], hmem, hu⟩) (by omega) Low.zero ht' (und_zero _ _) g) hok (by omega)
      obtain ⟨v1, v2, v3, v4⟩ := fin_wf ks[k] t 0 hlv
      rw [hmS, hmW]
      clear hmS hmW hgd ht ht' hmt hmp he hmem
      generalize t.pl (List.replicate 32 0) 0 = L at *
      generalize ks[k] = q at *
      generalize t.way q 0 = W at *
      generalize t.fin q 0 Nd.zero = F at *
      obtain ⟨fk, fkey, fv, fl, fr2⟩ := F
      dsimp only at v1 v2 v3 v4
      simp only [Pf.av, Nd.av] at hwy ⊢
      refine mE Try.func30 ?_; intro N w0 a w hN hR H
      have hX := And.intro @hkl (And.intro @hpl (And.intro @v1 (And.intro @v2 (And.intro @v3 (And.intro @v4 (And.intro @hPl (And.intro @hg (@hq))))))))
      refine mW ?_; clear H; intro a w H
      refine mCall [] [] (hp) H ?_; clear H; intro a w H; try refine wpList_nil ?_
      refine mW ?_; clear H; intro a w H
      refine mC H (fun hb => ?_) (fun hb => ?_)
      · exact absurd hb (by decide)
      · refine mW ?_; clear H; intro a w H
        refine mC H (fun hb => ?_) (fun hb => ?_)
        · exfalso
          cases hd : decide ((k : Int) < 0)
          · rw [hd] at hb
            have : decide ((ks.length : Int) ≤ (k : Int)) = true := hb
            rw [decide_eq_true_eq] at this; omega
          · rw [decide_eq_true_eq] at hd; omega
        · clear hb
          refine mW ?_; clear H; intro a w H
          refine mCall [] [] (hwy) H ?_; clear H; intro a w H; try refine wpList_nil ?_
          refine mW ?_; clear H; intro a w H
          refine wp_ret ?_; exact mEnd [] [] [.cell 6 68, .tmp 7] [_, _] hN hR H
    · have hmS : muS ks p i = 2 := by unfold muS; rw [if_pos he, if_neg hr]
      have hmW : muW ks p i = ⟨[], Nd.zero⟩ := by unfold muW; rw [if_neg fun h => hr h.2]
      rw [hmS, hmW]
      generalize t.pl (List.replicate 32 0) 0 = L at *
      simp only [Pf.av, Nd.zero, Nd.av, z32, show bas [] = [] from rfl]
      refine mE Try.func30 ?_; intro N w0 a w hN hR H
      have hX := And.intro @hkl (And.intro @hpl (@hz2))
      refine mW ?_; clear H; intro a w H
      refine mCall [] [] (hp) H ?_; clear H; intro a w H; try refine wpList_nil ?_
      refine mW ?_; clear H; intro a w H
      refine mC H (fun hb => ?_) (fun hb => ?_)
      · exact absurd hb (by decide)
      · refine mW ?_; clear H; intro a w H
        refine mC H (fun hb => ?_) (fun hb => ?_)
        · clear hb
          refine mW ?_; clear H; intro a w H
          refine wp_ret ?_; exact mEnd [] [] [.cell 6 68, .tmp 7] [_, _] hN hR H
        · exfalso
          cases hd : decide (i < 0)
          · rw [hd] at hb
            have : decide ((ks.length : Int) ≤ i) = false := hb
            rw [decide_eq_false_iff_not] at this hd; omega
          · rw [hd] at hb; cases hb
  · have hmS : muS ks p i = muE ks p := by unfold muS; rw [if_neg he]
    have hmW : muW ks p i = ⟨[], Nd.zero⟩ := by unfold muW; rw [if_neg fun h => he h.1]
    rw [muE_no he] at hp
    rw [hmS, hmW]
    generalize muE ks p = e at *
    have hd : (!decide (e = 0)) = true := by rw [decide_eq_false he]; rfl
    simp only [pls, List.map_nil] at hp
    simp only [Pf.av, Nd.zero, Nd.av, z32, show bas [] = [] from rfl]
    refine mE Try.func30 ?_; intro N w0 a w hN hR H
    have hX := And.intro @hkl (And.intro @hpl (@hz2))
    refine mW ?_; clear H; intro a w H
    refine mCall [] [] (hp) H ?_; clear H; intro a w H; try refine wpList_nil ?_
    refine mW ?_; clear H; intro a w H
    refine mC H (fun hb => ?_) (fun hb => ?_)
    · refine mW ?_; clear H; intro a w H
      refine wp_ret ?_; exact mEnd [] [] [.cell 6 68, .tmp 7] [_, _] hN hR H
    · rw [hd] at hb; cases hb
end Go.Proofs.Ytigmpdhnhkdeiaa
/- ApartBytes of a list that is written out, of slices on their own. -/
namespace Go.Proofs.Ytigmpdhnhkdeiaa
open Go Go.RowKit
section
variable {P : Program} {τ : Tab} {w0 w w1 w2 : World} {N N1 N2 : Gh} {g g1 gS : Gh} {st st' sq sq' : St} {nt : Nat} {a : Act} {lo : Nat} {X Y : List XR}
end
/-- A slice that is none, as one on its own. -/
def xNil (e : Nat) : XR := ⟨none, 0, 0, e, [], 0⟩
end Go.Proofs.Ytigmpdhnhkdeiaa
/- What a reader of a sketch for keys says in the end (plain). -/
namespace Go.Proofs.Ytigmpdhnhkdeiaa
open Go Go.RowKit
def MW.new (k : List UInt8) : MW := ⟨k, [], Nd.zero⟩
def MW.rev (w : MW) : MW := ⟨w.key, w.sd.reverse, w.en⟩
theorem upK_pair : ∀ {ks : List (List UInt8)}, (∀ k ∈ ks, k.length = 32) → upK ks = true → ks.Pairwise ltB
  | [], _, _ => .nil
  | [a], _, _ => by simp
  | a :: b :: l, h, hu => by
    unfold upK at hu
    rw [Bool.and_eq_true, decide_eq_true_eq] at hu
    have hab := (cmp_ltB (h a (by simp)) (h b (by simp))).1 hu.1
    have ih := upK_pair (fun k hk => h k (List.mem_cons_of_mem _ hk)) hu.2
    refine .cons (fun x hx => ?_) ih
    rcases List.mem_cons.1 hx with rfl | hx
    · exact hab
    · exact hab.trans ((List.pairwise_cons.1 ih).1 x hx)
theorem mread_rd {ks : List (List UInt8)} {p : List Br} (hk32 : ∀ k ∈ ks, k.length = 32) (hu : upK ks = true) :
    (∀ t r, muR ks p = some (t, r) → plM 257 (List.replicate 32 0) 0 (ks.map MW.new) p = ⟨r, (ks.map MW.new).map (MW.by t 0), t.dg, true⟩) ∧ (muR ks p = none → (plM 257 (List.replicate 32 0) 0 (ks.map MW.new) p).ok = false) := by
  have hs : MSeg ks (List.replicate 32 0) 0 (ks.map MW.new) := by
    refine ⟨?_, ?_⟩
    · rw [List.map_map, List.filter_eq_self.2 (fun k _ => by unfold und; exact decide_eq_true (Nat.zero_le _))]
      exact List.map_id _
    · rw [List.pairwise_map]; exact upK_pair hk32 hu
  exact plM_rd (op := opK ks) (fun _ _ _ => rfl) (by omega) Low.zero hs
theorem by_rev (t : Tr) (ks : List (List UInt8)) : ((ks.map MW.new).map (MW.by t 0)).map MW.rev = ks.map fun k => ⟨k, t.way k 0, t.fin k 0 Nd.zero⟩ := by
  rw [List.map_map, List.map_map]
  refine List.map_congr_left fun k _ => ?_
  simp [MW.rev, MW.by, MW.new]
/-- The first ways turned. -/
def rvd (k : Nat) (ws : List MW) : List MW := ws.mapIdx fun i w => if i < k then w.rev else w
theorem rvd_len (k : Nat) (ws : List MW) : (rvd k ws).length = ws.length := by simp [rvd]
theorem rvd_get (k : Nat) (ws : List MW) (i : Nat) (h1 : i < (rvd k ws).length) (h2 : i < ws.length) : (rvd k ws)[i] = if i < k then ws[i].rev else ws[i] := List.getElem_mapIdx
theorem rvd_zero (ws : List MW) : rvd 0 ws = ws := by
  apply List.ext_getElem (rvd_len _ _)
  intro i h1 h2
  rw [rvd_get _ _ _ _ h2, if_neg (by omega)]
theorem rvd_at (k : Nat) (ws : List MW) (hk : k < ws.length) (hk2 : k < (rvd k ws).length) : (rvd k ws)[k] = ws[k] := by
  rw [rvd_get _ _ _ _ hk, if_neg (by omega)]
theorem rvd_step (k : Nat) (ws : List MW) (hk : k < ws.length) : (rvd k ws).set k ws[k].rev = rvd (k + 1) ws := by
  apply List.ext_getElem (by rw [List.length_set, rvd_len, rvd_len])
  intro i h1 h2
  have hi : i < ws.length := by rw [rvd_len] at h2; exact h2
  rw [List.getElem_set, rvd_get _ _ _ _ hi, rvd_get _ _ _ _ hi]
  by_cases e : k = i
  · subst e; rw [if_pos rfl, if_pos (by omega)]
  · rw [if_neg e]
    by_cases hh : i < k
    · rw [if_pos hh, if_pos (by omega)]
    · rw [if_neg hh, if_neg (by omega)]
theorem rvd_end (ws : List MW) : rvd ws.length ws = ws.map MW.rev := by
  apply List.ext_getElem (by rw [rvd_len, List.length_map])
  intro i h1 h2
  have hi : i < ws.length := by rw [rvd_len] at h1; exact h1
  rw [rvd_get _ _ _ _ hi, if_pos hi, List.getElem_map]
def wyA (w : MW) : AV := (⟨w.sd, w.en⟩ : Pf).av
/-- The ways' box is seen. -/
theorem wy_see {ws : List MW} {X : List XR} (h : WyX ws X) {ws0 : List MW} {X0 : List XR} (hv : X0.map (·.v) = X.map (·.v)) (he : ws0.map (·.en) = ws.map (·.en)) :
    (wyE ws0 X0).length = (ws.map wyA).length ∧ ∀ k (h1 : k < (wyE ws0 X0).length) (h2 : k < (ws.map wyA).length), SeeH X (wyE ws0 X0)[k] (ws.map wyA)[k] := by
  have l1 : X0.length = X.length := by have := congrArg List.length hv; simpa using this
  have l2 : ws0.length = ws.length := by have := congrArg List.length he; simpa using this
  refine ⟨by rw [wyE_len (by rw [l1, l2]; exact h.len), List.length_map, l2], fun k h1 h2 => ?_⟩
  rw [List.length_map] at h2
  have hk : k < X.length := by rw [h.len]; exact h2
  rw [wyE_elem k h1 (by omega) (by omega), List.getElem_map]
  have e1 : X0[k].v = X[k].v := by
    have := List.getElem_of_eq hv (i := k) (by rw [List.length_map, l1]; exact hk)
    simpa using this
  have e2 : ws0[k].en = ws[k].en := by
    have := List.getElem_of_eq he (i := k) (by rw [List.length_map, l2]; exact h2)
    simpa using this
  rw [e1, e2]
  refine .st rfl fun i i1 i2 => ?_
  match i, i1 with
  | 0, _ => exact .own X[k] _ _ _ (List.getElem_mem hk) (h.at_ k h2 hk)
  | 1, _ => exact .refl _
theorem rvd_en (k : Nat) (ws : List MW) : ws.map (·.en) = (rvd k ws).map (·.en) := by
  apply List.ext_getElem (by simp [rvd_len])
  intro i h1 h2
  have hi : i < ws.length := by simpa using h1
  rw [List.getElem_map, List.getElem_map, rvd_get _ _ _ _ hi]
  split <;> rfl
/-- What a reader for keys reads: the digest at the top, the ways. -/
def muD (ks : List (List UInt8)) (p : List Br) : List UInt8 := if muE ks p = 0 then (muT ks p).dg else List.replicate 32 0
def muWs (ks : List (List UInt8)) (p : List Br) : List MW := if muE ks p = 0 then ks.map fun k => ⟨k, (muT ks p).way k 0, (muT ks p).fin k 0 Nd.zero⟩ else []
/-- New ways: nil slices. -/
theorem new_E (ks : List (List UInt8)) : WyX (ks.map MW.new) (List.replicate ks.length (xNil 50)) ∧ wyE (ks.map MW.new) (List.replicate ks.length (xNil 50)) = List.replicate ks.length (.st [.v (.slice none 0 0), Nd.zero.av]) := by
  have hx : XH (xNil 50) 50 (.ba 32) (bas []) := ⟨rfl, rfl, rfl, by decide, fun _ => [], [], rfl, by decide, fun u hu => absurd hu (by simp), fun g k h => absurd h (Nat.not_lt_zero _)⟩
  refine ⟨⟨by simp, fun k h1 h2 => ?_⟩, ?_⟩
  · rw [List.getElem_replicate, List.getElem_map]; exact hx
  · apply List.ext_getElem (by rw [wyE_len (by simp)]; simp)
    intro i h1 h2
    have hi : i < ks.length := by simpa using h2
    rw [wyE_elem i h1 (by simpa using hi) (by simpa using hi), List.getElem_replicate, List.getElem_replicate, List.getElem_map]
    rfl
theorem RelY.nils {P : Program} {w0 w : World} {N : Gh} {nt : Nat} {st : St} {a : Act} (H : Rel P w0 N nt st a w) (n e : Nat) : RelY (fun b => w0.heap.size ≤ b) P w0 N nt st (List.replicate n (xNil e)) a w := by
  obtain ⟨g, HI, hF⟩ := H
  refine ⟨g, HI.self, .of HI.fr _, hF, ⟨fun x hx => ?_, ?_⟩⟩
  · obtain rfl := List.eq_of_mem_replicate hx
    exact ⟨⟨Nat.le_refl _, Nat.zero_le _⟩, fun _ => rfl, fun b hb => by cases hb⟩
  · unfold XApart
    rw [List.pairwise_replicate]
    exact .inr (.inl rfl)
end Go.Proofs.Ytigmpdhnhkdeiaa
/- A reader of a sketch for keys: multi.read. -/
namespace Go.Proofs.Ytigmpdhnhkdeiaa
open Go Go.RowKit
attribute [local irreducible] wpT
set_option maxRecDepth 20000 in
set_option maxHeartbeats 16000000 in
theorem mread_v (ks : List (List UInt8)) (hk32 : ∀ k ∈ ks, k.length = 32) (p : List Br) (hw : ∀ b ∈ p, b.wf) (hl1 : ks.length ≤ 34359730000) (hl2 : p.length ≤ 34359730000) :
    VC Try.prog 112 [.sl (.ba 32) (bas ks) none, .st [.sl brT (brs p) none]] [] (.tup [.ba (muD ks p), .sl pfT0 ((muWs ks p).map wyA) none, .v (.int .i64 (muE ks p))]) := by
  have hkl := bas_len ks
  have hpl := brs_len p
  have hz2 : (List.replicate 32 (0 : UInt8)).length = 32 := List.length_replicate
  obtain ⟨U, hU⟩ : ∃ U, upK ks = U := ⟨_, rfl⟩
  have h0 : upK (ks.drop 0) = U := by rw [List.drop_zero]; exact hU
  unfold muD muWs
  refine mE Try.func112 ?_; intro N w0 a w hN hR H
  have hX := And.intro @hkl (And.intro @hpl (@hz2))
  refine mW ?_; clear H; intro a w H
  refine mC H (fun hb => ?_) (fun hb => ?_)
  · have e : 64 < ks.length ∨ 65536 < p.length := by
      cases hd : decide ((64 : Int) < (ks.length : Int))
      · rw [hd] at hb
        have : decide ((65536 : Int) < (p.length : Int)) = true := hb
        rw [decide_eq_true_eq] at this; omega
      · rw [decide_eq_true_eq] at hd; omega
    have e4 : muE ks p = 4 := by unfold muE; rw [if_pos e]
    rw [e4, if_neg (by decide), if_neg (by decide)]
    simp only [List.map_nil]
    clear hb
    refine mW ?_; clear H; intro a w H
    refine wp_ret ?_
    exact v_end [] [] tab_ok ⟨hN, hR⟩ (rs := [.cell 4 50, .tmp 5, .tmp 6]) (ress := [_, _, _]) rfl H (by rfl) (by rfl) trivial rfl ⟨sub_refl _ _, (show sub 4 (AV.v (.slice none 0 0)) (AV.sl pfT0 [] none) from by unfold sub; rfl), sub_refl _ _, trivial⟩ rfl
  · have e : ¬ (64 < ks.length ∨ 65536 < p.length) := by
      cases hd : decide ((64 : Int) < (ks.length : Int))
      · rw [hd] at hb
        have : decide ((65536 : Int) < (p.length : Int)) = false := hb
        rw [decide_eq_false_iff_not] at this hd; omega
      · rw [hd] at hb; cases hb
    clear hb
    refine mS ?_
    replace H := v_ref H 3 0 (Nat.le_trans hN (Nat.le_of_ble_eq_true rfl)) rfl rfl rfl
    simp only [nilT, strip, List.map_cons, List.map_nil, reduceIte, Nat.reduceEqDiff] at H
    replace H := mK [0, 3, 4, 5, 6] 2 0 hN hR H
    refine mW ?_; clear H; intro a w H
    refine v_loop (fun i : Nat => ⟨[(7, none, .v (.int .i64 ((i + 1 : Nat) : Int))), (6, none, .v (.int .i64 0)), (5, none, .v (.slice none 0 0)), (4, none, .ptr 1 []), (3, none, .ref ti44.ty (.st [.sl brT (brs p) none])), (0, none, .sl (.ba 32) (bas ks) none)], [(ti44.ty, .st [.sl brT (brs p) none]), (.ba 32, .ba (List.replicate 32 0))], [0], []⟩) (fun i => (i = 0 ∨ i + 1 ≤ ks.length) ∧ upK (ks.drop i) = U) (fun i => ks.length - i) 0 ⟨.inl rfl, h0⟩
      (H.to 2 0 ⟨Nat.le_trans hN (Nat.le_of_ble_eq_true rfl), Nat.le_trans hR (Nat.zero_le _)⟩ ⟨rfl, rfl, rfl, rfl, rfl, rfl, trivial⟩ rfl rfl rfl rfl rfl) ?_
    clear H
    intro i a w hi H
    obtain ⟨hi1, hi2⟩ := hi
    refine mW ?_; clear H; intro a w H
    refine mC H (fun hb => ?_) (fun hb => ?_)
    · have hlt : i + 1 < ks.length := by rw [decide_eq_true_eq] at hb; omega
      clear hb
      have hlt0 : i < ks.length := by omega
      rw [upK_drop ks i hlt] at hi2
      have g1 := bas_get ks i hlt0
      have g2 := bas_get ks (i + 1) hlt
      have q1 := hk32 _ (List.getElem_mem hlt0)
      have q2 := hk32 _ (List.getElem_mem hlt)
      have ei : ((i + 1 : Nat) : Int) - 1 = (i : Int) := by omega
      generalize ks[i] = x at *
      generalize ks[i + 1] = y at *
      have hc := pcmp_v x y q1 q2
      clear hX; have hX := And.intro @hkl (And.intro @hpl (And.intro @hz2 (And.intro @g1 (And.intro @g2 (And.intro @q1 (And.intro @q2 (@ei)))))))
      refine mS ?_; refine mD 2 [9] [] H ?_; clear H; intro gS H
      refine mTN 3 hN H ?_; clear H; intro a w H; simp only [List.drop_succ_cons, List.drop_zero, List.drop_nil]
      refine mTN 1 hN H ?_; clear H; intro a w H; simp only [List.drop_succ_cons, List.drop_zero, List.drop_nil]
      refine mTN 4 hN H ?_; clear H; intro a w H; simp only [List.drop_succ_cons, List.drop_zero, List.drop_nil]
      refine mT ?_; clear H; intro a w H
      refine mCallT [] [] (hc) H ?_; clear H; intro a w H
      refine mT ?_; clear H; intro a w H
      refine v_drawNil H ?_; clear H; intro H
      refine mC H (fun hb => ?_) (fun hb => ?_)
      · rw [decide_eq_true_eq] at hb
        rw [decide_eq_false (show ¬ Lib.compareBytes x y < 0 by omega), Bool.false_and] at hi2
        subst hi2
        have e4 : muE ks p = 2 := by unfold muE; rw [if_neg e, if_pos hU]
        rw [e4, if_neg (by decide), if_neg (by decide)]
        simp only [List.map_nil]
        clear hb
        refine mW ?_; clear H; intro a w H
        refine wp_ret ?_
        exact v_end [] [] tab_ok ⟨hN, hR⟩ (rs := [.cell 4 50, .tmp 5, .tmp 6]) (ress := [_, _, _]) rfl H (by rfl) (by rfl) trivial rfl ⟨sub_refl _ _, (show sub 4 (AV.v (.slice none 0 0)) (AV.sl pfT0 [] none) from by unfold sub; rfl), sub_refl _ _, trivial⟩ rfl
      · rw [decide_eq_false_iff_not] at hb
        rw [decide_eq_true (show Lib.compareBytes x y < 0 by omega), Bool.true_and] at hi2
        clear hb
        refine mW ?_; clear H; intro a w H
        rw [show ((i + 1 : Nat) : Int) + 1 = ((i + 1 + 1 : Nat) : Int) by omega] at H
        exact ⟨i + 1, ⟨.inr hlt, hi2⟩, by omega, H.to 2 0 ⟨Nat.le_trans hN (Nat.le_of_ble_eq_true rfl), Nat.le_trans hR (Nat.zero_le _)⟩ ⟨rfl, rfl, rfl, rfl, rfl, rfl, trivial⟩ rfl rfl rfl rfl rfl⟩
    · have hge : ks.length ≤ i + 1 := by rw [decide_eq_false_iff_not] at hb; omega
      clear hb
      rw [upK_end ks i hge] at hi2
      subst hi2
      have hem := empty_v
      have hs0 : (sum [0]).length = 32 := sum_length _
      clear hX; have hX := And.intro @hkl (And.intro @hpl (And.intro @hz2 (@hs0)))
      refine mW ?_; clear H; intro a w H
      refine mS ?_
      revert a w
      apply cutG9 (R := fun a w => Rel Try.prog w0 N Try.f112.ntmps ⟨[(8, none, .ptr 3 []), (6, none, .v (.int .i64 0)), (5, none, .v (.slice none 0 0)), (4, none, .ptr 1 []), (0, none, .sl (.ba 32) (bas ks) none)], [(ti44.ty, .st [.sl brT (brs p) none]), (.ba 32, .ba (List.replicate 32 0)), (.vc 68 pfT0, .vc 0 (List.replicate ks.length (.st [.v (.slice none 0 0), .st [.v (.int .u8 0), .ba (List.replicate 32 0), .ba (List.replicate 32 0), .ba (List.replicate 32 0), .ba (List.replicate 32 0)]]))), (mrdT, .st [.sl brT (brs p) none, .ba (sum [0]), .vw 2 0 ks.length])], [0], []⟩ a w)
      · intro key1 a w H
        repeat (first | refine wp_seq ?_ | refine wp_block ?_)
        refine v_drawZ 0 [0, 1, 3, 4, 2, 5, 6, 7, 8] [2, 5, 7] [0, 1, 3, 4] [(2, 5)] (by kernel_rfl) (by kernel_rfl) (by kernel_rfl) (by kernel_rfl) (by kernel_rfl) H (by rfl) ?_; clear H; intro gS H; try replace H := ntf H
        repeat' ((first | refine wpZ_q1 rfl rfl ?_ | refine wpZ_l1 rfl rfl rfl ?_ | refine wpZ_l2 rfl rfl rfl rfl rfl ?_ ?_ | refine wpZ_l3 rfl rfl rfl rfl rfl rfl rfl ?_ ?_ ?_ | refine wpZ_l4 rfl rfl rfl rfl rfl rfl rfl rfl rfl ?_ ?_ ?_ ?_) <;> ((first | (refine wpT_at 2 ?_; refine mCallT [] [] (hem) H ?_; clear H; intro a w H) | (refine v_someT 1 tab_ok hN H rfl ctX ?_; clear H; intro a w H; replace H := ntf H; simp only [List.drop_succ_cons, List.drop_zero, List.drop_nil])); refine wpT_nil ?_; try dsimp only))
        all_goals (refine wpZ_nil ?_; replace H := RelT.toRel H)
        all_goals
          exact key1 _ _ (H.to 4 0 ⟨Nat.le_trans hN (Nat.le_of_ble_eq_true rfl), Nat.le_trans hR (Nat.zero_le _)⟩ ⟨rfl, rfl, rfl, rfl, rfl, trivial⟩ rfl rfl rfl rfl rfl)
      intro a w H
      have hnE : List.replicate ks.length (AV.st [.v (.slice none 0 0), .st [.v (.int .u8 0), .ba (List.replicate 32 0), .ba (List.replicate 32 0), .ba (List.replicate 32 0), .ba (List.replicate 32 0)]]) = wyE (ks.map MW.new) (List.replicate ks.length (xNil 50)) := (new_E ks).2.symm
      rw [hnE] at H
      have hM : N.bx.length ≤ 0 ∧ N.rw.length ≤ 0 := ⟨hN, hR⟩
      have hL : ∀ b, w0.heap.size ≤ b → (fun b => w0.heap.size ≤ b) b := fun b h => h
      have hnew : (ks.map MW.new).map (·.key) = ks := by rw [List.map_map]; exact List.map_id _
      have hcall := mplace_v ks.length (by omega) ks rfl hk32 257 (List.replicate 32 0) 0 [] (ks.map MW.new) [] p (List.replicate ks.length (xNil 50)) (by omega) (by omega) hz2 hw (by omega) (by rw [List.nil_append, List.append_nil]; exact hnew)
        (fun w hw => by rw [List.nil_append, List.append_nil] at hw; obtain ⟨k, hk, rfl⟩ := List.mem_map.1 hw; exact ⟨hk32 k hk, fun g hg => (by cases hg), zero_wf⟩)
        (fun w hw => by rw [List.nil_append, List.append_nil] at hw; obtain ⟨k, hk, rfl⟩ := List.mem_map.1 hw; exact Nat.zero_le _)
        (fun w hw => by obtain ⟨k, hk, rfl⟩ := List.mem_map.1 hw; exact Nat.le_of_ble_eq_true rfl) (by rw [List.nil_append, List.append_nil]; exact (new_E ks).1)
      simp only [List.nil_append, List.append_nil, List.length_nil, Nat.zero_add, List.length_map] at hcall
      rw [show ((0 : Nat) : Int) = 0 from rfl] at hcall
      obtain ⟨m1, m2⟩ := mread_rd (p := p) hk32 hU
      have m3 := plM_len (f := 257) (top := List.replicate 32 0) (d := 0) (ws := ks.map MW.new) (l := p)
      have m4 := plM_wf (f := 257) (top := List.replicate 32 0) (d := 0) (ws := ks.map MW.new) hw (fun w hw => by obtain ⟨k, hk, rfl⟩ := List.mem_map.1 hw; exact ⟨hk32 k hk, fun g hg => (by cases hg), zero_wf⟩)
      have m5 := plM_few (m := 0) (f := 257) (top := List.replicate 32 0) (d := 0) (ws := ks.map MW.new) (l := p) (fun w hw => by obtain ⟨k, hk, rfl⟩ := List.mem_map.1 hw; exact Nat.le_refl _)
      rw [List.length_map] at m3
      generalize plM 257 (List.replicate 32 0) 0 (ks.map MW.new) p = x at *
      obtain ⟨xr, xw, xh, xo⟩ := x
      obtain ⟨x5, x6, x7, x8⟩ := m4
      dsimp only at m3 m5 x5 x6 x7 x8 hcall
      have H := RelY.nils H ks.length 50
      obtain ⟨N1, hB, hZ, H, hN1, hR1⟩ := H.open_
      clear hN hR
      have hN : N1.bx.length ≤ 4 := Nat.le_of_eq hN1
      have hR : N1.rw.length ≤ 0 := Nat.le_of_eq hR1
      clear hN1 hR1
      have hlE : (wyE (ks.map MW.new) (List.replicate ks.length (xNil 50))).length = ks.length := by rw [wyE_len (by simp), List.length_map]
      clear hX; have hX := And.intro @hkl (And.intro @hpl (And.intro @hz2 (And.intro @hs0 (And.intro @hlE (@x8)))))
      refine mW ?_; clear H; intro a w H
      refine v_callY [3, 2] hcall hL hB hZ H (by rintro Y bx' res ⟨_, rfl, rfl⟩; exact ⟨rfl, rfl⟩) ?_
      clear H hB hZ hN hR
      rintro X0 bx' res a w ⟨hW0, rfl, rfl⟩ H
      replace H := nfY H
      obtain ⟨N1, hB, hZ, H, hN1, hR1⟩ := H.open_
      have hN : N1.bx.length ≤ 4 := Nat.le_of_eq hN1
      have hR : N1.rw.length ≤ 0 := Nat.le_of_eq hR1
      clear hN1 hR1
      have hlE : (wyE xw X0).length = ks.length := by rw [wyE_len hW0.len]; exact m3
      have hrl := brs_len xr
      clear hX; have hX := And.intro @hkl (And.intro @hpl (And.intro @hz2 (And.intro @hs0 (And.intro @hlE (And.intro @x8 (@hrl))))))
      refine mW ?_; clear H; intro a w H
      refine mC H (fun hb => ?_) (fun hb => ?_)
      · have e4 : muE ks p = 11 := by
          unfold muE
          rw [if_neg e, if_neg (by rw [hU]; decide)]
          cases hmu : muR ks p with
          | none => rfl
          | some Q =>
            obtain ⟨t, r⟩ := Q
            cases r with
            | cons b r => rfl
            | nil =>
              have := m1 t [] hmu
              simp only [MRd.mk.injEq] at this
              obtain ⟨h1, _, _, h2⟩ := this
              rw [h1, h2] at hb
              cases hb
        rw [e4, if_neg (by decide), if_neg (by decide)]
        simp only [List.map_nil]
        clear hb
        replace H := v_pubY (RelY.close hB hZ H) (fun b h => h) 2 rfl rfl (fun k _ _ => .refl _)
        replace H := nf H
        clear hN
        have hN : N.bx.length ≤ 5 := Nat.le_trans hM.1 (Nat.zero_le _)
        refine mW ?_; clear H; intro a w H
        refine wp_ret ?_
        exact v_end [] [] tab_ok ⟨hM.1, hM.2⟩ (rs := [.cell 4 50, .tmp 5, .tmp 6]) (ress := [_, _, _]) rfl H (by rfl) (by rfl) trivial rfl ⟨sub_refl _ _, (show sub 4 (AV.v (.slice none 0 0)) (AV.sl pfT0 [] none) from by unfold sub; rfl), sub_refl _ _, trivial⟩ rfl
      · obtain ⟨t, hmu⟩ : ∃ t, muR ks p = some (t, []) := by
          cases hmu : muR ks p with
          | none =>
            have h9 : xo = false := m2 hmu
            rw [h9] at hb; cases hb
          | some Q =>
            obtain ⟨t, r⟩ := Q
            have := m1 t r hmu
            simp only [MRd.mk.injEq] at this
            obtain ⟨h1, _, _, h2⟩ := this
            rw [h1, h2] at hb
            have hb2 : decide (0 < (r.length : Int)) = false := hb
            rw [decide_eq_false_iff_not] at hb2
            exact ⟨t, by rw [List.length_eq_zero_iff.1 (show r.length = 0 by omega)]⟩
        clear hb
        have e4 : muE ks p = 0 := by unfold muE; rw [if_neg e, if_neg (by rw [hU]; decide), hmu]
        have et : muT ks p = t := by unfold muT; rw [hmu]
        rw [e4, if_pos rfl, if_pos rfl, et]
        have hmk := m1 t [] hmu
        simp only [MRd.mk.injEq] at hmk
        obtain ⟨h1, h2, h3, h4⟩ := hmk
        subst h1 h3 h4
        have hby := by_rev t ks
        rw [← h2] at hby
        rw [← hby, List.map_map]
        clear m1 m2 h2 hby
        refine mW ?_; clear H; intro a w H
        refine v_loopI (fun k a w => ∃ X : List XR, WyX (rvd k xw) X ∧ X0.map (·.v) = X.map (·.v) ∧ RelY (fun b => w0.heap.size ≤ b) Try.prog w0 N Try.f112.ntmps ⟨[(73, none, .v (.int .i64 ((k : Nat) : Int))), (72, none, .v (.int .i64 (ks.length : Int))), (9, none, .ptr 4 []), (8, none, .ptr 3 []), (4, none, .ptr 1 [])],
          [(ti44.ty, .st [.sl brT (brs p) none]), (.ba 32, .ba (List.replicate 32 0)), (.vc 68 pfT0, .vc 0 (wyE xw X0)), (mrdT, .st [.sl brT (brs []) none, .ba (sum [0]), .vw 2 0 ks.length]), (.ba 32, .ba t.dg)], [0], []⟩ X a w) (fun k => k ≤ ks.length) (fun k => ks.length - k) 0 (Nat.zero_le _)
          ⟨X0, by rw [rvd_zero]; exact hW0, rfl, RelY.close hB hZ (H.to 5 0 ⟨Nat.le_trans hN (Nat.le_of_ble_eq_true rfl), hR⟩ ⟨rfl, rfl, rfl, rfl, rfl, trivial⟩ rfl rfl rfl rfl rfl)⟩ ?_
        clear H hB hZ hN hR
        rintro k a w1 hk ⟨X, hW, hv, HY⟩
        obtain ⟨N1, hB, hZ, H, hN1, hR1⟩ := HY.open_
        clear HY
        have hN : N1.bx.length ≤ 5 := Nat.le_of_eq hN1
        have hR : N1.rw.length ≤ 0 := Nat.le_of_eq hR1
        clear hN1 hR1
        clear hX; have hX := And.intro @hkl (And.intro @hpl (And.intro @hz2 (And.intro @hs0 (And.intro @hlE (@x8)))))
        refine mW ?_; clear H; intro a w H
        refine mC H (fun hb => ?_) (fun hb => ?_)
        · have hlt : k < ks.length := by rw [decide_eq_true_eq] at hb; omega
          clear hb
          have hkw : k < xw.length := by omega
          have hXl := hW.len
          rw [rvd_len] at hXl
          have hX0l : X0.length = xw.length := hW0.len
          obtain ⟨X1, y, X2, rfl, rfl⟩ := split_ex X k (by omega)
          have hka : X1.length < (rvd X1.length xw).length := by rw [rvd_len]; exact hkw
          have hx0 := hW.atS hka
          rw [rvd_at X1.length xw hkw] at hx0
          have hg := wyE_get (ws := xw) (X := X0) X1.length hkw (by omega)
          have hyv : (X0[X1.length]'(by omega)).v = y.v := by
            have := List.getElem_of_eq hv (i := X1.length) (by rw [List.length_map]; omega)
            simpa using this
          rw [hyv] at hg
          have hst := rvd_step X1.length xw hkw
          have hsd := x7 _ (List.getElem_mem hkw)
          have hfew := m5 _ (List.getElem_mem hkw)
          generalize xw[X1.length] = v at *
          have hrev := revV_v v.sd 0 (by omega) hsd.sd
          have hsl := bas_len v.sd
          have hle := (RelY.close hB hZ H).le
          clear hX; have hX := And.intro @hkl (And.intro @hpl (And.intro @hz2 (And.intro @hs0 (And.intro @hlE (And.intro @x8 (And.intro @hg (@hsl)))))))
          refine mW ?_; clear H; intro a w H
          obtain ⟨g9, hL9, hb9, hr9, H⟩ := v_lend (RelY.close hB hZ H) hx0 83 rfl
          simp only [nilT, reduceIte, Nat.reduceEqDiff] at H
          replace H := nf H
          clear hN
          have hN : (g9.push (y.box 50 (.ba 32))).bx.length ≤ 6 := by simp [Gh.push, hb9]
          refine mCall [5] [] (hrev) H ?_; clear H; intro a w H; try refine wpList_nil ?_
          obtain ⟨y', hy', hyv', H⟩ := v_giveS (bx := [(ti44.ty, _), (.ba 32, _), (.vc 68 pfT0, _), (mrdT, _), (.ba 32, _)]) (e := 50) (T := .ba 32) hL hL9 hb9 H (by rw [hx0.n]; simp [bas]) hle [4, 8, 9, 72, 73] rfl (by simp [bas, flat]) rfl rfl
          replace H := nfY H
          clear hB hZ hN hR
          obtain ⟨N1, hB, hZ, H, hN1, hR1⟩ := H.open_
          have hN : N1.bx.length ≤ 5 := Nat.le_of_eq hN1
          have hR : N1.rw.length ≤ 0 := Nat.le_of_eq hR1
          clear hN1 hR1
          have hW2 : WyX (rvd (X1.length + 1) xw) (X1 ++ y' :: X2) := by rw [← hst]; exact hW.setS hy'
          have hv2 : X0.map (·.v) = (X1 ++ y' :: X2).map (·.v) := by rw [hv]; simp [hyv']
          clear hX; have hX := @hlE
          refine mW ?_; clear H; intro a w H
          rw [show (X1.length : Int) + 1 = ((X1.length + 1 : Nat) : Int) by omega] at H
          exact ⟨X1.length + 1, hlt, by omega, X1 ++ y' :: X2, hW2, hv2, RelY.close hB hZ (H.to 5 0 ⟨hN, hR⟩ ⟨rfl, rfl, rfl, rfl, rfl, trivial⟩ rfl rfl rfl rfl rfl)⟩
        · have hge : k = ks.length := by rw [decide_eq_false_iff_not] at hb; omega
          clear hb
          have hre : rvd k xw = xw.map MW.rev := by rw [hge, ← m3]; exact rvd_end xw
          have hen := rvd_en k xw
          rw [hre] at hW hen
          obtain ⟨s1, s2⟩ := wy_see hW hv hen
          replace H := v_pubY (RelY.close hB hZ H) (fun b h => h) 2 rfl s1 s2
          replace H := nf H
          have hpl9 : ((xw.map MW.rev).map wyA).length = ks.length := by rw [List.length_map, List.length_map, m3]
          rw [List.map_map] at H hpl9
          clear s1 s2 hN hR
          replace H := v_frzB H 2 3 [2] (Nat.le_trans hM.1 (Nat.zero_le _)) rfl rfl rfl rfl (by omega)
          rw [List.take_of_length_le (by omega)] at H
          replace H := nf H
          have hN : N.bx.length ≤ 0 := hM.1
          have hR : N.rw.length ≤ 0 := hM.2
          replace H := v_ref H 8 3 (Nat.le_trans hN (Nat.zero_le _)) rfl rfl rfl
          simp only [nilT, strip, List.map_cons, List.map_nil, reduceIte, Nat.reduceEqDiff] at H
          replace H := v_ref H 9 4 (Nat.le_trans hN (Nat.zero_le _)) rfl rfl rfl
          simp only [nilT, strip, List.map_cons, List.map_nil, reduceIte, Nat.reduceEqDiff] at H
          refine mS ?_
          clear hX; have hX := And.intro @hkl (And.intro @hpl (And.intro @hz2 (And.intro @hs0 (And.intro @hpl9 (@x8)))))
          refine mS ?_; refine mD 0 [5] [1, 2, 3, 4] H ?_; clear H; intro gS H
          refine mT ?_; clear H; intro a w H
          refine v_drawNil H ?_; clear H; intro H
          refine mS ?_
          refine wp_ret ?_
          exact v_end [] [] tab_ok ⟨hM.1, hM.2⟩ (rs := [.cell 4 50, .tmp 5, .tmp 6]) (ress := [_, _, _]) rfl H (by rfl) (by rfl) trivial rfl ⟨sub_refl _ _, sub_refl _ _, sub_refl _ _, trivial⟩ rfl
end Go.Proofs.Ytigmpdhnhkdeiaa
/- What a sketch says of keys: ref20.Says. -/
namespace Go.Proofs.Ytigmpdhnhkdeiaa
open Go Go.RowKit
abbrev sdT : Ty := ti76.ty
def muG (t : Tr) (k : List UInt8) : AV := saidA (t.fin k 0 Nd.zero) k
def muA (ks : List (List UInt8)) (p : List Br) : List AV := if muE ks p = 0 then ks.map (muG (muT ks p)) else []
theorem saidA_st (n : Nd) (hn : n.wf) (key : List UInt8) : ∃ b v, saidA n key = .st [.v (.bool b), .ba v] ∧ v.length = 32 := by
  unfold saidA
  split
  · exact ⟨_, _, rfl, hn.v⟩
  · exact ⟨_, _, rfl, z32_len⟩
attribute [local irreducible] wpT
set_option maxRecDepth 20000 in
set_option maxHeartbeats 4000000 in
theorem says20_v (ks : List (List UInt8)) (hk32 : ∀ k ∈ ks, k.length = 32) (p : List Br) (hw : ∀ b ∈ p, b.wf) (hl1 : ks.length ≤ 34359730000) (hl2 : p.length ≤ 34359730000) :
    VC Try.prog 28 [.sl (.ba 32) (bas ks) none, .st [.sl brT (brs p) none]] [] (.tup [.sl sdT (muA ks p) none, .v (.int .i64 (muE ks p))]) := by
  have hp := places20_v ks hk32 p hw hl1 hl2
  have hkl := bas_len ks
  have hpl := brs_len p
  by_cases he : muE ks p = 0
  · obtain ⟨hl64, _, _, t, ht, hmt, hmp, hok, hnum, _, hlv⟩ := muE_zero hw he
    have hmA : muA ks p = ks.map (muG t) := by unfold muA; rw [if_pos he, hmt]
    rw [he, hmp] at hp
    rw [hmA, he]
    have hPl := pls_len (t.pl (List.replicate 32 0) 0)
    rw [t.pl_len] at hPl
    have hnp := t.num_pos
    have hwy0 := fun (k : List UInt8) (hmem : k ∈ ks) => way20_v t k (List.replicate 32 0) (hk32 k hmem) (fun g => rd_last (op := opK ks) (k := k) (fun top d hd hu => List.any_eq_true.2 ⟨k, hmem, hu⟩) (by omega) Low.zero (show rdTr (opK ks) 257 (List.replicate 32 0) 0 p = some (t, []) from ht) (und_zero _ _) g) hok (by omega)
    generalize t.pl (List.replicate 32 0) 0 = L at *
    refine mE Try.func28 ?_; intro N w0 a w hN hR H
    have hX := And.intro @hkl (And.intro @hpl (@hPl))
    refine mW ?_; clear H; intro a w H
    refine mCall [] [] (hp) H ?_; clear H; intro a w H; try refine wpList_nil ?_
    refine mW ?_; clear H; intro a w H
    replace H := v_nilE tab_ok H 8 76 sdT (j := ti76) rfl (by decide) rfl
    simp only [nilT, reduceIte, Nat.reduceEqDiff, List.length_nil, List.nil_append] at H
    refine v_loop (fun i : Nat => ⟨[(9, none, .v (.int .i64 (i : Int))), (8, none, .sl sdT ((ks.take i).map (muG t)) (some 0)), (7, none, .v (.int .i64 0)), (6, none, .sl plT (pls L) none), (0, none, .sl (.ba 32) (bas ks) none)],
      [(ti44.ty, .st [.sl brT (brs p) none])], [], [(76, i)]⟩)
      (fun i => i ≤ ks.length) (fun i => ks.length - i) 0 (Nat.zero_le _)
      (H.to 1 1 ⟨Nat.le_trans hN (Nat.zero_le _), Nat.le_trans hR (Nat.zero_le _)⟩ ⟨rfl, rfl, rfl, rfl, rfl, trivial⟩ rfl rfl rfl rfl rfl) ?_
    clear H
    intro i a w hi H
    have hol : ((ks.take i).map (muG t)).length = i := by rw [List.length_map, List.length_take]; omega
    clear hX; have hX := And.intro @hkl (And.intro @hpl (And.intro @hPl (@hol)))
    refine mW ?_; clear H; intro a w H
    refine mC H (fun hb => ?_) (fun hb => ?_)
    · have hlt : i < ks.length := by
        cases hd : decide ((i : Int) < (ks.length : Int))
        · rw [hd] at hb; cases hb
        · rw [decide_eq_true_eq] at hd; omega
      clear hb
      have hg := bas_get ks i hlt
      have hmem := List.getElem_mem hlt
      have hq := hk32 _ hmem
      have hwy := hwy0 _ hmem
      have hFw := fin_wf ks[i] t 0 hlv
      have hsd := said20_v (t.way ks[i] 0) (t.fin ks[i] 0 Nd.zero) hFw ks[i] hq
      obtain ⟨sb, sv, hse, hsv⟩ := saidA_st (t.fin ks[i] 0 Nd.zero) hFw ks[i]
      have e2 : (ks.take (i + 1)).map (muG t) = (ks.take i).map (muG t) ++ [.st [.v (.bool sb), .ba sv]] := by
        rw [List.take_succ_eq_append_getElem hlt, List.map_append, ← hse]; rfl
      rw [hse] at hsd
      obtain ⟨v1, v2, v3, v4⟩ := hFw
      clear hse hwy0
      generalize ks[i] = q at *
      generalize t.way q 0 = W at *
      generalize t.fin q 0 Nd.zero = F at *
      obtain ⟨fk, fkey, fv, fl, fr2⟩ := F
      dsimp only at v1 v2 v3 v4
      simp only [Pf.av, Nd.av] at hwy hsd
      generalize (ks.take i).map (muG t) = o at *
      clear hX; have hX := And.intro @hkl (And.intro @hpl (And.intro @hPl (And.intro @hol (And.intro @hg (And.intro @hq (And.intro @v1 (And.intro @v2 (And.intro @v3 (And.intro @v4 (@hsv))))))))))
      refine mS ?_; refine mD 1 [6, 11, 12, 13] [0, 7, 8, 9, 10] H ?_; clear H; intro gS H
      refine mTN 5 hN H ?_; clear H; intro a w H; simp only [List.drop_succ_cons, List.drop_zero, List.drop_nil]
      refine mT ?_; clear H; intro a w H
      refine mCallT [] [] (hwy) H ?_; clear H; intro a w H
      refine mTN 3 hN H ?_; clear H; intro a w H; simp only [List.drop_succ_cons, List.drop_zero, List.drop_nil]
      refine mT ?_; clear H; intro a w H
      refine mCallT [] [] (hsd) H ?_; clear H; intro a w H
      refine mT ?_; clear H; intro a w H
      refine v_drawNil H ?_; clear H; intro H
      refine mW ?_; clear H; intro a w H
      rw [← e2, show (i : Int) + 1 = ((i + 1 : Nat) : Int) by omega] at H
      exact ⟨i + 1, hlt, by omega, H.to 1 1 ⟨Nat.le_trans hN (Nat.zero_le _), Nat.le_trans hR (Nat.zero_le _)⟩ ⟨rfl, rfl, rfl, rfl, rfl, trivial⟩ rfl rfl rfl rfl rfl⟩
    · have hge : i = ks.length := by
        cases hd : decide ((i : Int) < (ks.length : Int))
        · rw [decide_eq_false_iff_not] at hd; omega
        · rw [hd] at hb; exact absurd hb (by decide)
      clear hb
      subst hge
      rw [List.take_length] at H
      clear hX; have hX := And.intro @hkl (And.intro @hpl (@hPl))
      refine mW ?_; clear H; intro a w H
      refine wp_ret ?_; exact mEnd [] [] [.tmp 4, .tmp 5] [_, _] hN hR H
  · have hmA : muA ks p = [] := by unfold muA; rw [if_neg he]
    rw [muE_no he] at hp
    rw [hmA]
    generalize muE ks p = e at *
    have hd0 : decide (e = 0) = false := decide_eq_false he
    simp only [pls, List.map_nil] at hp
    refine mE Try.func28 ?_; intro N w0 a w hN hR H
    have hX := And.intro @hkl (And.intro @hpl (@hd0))
    refine mW ?_; clear H; intro a w H
    refine mCall [] [] (hp) H ?_; clear H; intro a w H; try refine wpList_nil ?_
    refine mW ?_; clear H; intro a w H
    refine v_loop (fun i : Nat => ⟨[(9, none, .v (.int .i64 0)), (8, none, .v (.slice none 0 0)), (7, none, .v (.int .i64 e)), (0, none, .sl (.ba 32) (bas ks) none)], [(ti44.ty, .st [.sl brT (brs p) none])], [], []⟩) (fun i => i = 0) (fun i => i) 0 rfl
      (H.to 1 0 ⟨Nat.le_trans hN (Nat.le_of_ble_eq_true rfl), Nat.le_trans hR (Nat.zero_le _)⟩ ⟨rfl, rfl, rfl, rfl, trivial⟩ rfl rfl rfl rfl rfl) ?_
    clear H
    rintro i a w rfl H
    refine mW ?_; clear H; intro a w H
    refine mC H (fun hb => ?_) (fun hb => ?_)
    · exfalso
      cases hd : decide ((0 : Int) < (ks.length : Int)) <;> rw [hd] at hb <;> exact absurd hb (by decide)
    · refine mW ?_; clear H; intro a w H
      refine wp_ret ?_; exact mEnd [] [] [.tmp 4, .tmp 5] [_, _] hN hR H
end Go.Proofs.Ytigmpdhnhkdeiaa
/- What a sketch for keys is asked: multi.Check, Root, Says, Single. -/
namespace Go.Proofs.Ytigmpdhnhkdeiaa
open Go Go.RowKit
theorem muD_len {ks : List (List UInt8)} {p : List Br} (hw : ∀ b ∈ p, b.wf) : (muD ks p).length = 32 := by
  unfold muD
  split
  · rename_i he
    obtain ⟨_, _, _, t, ht, hmt, _, _, _, hd, _⟩ := muE_zero hw he
    rw [hmt]; exact hd
  · exact List.length_replicate
theorem muWs_len {ks : List (List UInt8)} {p : List Br} (he : muE ks p = 0) : ((muWs ks p).map wyA).length = ks.length := by
  unfold muWs; rw [if_pos he, List.length_map, List.length_map]
theorem muWs_at {ks : List (List UInt8)} {p : List Br} (he : muE ks p = 0) (i : Nat) (h : i < ks.length) : ((muWs ks p).map wyA).getD i .any = (⟨(muT ks p).way ks[i] 0, (muT ks p).fin ks[i] 0 Nd.zero⟩ : Pf).av := by
  unfold muWs; rw [if_pos he]
  simp [List.getD_eq_getElem?_getD, h, wyA]
theorem muWs_no {ks : List (List UInt8)} {p : List Br} (he : muE ks p ≠ 0) : (muWs ks p).map wyA = [] := by
  unfold muWs; rw [if_neg he]; rfl
theorem nilPf (x : AV) : sub 4 (.st [.v (.slice none 0 0), x]) (.st [.sl (.ba 32) [] none, x]) := by
  unfold sub
  exact ⟨by unfold sub; rfl, sub_refl 3 _, trivial⟩
section
variable (ks : List (List UInt8)) (hk32 : ∀ k ∈ ks, k.length = 32) (p : List Br) (hw : ∀ b ∈ p, b.wf) (hl1 : ks.length ≤ 34359730000) (hl2 : p.length ≤ 34359730000)
include hk32 hw hl1 hl2
attribute [local irreducible] wpT
set_option maxRecDepth 20000 in
theorem mcheck_v : VC Try.prog 31 [.sl (.ba 32) (bas ks) none, .st [.sl brT (brs p) none]] [] (.v (.int .i64 (muE ks p))) := by
  have hrd := mread_v ks hk32 p hw hl1 hl2
  have hD := muD_len (ks := ks) hw
  generalize muE ks p = e at *
  generalize muD ks p = D at *
  generalize (muWs ks p).map wyA = W at *
  refine mE Try.func31 ?_; intro N w0 a w hN hR H
  have hX := @hD
  refine mW ?_; clear H; intro a w H
  refine mCall [] [] (hrd) H ?_; clear H; intro a w H; try refine wpList_nil ?_
  refine mW ?_; clear H; intro a w H
  refine wp_ret ?_; exact mEnd [] [] [.tmp 4] [_] hN hR H
set_option maxRecDepth 20000 in
theorem mroot_v : VC Try.prog 26 [.sl (.ba 32) (bas ks) none, .st [.sl brT (brs p) none]] [] (.tup [.ba (muD ks p), .v (.int .i64 (muE ks p))]) := by
  have hrd := mread_v ks hk32 p hw hl1 hl2
  have hD := muD_len (ks := ks) hw
  generalize muE ks p = e at *
  generalize muD ks p = D at *
  generalize (muWs ks p).map wyA = W at *
  refine mE Try.func26 ?_; intro N w0 a w hN hR H
  have hX := @hD
  refine mW ?_; clear H; intro a w H
  refine mCall [] [] (hrd) H ?_; clear H; intro a w H; try refine wpList_nil ?_
  refine mW ?_; clear H; intro a w H
  refine wp_ret ?_; exact mEnd [] [] [.cell 4 50, .tmp 5] [_, _] hN hR H
set_option maxRecDepth 20000 in
set_option maxHeartbeats 4000000 in
theorem msingle_v (i : Int) (hi : -9223372036854775808 ≤ i ∧ i < 9223372036854775808) : VC Try.prog 29 [.sl (.ba 32) (bas ks) none, .st [.sl brT (brs p) none], .v (.int .i64 i)] [] (.tup [(muW ks p i).av, .v (.int .i64 (muS ks p i))]) := by
  have hrd := mread_v ks hk32 p hw hl1 hl2
  have hD := muD_len (ks := ks) hw
  have hkl := bas_len ks
  generalize muD ks p = D at *
  have hz2 : (List.replicate 32 (0 : UInt8)).length = 32 := List.length_replicate
  by_cases he : muE ks p = 0
  · have hWl := muWs_len he
    have hWa := muWs_at he
    obtain ⟨_, _, _, t, ht, hmt, _, _, _, _, hlv⟩ := muE_zero hw he
    by_cases hr : 0 ≤ i ∧ i < (ks.length : Int)
    · obtain ⟨k, rfl⟩ := Int.eq_ofNat_of_zero_le hr.1
      have hk : k < ks.length := by omega
      have hg := hWa k hk
      have hFw := fin_wf ks[k] t 0 hlv
      have eW : muW ks p (k : Int) = ⟨t.way ks[k] 0, t.fin ks[k] 0 Nd.zero⟩ := by
        unfold muW
        rw [if_pos ⟨he, hr⟩, hmt, Int.toNat_natCast, List.getD_eq_getElem?_getD, List.getElem?_eq_getElem hk]; rfl
      have eS : muS ks p (k : Int) = 0 := by unfold muS; rw [if_pos he, if_pos hr]
      rw [hmt] at hg
      rw [eW, eS]
      rw [he] at hrd
      clear hWa eW eS
      generalize t.way ks[k] 0 = Wy at *
      generalize t.fin ks[k] 0 Nd.zero = F at *
      generalize (muWs ks p).map wyA = W at *
      obtain ⟨v1, v2, v3, v4⟩ := hFw
      obtain ⟨fk, fkey, fv, fl, fr2⟩ := F
      dsimp only at v1 v2 v3 v4
      have c1 : decide ((k : Int) < 0) = false := decide_eq_false (by omega)
      have c2 : decide ((ks.length : Int) ≤ (k : Int)) = false := decide_eq_false (by omega)
      simp only [Pf.av, Nd.av] at hg ⊢
      refine mE Try.func29 ?_; intro N w0 a w hN hR H
      have hX := And.intro @hD (And.intro @hkl (And.intro @hWl (And.intro @hg (And.intro @v1 (And.intro @v2 (And.intro @v3 (And.intro @v4 (And.intro @c1 (And.intro @c2 (@hz2))))))))))
      refine mW ?_; clear H; intro a w H
      refine mCall [] [] (hrd) H ?_; clear H; intro a w H; try refine wpList_nil ?_
      refine mW ?_; clear H; intro a w H
      refine mC H (fun hb => ?_) (fun hb => ?_)
      · exact absurd hb (by decide)
      · clear hb
        refine mW ?_; clear H; intro a w H
        refine mC H (fun hb => ?_) (fun hb => ?_)
        · exact absurd hb (by decide)
        · clear hb
          refine mS ?_
          (try refine wp_region_lit ?_); refine mN 3 hN H ?_; clear H; intro a w H
          refine mW ?_; clear H; intro a w H
          refine wp_ret ?_; exact mEnd [] [] [.cell 6 68, .tmp 7] [_, _] hN hR H
    · have eW : muW ks p i = ⟨[], Nd.zero⟩ := by unfold muW; rw [if_neg (fun h => hr h.2)]
      have eS : muS ks p i = 2 := by unfold muS; rw [if_pos he, if_neg hr]
      have hc : (bif decide (i < 0) then true else decide ((ks.length : Int) ≤ i)) = true := by
        cases h1 : decide (i < 0)
        · rw [decide_eq_false_iff_not] at h1
          show decide ((ks.length : Int) ≤ i) = true
          rw [decide_eq_true_eq]; omega
        · rfl
      rw [eW, eS]
      rw [he] at hrd
      clear hWa eW eS
      generalize (muWs ks p).map wyA = W at *
      simp only [Pf.av, Nd.av, Nd.zero, z32]
      rw [show bas [] = ([] : List AV) from rfl]
      refine mE Try.func29 ?_; intro N w0 a w hN hR H
      have hX := And.intro @hD (And.intro @hkl (And.intro @hWl (@hz2)))
      refine mW ?_; clear H; intro a w H
      refine mCall [] [] (hrd) H ?_; clear H; intro a w H; try refine wpList_nil ?_
      refine mW ?_; clear H; intro a w H
      refine mC H (fun hb => ?_) (fun hb => ?_)
      · exact absurd hb (by decide)
      · clear hb
        refine mW ?_; clear H; intro a w H
        refine mC H (fun hb => ?_) (fun hb => ?_)
        · clear hb
          refine mW ?_; clear H; intro a w H
          refine wp_ret ?_
          exact v_end [] [] tab_ok ⟨hN, hR⟩ (rs := [.cell 6 68, .tmp 7]) (ress := [_, _]) rfl H (by rfl) (by rfl) trivial rfl ⟨nilPf _, sub_refl _ _, trivial⟩ rfl
        · rw [hc] at hb; cases hb
  · have eW : muW ks p i = ⟨[], Nd.zero⟩ := by unfold muW; rw [if_neg (fun h => he h.1)]
    have eS : muS ks p i = muE ks p := by unfold muS; rw [if_neg he]
    rw [muWs_no he] at hrd
    rw [eW, eS]
    clear eW eS
    generalize muE ks p = e at *
    have hd0 : decide (e = 0) = false := decide_eq_false he
    simp only [Pf.av, Nd.av, Nd.zero, z32]
    rw [show bas [] = ([] : List AV) from rfl]
    refine mE Try.func29 ?_; intro N w0 a w hN hR H
    have hX := And.intro @hD (And.intro @hkl (@hz2))
    refine mW ?_; clear H; intro a w H
    refine mCall [] [] (hrd) H ?_; clear H; intro a w H; try refine wpList_nil ?_
    refine mW ?_; clear H; intro a w H
    simp only [hd0, Bool.not_false] at H
    refine mC H (fun hb => ?_) (fun hb => ?_)
    · clear hb
      refine mW ?_; clear H; intro a w H
      refine wp_ret ?_
      exact v_end [] [] tab_ok ⟨hN, hR⟩ (rs := [.cell 6 68, .tmp 7]) (ress := [_, _]) rfl H (by rfl) (by rfl) trivial rfl ⟨nilPf _, sub_refl _ _, trivial⟩ rfl
    · exact absurd hb (by decide)
set_option maxRecDepth 20000 in
set_option maxHeartbeats 4000000 in
theorem msays_v : VC Try.prog 27 [.sl (.ba 32) (bas ks) none, .st [.sl brT (brs p) none]] [] (.tup [.sl sdT (muA ks p) none, .v (.int .i64 (muE ks p))]) := by
  have hrd := mread_v ks hk32 p hw hl1 hl2
  have hD := muD_len (ks := ks) hw
  have hkl := bas_len ks
  generalize muD ks p = D at *
  have hz2 : (List.replicate 32 (0 : UInt8)).length = 32 := List.length_replicate
  by_cases he : muE ks p = 0
  · have hWl := muWs_len he
    have hWa := muWs_at he
    obtain ⟨h64, _, _, t, ht, hmt, _, _, _, _, hlv⟩ := muE_zero hw he
    have hmA : muA ks p = ks.map (muG t) := by unfold muA; rw [if_pos he, hmt]
    rw [he] at hrd
    rw [hmA, he]
    rw [hmt] at hWa
    generalize (muWs ks p).map wyA = W at *
    refine mE Try.func27 ?_; intro N w0 a w hN hR H
    have hX := And.intro @hD (And.intro @hkl (And.intro @hWl (@hz2)))
    refine mW ?_; clear H; intro a w H
    refine mCall [] [] (hrd) H ?_; clear H; intro a w H; try refine wpList_nil ?_
    refine mW ?_; clear H; intro a w H
    refine mC H (fun hb => ?_) (fun hb => ?_)
    · exact absurd hb (by decide)
    · clear hb
      refine mW ?_; clear H; intro a w H
      replace H := v_nilE tab_ok H 9 76 sdT (j := ti76) rfl (by decide) rfl
      simp only [nilT, reduceIte, Nat.reduceEqDiff, List.length_nil, List.nil_append] at H
      refine v_loop (fun i : Nat => ⟨[(25, none, .v (.int .i64 (i : Int))), (24, none, .v (.int .i64 (ks.length : Int))), (23, none, .sl pfT0 W none), (9, none, .sl sdT ((ks.take i).map (muG t)) (some 0)), (0, none, .sl (.ba 32) (bas ks) none)],
        [], [], [(76, i)]⟩)
        (fun i => i ≤ ks.length) (fun i => ks.length - i) 0 (Nat.zero_le _)
        (H.to 0 1 ⟨Nat.le_trans hN (Nat.zero_le _), Nat.le_trans hR (Nat.zero_le _)⟩ ⟨rfl, rfl, rfl, rfl, rfl, trivial⟩ rfl rfl rfl rfl rfl) ?_
      clear H
      intro i a w hi H
      have hol : ((ks.take i).map (muG t)).length = i := by rw [List.length_map, List.length_take]; omega
      clear hX; have hX := And.intro @hkl (And.intro @hWl (And.intro @hol (@hz2)))
      refine mW ?_; clear H; intro a w H
      refine mC H (fun hb => ?_) (fun hb => ?_)
      · have hlt : i < ks.length := by rw [decide_eq_true_eq] at hb; omega
        clear hb
        have hg := hWa i hlt
        have hk := bas_get ks i hlt
        have hq := hk32 _ (List.getElem_mem hlt)
        have hFw := fin_wf ks[i] t 0 hlv
        have e2 : (ks.take (i + 1)).map (muG t) = (ks.take i).map (muG t) ++ [saidA (t.fin ks[i] 0 Nd.zero) ks[i]] := by
          rw [List.take_succ_eq_append_getElem hlt, List.map_append]; rfl
        clear hWa
        generalize ks[i] = q at *
        generalize t.way q 0 = Wy at *
        generalize t.fin q 0 Nd.zero = F at *
        obtain ⟨v1, v2, v3, v4⟩ := hFw
        obtain ⟨fk, fkey, fv, fl, fr2⟩ := F
        dsimp only at v1 v2 v3 v4
        have k1 : decide ((fk.toNat : Int) = 1) = decide (fk = 1) := kz fk 1 (by decide)
        simp only [Pf.av, Nd.av] at hg
        generalize (ks.take i).map (muG t) = o at *
        refine mS ?_
        clear hX; have hX := And.intro @hkl (And.intro @hWl (And.intro @hol (And.intro @hg (And.intro @hk (And.intro @hq (And.intro @v1 (And.intro @v2 (And.intro @v3 (And.intro @v4 (@hz2))))))))))
        (try refine wp_region_lit ?_); refine mN 2 hN H ?_; clear H; intro a w H
        refine mW ?_; clear H; intro a w H
        refine mS ?_; refine mD 2 [] [] H ?_; clear H; intro gS H
        refine mTN 5 hN H ?_; clear H; intro a w H; simp only [List.drop_succ_cons, List.drop_zero, List.drop_nil]
        refine mTN 5 hN H ?_; clear H; intro a w H; simp only [List.drop_succ_cons, List.drop_zero, List.drop_nil]
        refine mTN 1 hN H ?_; clear H; intro a w H; simp only [List.drop_succ_cons, List.drop_zero, List.drop_nil]
        refine mT ?_; clear H; intro a w H
        refine v_drawNil H ?_; clear H; intro H
        simp only [k1] at H
        refine mC H (fun hb => ?_) (fun hb => ?_)
        · have e : fk = 1 ∧ fkey = q := by
            cases hd : decide (fk = 1)
            · rw [hd] at hb; cases hb
            · rw [hd] at hb; exact ⟨of_decide_eq_true hd, of_decide_eq_true hb⟩
          clear hb
          have es : saidA ⟨fk, fkey, fv, fl, fr2⟩ q = .st [.v (.bool true), .ba fv] := by unfold saidA; rw [if_pos e]
          rw [es] at e2
          refine mW ?_; clear H; intro a w H
          rw [← e2, show (i : Int) + 1 = ((i + 1 : Nat) : Int) by omega] at H
          exact ⟨i + 1, hlt, by omega, H.to 0 1 ⟨Nat.le_trans hN (Nat.zero_le _), Nat.le_trans hR (Nat.zero_le _)⟩ ⟨rfl, rfl, rfl, rfl, rfl, trivial⟩ rfl rfl rfl rfl rfl⟩
        · have e : ¬ (fk = 1 ∧ fkey = q) := by
            intro h
            rw [decide_eq_true h.1, decide_eq_true h.2] at hb
            cases hb
          clear hb
          have es : saidA ⟨fk, fkey, fv, fl, fr2⟩ q = .st [.v (.bool false), .ba (List.replicate 32 0)] := by unfold saidA; rw [if_neg e]; rfl
          rw [es] at e2
          refine mW ?_; clear H; intro a w H
          rw [← e2, show (i : Int) + 1 = ((i + 1 : Nat) : Int) by omega] at H
          exact ⟨i + 1, hlt, by omega, H.to 0 1 ⟨Nat.le_trans hN (Nat.zero_le _), Nat.le_trans hR (Nat.zero_le _)⟩ ⟨rfl, rfl, rfl, rfl, rfl, trivial⟩ rfl rfl rfl rfl rfl⟩
      · have hge : i = ks.length := by rw [decide_eq_false_iff_not] at hb; omega
        clear hb
        subst hge
        rw [List.take_length] at H
        clear hX; have hX := And.intro @hkl (@hWl)
        refine mW ?_; clear H; intro a w H
        refine wp_ret ?_; exact mEnd [] [] [.tmp 4, .tmp 5] [_, _] hN hR H
  · have hmA : muA ks p = [] := by unfold muA; rw [if_neg he]
    rw [muWs_no he] at hrd
    rw [hmA]
    generalize muE ks p = e at *
    have hd0 : decide (e = 0) = false := decide_eq_false he
    refine mE Try.func27 ?_; intro N w0 a w hN hR H
    have hX := And.intro @hD (And.intro @hkl (@hz2))
    refine mW ?_; clear H; intro a w H
    refine mCall [] [] (hrd) H ?_; clear H; intro a w H; try refine wpList_nil ?_
    refine mW ?_; clear H; intro a w H
    simp only [hd0, Bool.not_false] at H
    refine mC H (fun hb => ?_) (fun hb => ?_)
    · clear hb
      refine mW ?_; clear H; intro a w H
      refine wp_ret ?_; exact mEnd [] [] [.tmp 4, .tmp 5] [_, _] hN hR H
    · exact absurd hb (by decide)
end
end Go.Proofs.Ytigmpdhnhkdeiaa
/- Keys that are the same, sketches that are the same: law20.samePaths, Same. -/
namespace Go.Proofs.Ytigmpdhnhkdeiaa
open Go Go.RowKit
theorem brs_at (l : List Br) (i : Nat) (h : i < l.length) : (brs l).getD i .any = l[i].av := by simp [brs, List.getD_eq_getElem?_getD, h]
attribute [local irreducible] wpT
set_option maxRecDepth 20000 in
set_option maxHeartbeats 4000000 in
theorem samePaths_v (ks : List (List UInt8)) (hk32 : ∀ k ∈ ks, k.length = 32) (hl : ks.length ≤ 34359730000) : VC Try.prog 33 [.sl (.ba 32) (bas ks) none, .sl (.ba 32) (bas ks) none] [] (.v (.bool true)) := by
  have hkl := bas_len ks
  refine mE Try.func33 ?_; intro N w0 a w hN hR H
  have hX := @hkl
  refine mW ?_; clear H; intro a w H
  refine mC H (fun hb => ?_) (fun hb => ?_)
  · simp at hb
  · clear hb
    refine mS ?_
    replace H := mK [0, 1, 4] 0 0 hN hR H
    refine mW ?_; clear H; intro a w H
    refine v_loop (fun i : Nat => ⟨[(5, none, .v (.int .i64 (i : Int))), (4, none, .v (.bool false)), (1, none, .sl (.ba 32) (bas ks) none), (0, none, .sl (.ba 32) (bas ks) none)], [], [], []⟩)
      (fun i => i ≤ ks.length) (fun i => ks.length - i) 0 (Nat.zero_le _) (H.to 0 0 ⟨hN, hR⟩ ⟨rfl, rfl, rfl, rfl, trivial⟩ rfl rfl rfl rfl rfl) ?_
    clear H
    intro i a w hi H
    refine mW ?_; clear H; intro a w H
    refine mC H (fun hb => ?_) (fun hb => ?_)
    · have hlt : i < ks.length := by rw [decide_eq_true_eq] at hb; omega
      clear hb
      have hg := bas_get ks i hlt
      have hq := hk32 _ (List.getElem_mem hlt)
      generalize ks[i] = q at *
      clear hX; have hX := And.intro @hkl (And.intro @hg (@hq))
      refine mS ?_; refine mD 0 [] [] H ?_; clear H; intro gS H
      refine mTN 3 hN H ?_; clear H; intro a w H; simp only [List.drop_succ_cons, List.drop_zero, List.drop_nil]
      refine mTN 4 hN H ?_; clear H; intro a w H; simp only [List.drop_succ_cons, List.drop_zero, List.drop_nil]
      refine mT ?_; clear H; intro a w H
      refine v_drawNil H ?_; clear H; intro H
      refine mC H (fun hb => ?_) (fun hb => ?_)
      · simp at hb
      · clear hb
        refine mS ?_
        replace H := mK [0, 1, 4, 5] 0 0 hN hR H
        refine mW ?_; clear H; intro a w H
        rw [show (i : Int) + 1 = ((i + 1 : Nat) : Int) by omega] at H
        exact ⟨i + 1, hlt, by omega, H.to 0 0 ⟨hN, hR⟩ ⟨rfl, rfl, rfl, rfl, trivial⟩ rfl rfl rfl rfl rfl⟩
    · clear hb
      refine mW ?_; clear H; intro a w H
      refine wp_ret ?_; exact mEnd [] [] [.tmp 4] [_] hN hR H
set_option maxRecDepth 20000 in
set_option maxHeartbeats 4000000 in
theorem sameMu_v (p : List Br) (hw : ∀ b ∈ p, b.wf) (hl : p.length ≤ 34359730000) : VC Try.prog 34 [.st [.sl brT (brs p) none], .st [.sl brT (brs p) none]] [] (.v (.bool true)) := by
  have hpl := brs_len p
  refine mE Try.func34 ?_; intro N w0 a w hN hR H
  have hX := @hpl
  refine mW ?_; clear H; intro a w H
  refine mC H (fun hb => ?_) (fun hb => ?_)
  · simp at hb
  · clear hb
    refine mS ?_
    replace H := mK [2, 3, 4] 2 0 hN hR H
    refine mW ?_; clear H; intro a w H
    refine v_loop (fun i : Nat => ⟨[(5, none, .v (.int .i64 (i : Int))), (4, none, .v (.bool false)), (3, none, .ptr 1 []), (2, none, .ptr 0 [])], [(ti44.ty, .st [.sl brT (brs p) none]), (ti44.ty, .st [.sl brT (brs p) none])], [], []⟩)
      (fun i => i ≤ p.length) (fun i => p.length - i) 0 (Nat.zero_le _) (H.to 2 0 ⟨Nat.le_trans hN (Nat.zero_le _), hR⟩ ⟨rfl, rfl, rfl, rfl, trivial⟩ rfl rfl rfl rfl rfl) ?_
    clear H
    intro i a w hi H
    refine mW ?_; clear H; intro a w H
    refine mC H (fun hb => ?_) (fun hb => ?_)
    · have hlt : i < p.length := by rw [decide_eq_true_eq] at hb; omega
      clear hb
      have hg := brs_at p i hlt
      obtain ⟨b1, b2, b3⟩ := hw _ (List.getElem_mem hlt)
      generalize p[i] = b at *
      obtain ⟨bk, bkey, bv, bg⟩ := b
      simp only [Br.av] at hg
      dsimp only at b1 b2 b3
      clear hX; have hX := And.intro @hpl (And.intro @hg (And.intro @b1 (And.intro @b2 (@b3))))
      refine mS ?_; refine mD 2 [] [] H ?_; clear H; intro gS H
      refine mTN 4 hN H ?_; clear H; intro a w H; simp only [List.drop_succ_cons, List.drop_zero, List.drop_nil]
      refine mTN 5 hN H ?_; clear H; intro a w H; simp only [List.drop_succ_cons, List.drop_zero, List.drop_nil]
      refine mT ?_; clear H; intro a w H
      refine v_drawNil H ?_; clear H; intro H
      refine mC H (fun hb => ?_) (fun hb => ?_)
      · simp at hb
      · clear hb
        refine mS ?_
        replace H := mK [2, 3, 4, 5] 2 0 hN hR H
        refine mW ?_; clear H; intro a w H
        rw [show (i : Int) + 1 = ((i + 1 : Nat) : Int) by omega] at H
        exact ⟨i + 1, hlt, by omega, H.to 2 0 ⟨Nat.le_trans hN (Nat.zero_le _), hR⟩ ⟨rfl, rfl, rfl, rfl, trivial⟩ rfl rfl rfl rfl rfl⟩
    · clear hb
      refine mW ?_; clear H; intro a w H
      refine wp_ret ?_; exact mEnd [] [] [.tmp 4] [_] hN hR H
end Go.Proofs.Ytigmpdhnhkdeiaa
/- A sketch is copied: law20.Copy. -/
namespace Go.Proofs.Ytigmpdhnhkdeiaa
open Go Go.RowKit
attribute [local irreducible] wpT
set_option maxRecDepth 20000 in
set_option maxHeartbeats 4000000 in
theorem copyMu_v (p : List Br) (hw : ∀ b ∈ p, b.wf) (hl : p.length ≤ 34359730000) : VC Try.prog 24 [.st [.sl brT (brs p) none]] [] (.st [.sl brT (brs p) none]) := by
  have hpl := brs_len p
  refine mE Try.func24 ?_; intro N w0 a w hN hR H
  refine mS ?_
  have hX := @hpl
  (try refine wp_region_lit ?_); refine mN 2 hN H ?_; clear H; intro a w H
  refine wpList_nil ?_
  refine mS ?_
  (try refine wp_region_lit ?_); refine mN 4 hN H ?_; clear H; intro a w H
  simp only [List.replicate_zero, List.nil_append] at H
  replace H := v_sub H 6 (x := .sl brT (brs p) (some 0)) (y := .sl brT (brs p) none) ⟨rfl, rfl⟩ rfl (fun az h => by cases h) rfl
  simp only [nilT, reduceIte, Nat.reduceEqDiff] at H
  replace H := mK [1, 2, 6] 2 0 hN hR H
  refine mW ?_; clear H; intro a w H
  refine wp_ret ?_; exact mEnd [] [] [.cell 2 44] [_] hN hR H
end Go.Proofs.Ytigmpdhnhkdeiaa
/- The statements' kit: proofs compared and copied. -/
namespace Go.Proofs.Ytigmpdhnhkdeiaa
open Go Go.RowKit
theorem sameH_v (x y : List (List UInt8)) (hx : ∀ h ∈ x, h.length = 32) (hy : ∀ h ∈ y, h.length = 32) (hl : x.length ≤ 34359730000) : VC Try.prog 115 [.sl (.ba 32) (bas x) none, .sl (.ba 32) (bas y) none] [] (.v (.bool (decide (x = y)))) := by
  have hxl := bas_len x
  have hyl := bas_len y
  refine mE Try.func115 ?_; intro N w0 a w hN hR H
  refine mW ?_; clear H; intro a w H
  refine mC H (fun hb => ?_) (fun hb => ?_)
  · have hne : ¬ x = y := fun e => by rw [hxl, hyl, e] at hb; simp at hb
    rw [decide_eq_false hne]
    refine mW ?_; clear H; intro a w H
    refine wp_ret ?_; exact mEnd [] [] [.tmp 4] [_] hN hR H
  · have hll : x.length = y.length := by rw [hxl, hyl] at hb; simp at hb; omega
    have hX := And.intro @hxl (@hyl)
    refine mW ?_; clear H; intro a w H
    refine v_loop (fun k : Nat => ⟨[(5, none, .v (.int .i64 (k : Int))), (4, none, .v (.bool false)), (0, none, .sl (.ba 32) (bas x) none), (1, none, .sl (.ba 32) (bas y) none)], [], [], []⟩) (fun k => k ≤ x.length ∧ x.take k = y.take k) (fun k => x.length - k) 0 ⟨Nat.zero_le _, rfl⟩ (H.to 0 0 ⟨hN, hR⟩ ⟨rfl, rfl, rfl, rfl, trivial⟩ rfl rfl rfl rfl rfl) ?_
    clear H
    intro k a w hk H
    obtain ⟨hk, hkt⟩ := hk
    refine mW ?_; clear H; intro a w H
    refine mC H (fun hb => ?_) (fun hb => ?_)
    · have hlt : k < x.length := by simpa using hb
      have g1 := bas_get x k hlt
      have g2 := bas_get y k (by omega)
      have l1 := hx _ (List.getElem_mem hlt)
      have l2 := hy _ (List.getElem_mem (show k < y.length by omega))
      clear hX; have hX := And.intro @hxl (And.intro @hyl (And.intro @g1 (@g2)))
      refine mW ?_; clear H; intro a w H
      refine mS ?_; refine mD 0 [] [] H ?_; clear H; intro gS H
      refine mTN 3 hN H ?_; clear H; intro a w H; simp only [List.drop_succ_cons, List.drop_zero, List.drop_nil]
      refine mTN 4 hN H ?_; clear H; intro a w H; simp only [List.drop_succ_cons, List.drop_zero, List.drop_nil]
      refine mT ?_; clear H; intro a w H
      refine v_drawNil H ?_; clear H; intro H
      refine mC H (fun hb => ?_) (fun hb => ?_)
      · have hne : ¬ x = y := fun e => by subst e; simp at hb
        rw [decide_eq_false hne]
        refine mW ?_; clear H; intro a w H
        refine wp_ret ?_; exact mEnd [] [] [.tmp 4] [_] hN hR H
      · have he : x[k] = y[k]'(by omega) := by simpa using hb
        refine mW ?_; clear H; intro a w H
        exact ⟨k + 1, ⟨hlt, by rw [List.take_succ_eq_append_getElem hlt, List.take_succ_eq_append_getElem (show k < y.length by omega), hkt, he]⟩, by omega, H.to 0 0 ⟨hN, hR⟩ ⟨rfl, rfl, rfl, rfl, trivial⟩ rfl rfl rfl rfl rfl⟩
    · have hge : k = x.length := by simp at hb; omega
      subst hge
      have he : x = y := by rw [List.take_length, hll, List.take_length] at hkt; exact hkt
      rw [decide_eq_true he]
      clear hX
      refine mW ?_; clear H; intro a w H
      refine wp_ret ?_; exact mEnd [] [] [.tmp 4] [_] hN hR H
theorem sameP_eq (p q : List (List UInt8)) (n m : Nd) : (bif decide ((n.k.toNat : Int) = (m.k.toNat : Int)) && (decide (n.key = m.key) && (decide (n.v = m.v) && (decide (n.l = m.l) && decide (n.r = m.r)))) then decide (p = q) else false) = decide (Pf.mk p n = Pf.mk q m) := by
  obtain ⟨k1, a1, b1, c1, d1⟩ := n
  obtain ⟨k2, a2, b2, c2, d2⟩ := m
  have hk : ((k1.toNat : Int) = (k2.toNat : Int)) ↔ k1 = k2 := ⟨fun h => UInt8.toNat_inj.1 (by omega), fun h => by rw [h]⟩
  dsimp only
  by_cases h : (Pf.mk p ⟨k1, a1, b1, c1, d1⟩ = Pf.mk q ⟨k2, a2, b2, c2, d2⟩)
  · rw [decide_eq_true h]
    simp only [Pf.mk.injEq, Nd.mk.injEq] at h
    obtain ⟨rfl, rfl, rfl, rfl, rfl, rfl⟩ := h
    simp
  · rw [decide_eq_false h]
    rw [Bool.eq_false_iff]
    intro h2
    apply h
    rw [Bool.cond_eq_ite] at h2
    split at h2
    · rename_i h3
      simp only [Bool.and_eq_true, decide_eq_true_eq, hk] at h2 h3
      obtain ⟨rfl, rfl, rfl, rfl, rfl⟩ := h3
      rw [h2]
    · cases h2
set_option maxHeartbeats 1000000 in
theorem sameP_v (p q : Pf) (hp : p.wf) (hq : q.wf) (hl : p.s.length ≤ 34359730000) : VC Try.prog 32 [p.av, q.av] [] (.v (.bool (decide (p = q)))) := by
  have hs := sameH_v p.s q.s hp.s hq.s hl
  obtain ⟨p, n⟩ := p
  obtain ⟨q, m⟩ := q
  dsimp only at hs hl
  obtain ⟨g1, g2, g3, g4⟩ := id hp.e
  obtain ⟨f1, f2, f3, f4⟩ := id hq.e
  dsimp only at g1 g2 g3 g4 f1 f2 f3 f4
  refine mE Try.func32 ?_; intro N w0 a w hN hR H
  simp only [Pf.av, Nd.av] at H
  refine mW ?_; clear H; intro a w H
  refine mCallG [] [] (hs) H ?_; clear H; intro a w H; try refine wpList_nil ?_
  refine mW ?_; clear H; intro a w H
  rw [← sameP_eq] 
  refine wp_ret ?_; exact mEnd [] [] [.tmp 4] [_] hN hR H
end Go.Proofs.Ytigmpdhnhkdeiaa
/- MultiReads, in values. -/
namespace Go.Proofs.Ytigmpdhnhkdeiaa
open Go Go.RowKit
theorem muW_wf {ks : List (List UInt8)} (hk32 : ∀ k ∈ ks, k.length = 32) {p : List Br} (hw : ∀ b ∈ p, b.wf) (i : Int) : (muW ks p i).wf ∧ (muW ks p i).s.length ≤ 300 := by
  unfold muW
  split
  · rename_i h
    obtain ⟨he, h0, h1⟩ := h
    obtain ⟨_, _, hu, t, ht, hmt, _, _, _, _, hlv⟩ := muE_zero hw he
    have hlt : i.toNat < ks.length := by omega
    have hmem : ks.getD i.toNat [] ∈ ks := by rw [List.getD_eq_getElem?_getD, List.getElem?_eq_getElem hlt]; exact List.getElem_mem hlt
    have hnew : ∀ w ∈ ks.map MW.new, w.wf := fun w hw => by obtain ⟨k, hk, rfl⟩ := List.mem_map.1 hw; exact ⟨hk32 k hk, fun g hg => (by cases hg), zero_wf⟩
    have m1 := (mread_rd (p := p) hk32 hu).1 t [] ht
    have m4 := (plM_wf (f := 257) (top := List.replicate 32 0) (d := 0) hw hnew).ws
    have m5 := plM_few (m := 0) (f := 257) (top := List.replicate 32 0) (d := 0) (ws := ks.map MW.new) (l := p) (fun w hw => by obtain ⟨k, hk, rfl⟩ := List.mem_map.1 hw; exact Nat.le_refl _)
    rw [m1] at m4 m5
    rw [hmt]
    generalize ks.getD i.toNat [] = k at *
    have hk : MW.by t 0 (MW.new k) ∈ (ks.map MW.new).map (MW.by t 0) := List.mem_map_of_mem (List.mem_map_of_mem hmem)
    have a4 := m4 _ hk
    have a5 := m5 _ hk
    have e : (MW.by t 0 (MW.new k)).sd = (t.way k 0).reverse := by simp [MW.by, MW.new]
    rw [e, List.length_reverse] at a5
    refine ⟨⟨fun g hg => a4.sd g (by rw [e]; exact List.mem_reverse.2 hg), fin_wf k t 0 hlv⟩, by show (t.way k 0).length ≤ 300; omega⟩
  · exact ⟨⟨fun g hg => (by cases hg), zero_wf⟩, Nat.zero_le _⟩
attribute [local irreducible] wpT
set_option maxRecDepth 20000 in
set_option maxHeartbeats 16000000 in
theorem multiReads_v (ks : List (List UInt8)) (hk32 : ∀ k ∈ ks, k.length = 32) (p : List Br) (hw : ∀ b ∈ p, b.wf) (hl1 : ks.length ≤ 34359730000) (hl2 : p.length ≤ 34359730000) (i : Int) (hi : -9223372036854775808 ≤ i ∧ i < 9223372036854775808) :
    VC Try.prog 4 [.sl (.ba 32) (bas ks) none, .st [.sl brT (brs p) none], .v (.int .i64 i)] [] (.v (.bool true)) := by
  have hkl := bas_len ks
  have hpl := brs_len p
  have hz2 : (List.replicate 32 (0 : UInt8)).length = 32 := List.length_replicate
  refine mE Try.func4 ?_; intro N w0 a w hN hR H
  have hX := And.intro @hkl (And.intro @hpl (@hz2))
  refine mW ?_; clear H; intro a w H
  refine mC H (fun hb => ?_) (fun hb => ?_)
  · clear hb
    refine mW ?_; clear H; intro a w H
    refine wp_ret ?_; exact mEnd [] [] [.tmp 6] [_] hN hR H
  · have e : ¬ (70 < ks.length ∨ 3000 < p.length) := by
      cases hd : decide ((70 : Int) < (ks.length : Int))
      · rw [hd] at hb
        have : decide ((3000 : Int) < (p.length : Int)) = false := hb
        rw [decide_eq_false_iff_not] at this hd; omega
      · rw [hd] at hb; cases hb
    clear hb
    have hl70 : ks.length ≤ 70 := by omega
    have hl3 : p.length ≤ 3000 := by omega
    clear e
    have c1 := places20_v ks hk32 p hw hl1 hl2
    have c2 := mroot_v ks hk32 p hw hl1 hl2
    have c3 := msays_v ks hk32 p hw hl1 hl2
    have c4 := says20_v ks hk32 p hw hl1 hl2
    have c5 := msingle_v ks hk32 p hw hl1 hl2 i hi
    have c6 := single20_v ks hk32 p hw hl1 hl2 i hi
    have c7 := mcheck_v ks hk32 p hw hl1 hl2
    have c8 := copyMu_v p hw hl2
    have c9 := samePaths_v ks hk32 hl1
    have c10 := sameMu_v p hw hl2
    obtain ⟨w1, w2⟩ := muW_wf hk32 hw i
    have c11 := sameP_v (muW ks p i) (muW ks p i) w1 w1 (by omega)
    have hD := muD_len (ks := ks) hw
    obtain ⟨w3, v1, v2, v3, v4⟩ := w1
    generalize muW ks p i = PF at *
    generalize muS ks p i = es at *
    obtain ⟨sd, fk, fkey, fv, fl, fr2⟩ := PF
    rw [decide_eq_true (rfl : (⟨sd, ⟨fk, fkey, fv, fl, fr2⟩⟩ : Pf) = ⟨sd, ⟨fk, fkey, fv, fl, fr2⟩⟩)] at c11
    dsimp only at v1 v2 v3 v4 w2 w3
    simp only [Pf.av, Nd.av] at c5 c6 c11
    refine mS ?_
    replace H := v_ref H 4 0 (Nat.le_trans hN (Nat.le_of_ble_eq_true rfl)) rfl rfl rfl
    simp only [nilT, strip, List.map_cons, List.map_nil, reduceIte, Nat.reduceEqDiff] at H
    replace H := mK [0, 2, 4, 6] 1 0 hN hR H
    revert a w
    apply cutG9 (R := fun a w => Rel Try.prog w0 N Try.f4.ntmps ⟨[(8, none, .ptr 1 []), (7, none, .sl (.ba 32) (bas ks) (some 0)), (6, none, .v (.bool false)), (4, none, .ref ti44.ty (.st [.sl brT (brs p) none])), (0, none, .sl (.ba 32) (bas ks) none), (2, none, .v (.int .i64 i))], [(ti44.ty, .st [.sl brT (brs p) none]), (ti44.ty, .st [.sl brT (brs p) none])], [0], [(52, ks.length)]⟩ a w)
    · intro key1 a w H
      repeat (first | refine wp_seq ?_ | refine wp_block ?_)
      refine v_drawZ 0 [0, 1, 2, 3, 4, 5, 6, 7] [0, 2, 4, 5, 7] [1, 3] [(0, 5), (2, 5), (4, 5)] (by kernel_rfl) (by kernel_rfl) (by kernel_rfl) (by kernel_rfl) (by kernel_rfl) H (by rfl) ?_; clear H; intro gS H; try replace H := ntf H
      repeat' ((first | refine wpZ_q1 rfl rfl ?_ | refine wpZ_l1 rfl rfl rfl ?_ | refine wpZ_l2 rfl rfl rfl rfl rfl ?_ ?_ | refine wpZ_l3 rfl rfl rfl rfl rfl rfl rfl ?_ ?_ ?_ | refine wpZ_l4 rfl rfl rfl rfl rfl rfl rfl rfl rfl ?_ ?_ ?_ ?_) <;> ((first | (refine wpT_at 4 ?_; refine mCallT [] [] (c8) H ?_; clear H; intro a w H) | (refine wpT_at 2 ?_; (refine v_someT 1 tab_ok hN H rfl ctX ?_; clear H; intro a w H; replace H := ntf H; simp only [List.replicate_zero, List.nil_append, List.length_nil, Nat.zero_add] at H)) | (refine v_someT 1 tab_ok hN H rfl ctX ?_; clear H; intro a w H; replace H := ntf H; simp only [List.drop_succ_cons, List.drop_zero, List.drop_nil])); refine wpT_nil ?_; try dsimp only))
      all_goals (refine wpZ_nil ?_; replace H := RelT.toRel H)
      all_goals
        exact key1 _ _ (H.to 2 1 ⟨Nat.le_trans hN (Nat.le_of_ble_eq_true rfl), Nat.le_trans hR (Nat.zero_le _)⟩ ⟨rfl, rfl, rfl, rfl, rfl, rfl, trivial⟩ rfl rfl rfl rfl rfl)
    intro a w H
    replace H := v_sub H 7 (x := .sl (.ba 32) (bas ks) (some 0)) (y := .sl (.ba 32) (bas ks) none) ⟨rfl, rfl⟩ rfl (fun az h => by cases h) rfl
    simp only [nilT, reduceIte, Nat.reduceEqDiff] at H
    replace H := v_ref H 8 1 (Nat.le_trans hN (Nat.zero_le _)) rfl rfl rfl
    simp only [nilT, strip, List.map_cons, List.map_nil, reduceIte, Nat.reduceEqDiff] at H
    replace H := mK [0, 2, 4, 6, 7, 8] 2 0 hN hR H
    refine mW ?_; clear H; intro a w H
    refine mCall [] [] (c1) H ?_; clear H; intro a w H; try refine wpList_nil ?_
    refine mW ?_; clear H; intro a w H
    revert a w
    apply cutG9 (R := fun a w => Rel Try.prog w0 N Try.f4.ntmps ⟨[(11, none, .ptr 2 []), (10, none, .v (.int .i64 (muE ks p))), (8, none, .ref ti44.ty (.st [.sl brT (brs p) none])), (7, none, .sl (.ba 32) (bas ks) none), (6, none, .v (.bool false)), (4, none, .ref ti44.ty (.st [.sl brT (brs p) none])), (0, none, .sl (.ba 32) (bas ks) none), (2, none, .v (.int .i64 i))], [(ti44.ty, .st [.sl brT (brs p) none]), (ti44.ty, .st [.sl brT (brs p) none]), (.ba 32, .ba (muD ks p))], [1, 0], []⟩ a w)
    · intro key1 a w H
      refine mC H (fun hb => ?_) (fun hb => ?_)
      · rw [decide_eq_true_eq] at hb
        obtain ⟨_, _, _, t, ht, hmt, hmp, _, _, _, _⟩ := muE_zero hw hb
        have eD : muD ks p = t.dg := by unfold muD; rw [if_pos hb, hmt]
        have hPl := pls_len (t.pl (List.replicate 32 0) 0)
        rw [t.pl_len] at hPl
        have hnp := t.num_pos
        have hg0 : ∃ x1 x2 x3 x4, (pls (muPl ks p)).getD 0 .any = .st [x1, .ba (muD ks p), x2, x3, x4] := by
          rw [hmp, eD]
          cases t <;> exact ⟨_, _, _, _, rfl⟩
        rw [← hmp] at hPl
        obtain ⟨x1, x2, x3, x4, hg0⟩ := hg0
        clear hb
        have hX := And.intro hX (And.intro hPl (And.intro hg0 hD))
        refine mS ?_
        (try refine wp_region_lit ?_); refine mN 2 hN H ?_; clear H; intro a w H
        (try refine wp_region_lit ?_); refine mN 3 hN H ?_; clear H; intro a w H
        refine wpList_nil ?_
        refine mS ?_
        exact key1 _ _ (H.to 3 0 ⟨Nat.le_trans hN (Nat.le_of_ble_eq_true rfl), hR⟩ ⟨rfl, rfl, rfl, rfl, rfl, rfl, rfl, rfl, trivial⟩ rfl rfl rfl rfl rfl)
      · rw [decide_eq_false_iff_not] at hb
        have eD : muD ks p = List.replicate 32 0 := by unfold muD; rw [if_neg hb]
        clear hb
        refine mS ?_
        exact key1 _ _ (H.to 3 0 ⟨Nat.le_trans hN (Nat.le_of_ble_eq_true rfl), hR⟩ ⟨rfl, rfl, rfl, rfl, rfl, rfl, rfl, rfl, trivial⟩ (by rw [eD]; rfl) rfl rfl rfl rfl)
    intro a w H
    clear hX; have hX := And.intro @hkl (And.intro @hpl (And.intro @hz2 (And.intro @hD (And.intro @v1 (And.intro @v2 (And.intro @v3 (@v4)))))))
    refine mW ?_; clear H; intro a w H
    refine mCall [] [] (c2) H ?_; clear H; intro a w H; try refine wpList_nil ?_
    refine mW ?_; clear H; intro a w H
    refine mCall [] [] (c3) H ?_; clear H; intro a w H; try refine wpList_nil ?_
    refine mW ?_; clear H; intro a w H
    refine mCall [] [] (c4) H ?_; clear H; intro a w H; try refine wpList_nil ?_
    refine mW ?_; clear H; intro a w H
    refine mCall [] [] (c5) H ?_; clear H; intro a w H; try refine wpList_nil ?_
    refine mW ?_; clear H; intro a w H
    refine mCall [] [] (c6) H ?_; clear H; intro a w H; try refine wpList_nil ?_
    refine mW ?_; clear H; intro a w H
    refine mCall [] [] (c7) H ?_; clear H; intro a w H; try refine wpList_nil ?_
    refine mW ?_; clear H; intro a w H
    refine mCallG [] [] (c11) H ?_; clear H; intro a w H; try refine wpList_nil ?_
    refine mW ?_; clear H; intro a w H
    refine mC H (fun hb => ?_) (fun hb => ?_)
    · exact absurd hb (by decide)
    clear hb
    refine mW ?_; clear H; intro a w H
    have hA : ∀ n, n < (muA ks p).length → ∃ b v, (muA ks p).getD n .any = .st [.v (.bool b), .ba v] ∧ v.length = 32 := fun n hn => by
      unfold muA at hn ⊢
      split
      · rename_i he
        obtain ⟨_, _, _, t, ht, hmt, _, _, _, _, hlv⟩ := muE_zero hw he
        rw [if_pos he, List.length_map] at hn
        obtain ⟨b, v, h1, h2⟩ := saidA_st (t.fin ks[n] 0 Nd.zero) (fin_wf ks[n] t 0 hlv) ks[n]
        refine ⟨b, v, ?_, h2⟩
        rw [hmt, List.getD_eq_getElem?_getD, List.getElem?_map, List.getElem?_eq_getElem hn]
        exact h1
      · rename_i he
        rw [if_neg he] at hn
        exact absurd hn (Nat.not_lt_zero _)
    have hAl : (muA ks p).length ≤ 70 := by
      unfold muA
      split
      · rw [List.length_map]; exact hl70
      · exact Nat.zero_le _
    generalize muA ks p = A at *
    refine v_loop (fun k : Nat => ⟨[(22, none, .v (.int .i64 (k : Int))), (16, none, .sl sdT A none), (14, none, .sl sdT A none), (8, none, .ref ti44.ty (.st [.sl brT (brs p) none])), (7, none, .sl (.ba 32) (bas ks) none), (4, none, .ref ti44.ty (.st [.sl brT (brs p) none])), (0, none, .sl (.ba 32) (bas ks) none)], [(ti44.ty, .st [.sl brT (brs p) none]), (ti44.ty, .st [.sl brT (brs p) none])], [1, 0], []⟩) (fun k => k ≤ A.length) (fun k => A.length - k) 0 (Nat.zero_le _)
      (H.to 2 0 ⟨Nat.le_trans hN (Nat.zero_le _), Nat.le_trans hR (Nat.zero_le _)⟩ ⟨rfl, rfl, rfl, rfl, rfl, rfl, rfl, trivial⟩ rfl rfl rfl rfl rfl) ?_
    clear H
    intro k a w hk H
    clear hX; have hX := And.intro @hkl (And.intro @hpl (@hz2))
    refine mW ?_; clear H; intro a w H
    refine mC H (fun hb => ?_) (fun hb => ?_)
    · have hlt : k < A.length := by rw [decide_eq_true_eq] at hb; omega
      clear hb
      obtain ⟨b, v, hg, hvl⟩ := hA k hlt
      clear hX; have hX := And.intro @hkl (And.intro @hpl (And.intro @hz2 (And.intro @hg (@hvl))))
      refine mS ?_; refine mD 0 [] [] H ?_; clear H; intro gS H
      refine mTN 3 hN H ?_; clear H; intro a w H; simp only [List.drop_succ_cons, List.drop_zero, List.drop_nil]
      refine mTN 1 hN H ?_; clear H; intro a w H; simp only [List.drop_succ_cons, List.drop_zero, List.drop_nil]
      refine mTN 3 hN H ?_; clear H; intro a w H; simp only [List.drop_succ_cons, List.drop_zero, List.drop_nil]
      refine mT ?_; clear H; intro a w H
      refine v_drawNil H ?_; clear H; intro H
      refine mC H (fun hb => ?_) (fun hb => ?_)
      · exact absurd hb (by cases b <;> decide)
      · clear hb
        refine mW ?_; clear H; intro a w H
        rw [show (k : Int) + 1 = ((k + 1 : Nat) : Int) by omega] at H
        exact ⟨k + 1, hlt, by omega, H.to 2 0 ⟨Nat.le_trans hN (Nat.zero_le _), Nat.le_trans hR (Nat.zero_le _)⟩ ⟨rfl, rfl, rfl, rfl, rfl, rfl, rfl, trivial⟩ rfl rfl rfl rfl rfl⟩
    · have hge : k = A.length := by rw [decide_eq_false_iff_not] at hb; omega
      clear hb
      refine mW ?_; clear H; intro a w H
      refine mCall [] [] (c9) H ?_; clear H; intro a w H; try refine wpList_nil ?_
      refine mW ?_; clear H; intro a w H
      refine mCallG [] [] (c10) H ?_; clear H; intro a w H; try refine wpList_nil ?_
      refine mW ?_; clear H; intro a w H
      refine wp_ret ?_; exact mEnd [] [] [.tmp 6] [_] hN hR H
end Go.Proofs.Ytigmpdhnhkdeiaa
/- Nodes among the arguments. -/
namespace Go.Proofs.Ytigmpdhnhkdeiaa
open Go Go.RowKit
end Go.Proofs.Ytigmpdhnhkdeiaa
/- Parts of sketches and spans among the arguments. -/
namespace Go.Proofs.Ytigmpdhnhkdeiaa
open Go Go.RowKit
theorem br_sh {M d : Nat} {a : AV} (h : Sh tab M (d + 2) 54 a) : ∃ b : Br, a = b.av ∧ b.wf := by
  obtain ⟨az, rfl, hs⟩ := h.rcd rfl rfl
  clear h; have h := hs; clear hs; dsimp only [List.map] at h
  obtain ⟨a0, r, rfl, h0, h⟩ := shl_cons h
  obtain ⟨a1, r, rfl, h1, h⟩ := shl_cons h
  obtain ⟨a2, r, rfl, h2, h⟩ := shl_cons h
  obtain ⟨a3, r, rfl, h3, h⟩ := shl_cons h
  obtain rfl := shl_nil h
  obtain ⟨n, rfl, hn⟩ := h0.int rfl rfl
  obtain ⟨u, hu⟩ := u8_of hn
  obtain ⟨k, rfl, hk⟩ := h1.arr rfl rfl
  obtain ⟨v, rfl, hv⟩ := h2.arr rfl rfl
  obtain ⟨g, rfl, hg⟩ := h3.arr rfl rfl
  exact ⟨⟨u, k, v, g⟩, by rw [hu]; rfl, ⟨hk, hv, hg⟩⟩
theorem brs_sh {M d : Nat} {a : AV} (h : Sh tab M (d + 3) 22 a) : ∃ l : List Br, a = .sl ti54.ty (l.map Br.av) none ∧ (∀ b ∈ l, b.wf) ∧ l.length ≤ M := by
  obtain ⟨es, rfl, hl, he⟩ := h.slc rfl rfl rfl
  obtain ⟨ys, rfl, hy⟩ := sh_list (q := Br.wf) (f := Br.av) (fun x hx => br_sh hx) he
  exact ⟨ys, rfl, hy, by simpa using hl⟩
end Go.Proofs.Ytigmpdhnhkdeiaa
/- MultiReads, of all arguments of its types. -/
namespace Go.Proofs.Ytigmpdhnhkdeiaa
open Go Go.RowKit
theorem mu_sh {M d : Nat} {a : AV} (h : Sh tab M (d + 4) 44 a) : ∃ p : List Br, a = .st [.sl ti54.ty (p.map Br.av) none] ∧ (∀ b ∈ p, b.wf) ∧ p.length ≤ M := by
  obtain ⟨az, rfl, hs⟩ := h.rcd rfl rfl
  clear h; have h := hs; clear hs; dsimp only [List.map] at h
  obtain ⟨a0, r, rfl, h0, h⟩ := shl_cons h
  obtain rfl := shl_nil h
  obtain ⟨p, rfl, hp, hpl⟩ := brs_sh h0
  exact ⟨p, rfl, hp, hpl⟩
theorem multiReads_az (az : List AV) (h : ShL (Sh tab 1048576 6) [42, 44, 3] az) : VC Try.prog 4 az [] (.v (.bool true)) := by
  obtain ⟨a0, r, rfl, h0, h⟩ := shl_cons h
  obtain ⟨a1, r, rfl, h1, h⟩ := shl_cons h
  obtain ⟨a2, r, rfl, h2, h⟩ := shl_cons h
  obtain rfl := shl_nil h
  obtain ⟨es, rfl, hl0, he⟩ := h0.slc rfl rfl rfl
  obtain ⟨ks, rfl, hk⟩ := sh_list (q := fun l : List UInt8 => l.length = 32) (f := AV.ba) (fun x hx => hx.arr rfl rfl) he
  obtain ⟨p, rfl, hp, hpl⟩ := mu_sh h1
  obtain ⟨n, rfl, hn⟩ := h2.int rfl rfl
  rw [List.length_map] at hl0
  exact multiReads_v ks hk p hp (Nat.le_trans hl0 (by decide)) (Nat.le_trans hpl (by decide)) n ⟨hn.1, Int.lt_of_le_of_lt hn.2 (by decide)⟩
end Go.Proofs.Ytigmpdhnhkdeiaa
