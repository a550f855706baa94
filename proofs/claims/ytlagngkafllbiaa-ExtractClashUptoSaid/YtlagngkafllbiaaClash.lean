/- Rows of slices turned round in place; regions in every order of their loud operations. -/
import Derived.Test.YtlagngkafllbiaaPack
import Derived.Shelf.SlicesE.Reverse
import Derived.Test.YtlagngkafllbiaaVer
set_option linter.unusedSimpArgs false
set_option linter.unusedVariables false
namespace Go.Proofs.Ytlagngkafllbiaa
open Go Go.RowKit
def revR : Go.Shelf.Ren := ⟨fun x => if x = 35 then 30 else x, fun x => if x = 22 then 26 else if x = 23 then 24 else x, fun x => x⟩
theorem revLay : SlLaysE.n35 Try.prog revR :=
  { mixed := by kernel_rfl
    f35 := ⟨Try.f30.name, by decide, by kernel_rfl⟩
    t0 := Try.underlying0
    a0 := Try.isAgg0
    z0 := Try.sizeOf0
    v0 := Try.zeroValue0
    t3 := Try.underlying3
    a3 := Try.isAgg3
    z3 := Try.sizeOf3
    v3 := Try.zeroValue3
    t4 := Try.underlying4
    a4 := Try.isAgg4
    z4 := Try.sizeOf4
    v4 := Try.zeroValue4
    t22 := Try.underlying26
    a22 := Try.isAgg26
    z22 := Try.sizeOf26
    v22 := Try.zeroValue26
    a23 := Try.isAgg24
    z23 := Try.sizeOf24 }
abbrev OneV := { v : Value // v.oneCell' = true }
instance : Inhabited OneV := ⟨⟨.bool false, rfl⟩⟩
def oneV (v : OneV) : Value := v.val
theorem oneV_ok : OneCell oneV := fun v => v.property
theorem oneV_list : ∀ (vs : List Value), (∀ v ∈ vs, v.oneCell' = true) → ∃ zs : List OneV, zs.map oneV = vs
  | [], _ => ⟨[], rfl⟩
  | v :: vs, h => by
    obtain ⟨zs, hz⟩ := oneV_list vs fun x hx => h x (List.mem_cons_of_mem _ hx)
    exact ⟨⟨v, h v List.mem_cons_self⟩ :: zs, by simp [hz, oneV]⟩
theorem rev_blk (vs sp : List Value) (k cap : Nat) {t : TypeId} (w : World) (h1 : ∀ v ∈ vs, v.oneCell' = true) (hb : Blk w k t (vs ++ sp).toArray) (hsz : vs.length ≤ 9223372036854775807) :
    Calls Try.prog 30 #[.slice (some ⟨k, 0, none⟩) vs.length cap] w fun e w' => e = .returned (.tuple #[]) ∧ Blk w' k t (vs.reverse ++ sp).toArray ∧ (∀ j, j ≠ k → w'.heap[j]? = w.heap[j]?) ∧ w'.heap.size = w.heap.size ∧ w'.os = w.os ∧ w'.tape = w.tape ∧ w'.output = w.output := by
  obtain ⟨zs, rfl⟩ := oneV_list vs h1
  have hH : Go.Sort.Holds oneV w k 0 zs.toArray := fun j hj => by
    have hj' : j < zs.length := by simpa using hj
    refine ⟨?_, frozen_of_row w k (0 + j) _ t hb⟩
    rw [hb.cell, Nat.zero_add, List.getElem?_toArray, List.getElem?_append_left (by simpa using hj')]
    simp [hj', getElem!_pos]
  have h := AnyE.slices_Reverse revLay oneV oneV_ok k 0 cap zs w hH (by simpa using hsz)
  rw [List.length_map]
  refine h.mono ?_
  rintro e w' ⟨rfl, n, rfl⟩
  refine ⟨rfl, ?_, fun j hj => ?_, ?_, rfl, rfl, rfl⟩
  · unfold Blk at hb ⊢
    simp only [Go.Sort.putRow, Go.Sort.mapBlock, Go.Sort.ahead]
    rw [Array.getElem?_modify, if_pos rfl, hb]
    simp only [Option.map_some, Go.Sort.onCells]
    congr 2
    apply Array.ext_getElem?
    intro j
    simp only [Go.Sort.putCells, Array.getElem?_mapIdx, List.getElem?_toArray, Nat.zero_le, true_and, Nat.zero_add, Nat.sub_zero, List.size_toArray, List.length_reverse]
    by_cases hj : j < zs.length
    · rw [List.getElem?_append_left (by simpa using hj), List.getElem?_append_left (by simpa using hj)]
      simp [hj, getElem!_pos, oneV]
    · rw [List.getElem?_append_right (by simp; omega), List.getElem?_append_right (by simp; omega)]
      simp only [List.length_map, List.length_reverse]
      cases sp[j - zs.length]? with
      | none => rfl
      | some x => simp [hj]
  · simp only [Go.Sort.putRow, Go.Sort.mapBlock, Go.Sort.ahead]
    rw [Array.getElem?_modify, if_neg (fun e => hj e.symm)]
  · simp [Go.Sort.putRow, Go.Sort.mapBlock, Go.Sort.ahead]
end Go.Proofs.Ytlagngkafllbiaa
namespace Go.Proofs.Ytlagngkafllbiaa
open Go Go.RowKit
/-- Values that lean on no cell but bytes. -/
def leafA : AV → Bool
  | .v _ => true
  | .ba _ => true
  | .bs _ none => true
  | .bc _ _ none => true
  | .ptr _ _ => true
  | .pti _ _ _ => true
  | .win _ _ _ _ => true
  | .ref (.ba _) (.ba _) => true
  | .any => true
  | _ => false
def plainA : Nat → AV → Bool
  | d + 1, .st fs => fs.all (plainA d)
  | d + 1, .tup fs => fs.all (plainA d)
  | _, a => leafA a
theorem RC.plain {g g2 : Gh} (hro : ∀ b o c, g.ro b o = some (B8 c) → g2.ro b o = some (B8 c)) (hbx : g2.bx = g.bx) : ∀ {d : Nat} {T : Ty} {a : AV} {cs : List Value}, RC g T a cs → plainA d a = true → RC g2 T a cs := by
  intro d
  have leaf : ∀ {T : Ty} {a : AV} {cs : List Value}, RC g T a cs → leafA a = true → RC g2 T a cs := by
    intro T a cs h hp
    cases h with
    | v h => exact .v h
    | ba h => exact .ba h
    | nl => simp [leafA] at hp
    | cn h hs => simp [leafA] at hp
    | bs hc hm hr ht =>
      rename_i l tok A c
      cases tok with
      | some j => simp [leafA] at hp
      | none =>
        refine .bs hc hm ?_ fun i hi => by cases hi
        rcases hr with h | ⟨b, o, hA, hj⟩
        · exact .inl h
        · exact .inr ⟨b, o, hA, fun j hj' => hro _ _ _ (hj j hj')⟩
    | sl hc hm F hr hv ht => simp [leafA] at hp
    | ptr h ho => exact .ptr (by rw [hbx]; exact h) ho
    | pti h ho hk => exact .pti (by rw [hbx]; exact h) ho hk
    | win h ho hn hc hm hA => exact .win (by rw [hbx]; exact h) ho hn hc hm hA
    | bc hn hm hr ht =>
      rename_i l n tok A
      cases tok with
      | some j => simp [leafA] at hp
      | none =>
        refine .bc hn hm ?_ fun i hi => by cases hi
        rcases hr with h | ⟨b, o, hA, hj⟩
        · exact .inl h
        · exact .inr ⟨b, o, hA, fun j hj' => hro _ _ _ (hj j hj')⟩
    | ref cs h hr =>
      cases h with
      | ba h =>
        rename_i n l
        refine .ref (l.map B8) (.ba h) fun j u hu => ?_
        have := hr j u hu
        simp only [List.getElem?_map, Option.map_eq_some_iff] at hu
        obtain ⟨c, _, rfl⟩ := hu
        exact hro _ _ _ this
      | _ => simp [leafA] at hp
  induction d with
  | zero => exact fun {T a cs} h hp => leaf h (by cases a <;> exact hp)
  | succ d ih =>
    intro T a cs h hp
    have key : ∀ {T : Ty} {cs : List Value} {fs : List AV}, RC g T (.st fs) cs → fs.all (plainA d) = true → RC g2 T (.st fs) cs := by
      intro T
      induction T with
      | cn T Ts _ ihs =>
        intro cs fs h hp
        cases h with
        | cn h hs =>
          simp only [List.all_cons, Bool.and_eq_true] at hp
          exact .cn (ih h hp.1) (ihs hs hp.2)
      | nl => intro cs fs h hp; cases h; exact .nl
      | _ => intro cs fs h hp; cases h
    cases a with
    | st fs => exact key h hp
    | tup fs => cases h
    | _ =>
      exact leaf h hp
theorem RV.plain {g g2 : Gh} (hro : ∀ b o c, g.ro b o = some (B8 c) → g2.ro b o = some (B8 c)) (hbx : g2.bx = g.bx) {d : Nat} {a : AV} {u : Value} (h : RV g a u) (hp : plainA (d + 1) a = true) : RV g2 a u := by
  have one : ∀ {d : Nat} {a : AV} {u : Value}, RV1 g a u → plainA d a = true → RV1 g2 a u := fun {d a u} h hp => by
    rcases h with ⟨T, cs, h1, h2, h3⟩ | h
    · exact .inl ⟨T, cs, h1, h2.plain hro hbx hp, h3⟩
    · exact .inr (h.plain hro hbx hp)
  cases a with
  | any => trivial
  | tup az =>
    obtain ⟨vs, h1, h2, h3⟩ := h
    exact ⟨vs, h1, h2, fun i a u ha hu => one (h3 i a u ha hu) (List.all_eq_true.1 hp a (List.mem_of_getElem? ha))⟩
  | _ => exact (one (show RV1 g _ u from h) hp).rv
def Rw.turn (r : Rw) : Rw := { r with cx := r.cx.reverse }
def Gh.turn (g : Gh) (i k : Nat) (r : Rw) : Gh := ⟨fun b o => if b = k then r.cx.reverse[o]? else g.ro b o, g.bx, g.rw.set i r.turn⟩
theorem set_get {α : Type} {l : List α} {i j : Nat} {x y : α} (h : (l.set i x)[j]? = some y) : (j = i ∧ y = x) ∨ (j ≠ i ∧ l[j]? = some y) := by
  rw [List.getElem?_set] at h
  split at h
  · rename_i e
    split at h
    · injection h with h; exact .inl ⟨e.symm, h.symm⟩
    · cases h
  · rename_i e; exact .inr ⟨fun x => e x.symm, h⟩
theorem Inv.turn {P : Program} {w0 w w' : World} {N g : Gh} {bx : List (Ty × AV)} {fz : List Nat} {rw_ : List (TypeId × Nat)} (H : Inv P w0 N g bx fz rw_ w) {i k : Nat} {r : Rw} (hi : g.rw[i]? = some r) (he : r.es = 1) (hv : r.v.ownBlock = some k) (hNi : N.rw.length ≤ i)
    (hNb : ∀ b o u, N.ro b o = some u → b < w0.heap.size) (hcx : ∀ u ∈ r.cx, ∀ c, u ≠ B8 c) (hbx : bx.all (fun x => plainA 4 x.2) = true)
    (hk : Blk w' k r.tid (r.cx.reverse ++ noughts r).toArray) (ho : ∀ j, j ≠ k → w'.heap[j]? = w.heap[j]?) (hs : w'.heap.size = w.heap.size) (h1 : w'.os = w.os) (h2 : w'.tape = w.tape) (h3 : w'.output = w.output) :
    Inv P w0 N (g.turn i k r) bx fz rw_ w' ∧ (∀ b o c, g.ro b o = some (B8 c) → (g.turn i k r).ro b o = some (B8 c)) := by
  have hM := H.mem
  have hR := hM.rw i r hi
  have hlen : r.cx.length = r.n := by have := hR.len; rw [he, Nat.mul_one] at this; exact this
  have hil : i < g.rw.length := (List.getElem?_eq_some_iff.1 hi).1
  have hk0 : w0.heap.size ≤ k := by
    rcases H.fr.rw i r k hi hv with h | ⟨s, hs, _⟩
    · exact h
    · exact absurd (List.getElem?_eq_some_iff.1 hs).1 (by omega)
  have hro8 : ∀ b o c, g.ro b o = some (B8 c) → b ≠ k := fun b o c h e => by
    subst e
    rcases Nat.lt_or_ge o r.cx.length with hl | hg
    · have := hM.rwo i r b hi hv o r.cx[o] (List.getElem?_eq_getElem hl)
      rw [this] at h
      injection h with h
      exact hcx _ (List.getElem_mem hl) c h
    · have := hM.rro i r b hi hv o (by rw [he, Nat.mul_one]; omega)
      rw [this] at h; cases h
  have hro : ∀ b o, b ≠ k → (g.turn i k r).ro b o = g.ro b o := fun b o h => by simp [Gh.turn, h]
  have hrok : ∀ o, (g.turn i k r).ro k o = r.cx.reverse[o]? := fun o => by simp [Gh.turn]
  have hbk : ∀ (j : Nat) (x : Bx), g.bx[j]? = some x → x.blk ≠ k := fun j x hx e => hM.rb j i x r hx hi (by rw [e]; exact hv)
  have hcell : ∀ b o, b ≠ k → w'.cell? ⟨b, o, none⟩ = w.cell? ⟨b, o, none⟩ := fun b o h => by simp only [World.cell?, ho b h]
  have hblk : ∀ {b : Nat} {t : TypeId} {cs : Array Value}, Blk w b t cs → b ≠ k → Blk w' b t cs := fun {b t cs} h hb => (ho b hb).trans h
  have hown : ∀ (j : Nat) (s : Rw) (b : Nat), (g.turn i k r).rw[j]? = some s → s.v.ownBlock = some b → (j = i ∧ s = r.turn ∧ b = k) ∨ (j ≠ i ∧ g.rw[j]? = some s ∧ b ≠ k) := fun j s b hj hb => by
    rcases set_get hj with ⟨rfl, rfl⟩ | ⟨hne, hj'⟩
    · exact .inl ⟨rfl, rfl, by have : r.v.ownBlock = some b := hb; rw [hv] at this; injection this with this; exact this.symm⟩
    · exact .inr ⟨hne, hj', fun e => hne (hM.rr j i s r k hj' hi (by rw [← e]; exact hb) hv)⟩
  refine ⟨⟨⟨fun b o u hu => ?_, fun j x hx => hblk (hM.bx j x hx) (hbk j x hx), fun j s hj => ?_, fun j x hx hf o u hu => ?_, fun j x hx hf o => ?_, hM.bb, fun j s b hj hb o hle => ?_, fun j s b hj hb o u hu => ?_, fun j m x s hx hm => ?_, fun j m s t b hj hm hb hb' => ?_⟩, ⟨?_, H.fr.bx, fun j s b hj hb => ?_, fun b hb hn o => ?_, ?_⟩, ⟨H.br.len, fun j T a hj => ?_⟩, H.fz, ?_, ?_⟩, fun b o c h => ?_⟩
  · by_cases hb : b = k
    · subst hb
      rw [hrok] at hu
      rw [hk.cell, List.getElem?_toArray, List.getElem?_append_left (List.getElem?_eq_some_iff.1 hu).1]
      exact hu
    · rw [hro b o hb] at hu
      rw [hcell b o hb]
      exact hM.ro b o u hu
  · rcases set_get hj with ⟨rfl, rfl⟩ | ⟨hne, hj'⟩
    · refine ⟨hR.pos, hR.zl, fun u hu => hR.one u (by
        rcases List.mem_append.1 hu with h | h
        · exact List.mem_append_left _ (List.mem_reverse.1 h)
        · exact List.mem_append_right _ h), by show r.cx.reverse.length = _; rw [List.length_reverse]; exact hR.len, ?_⟩
      rcases hR.at_ with h | ⟨k', h4, h5, h6⟩
      · exact .inl h
      · refine .inr ⟨k', h4, ?_, h6⟩
        have : k' = k := by rw [h4] at hv; simp [Value.ownBlock] at hv; exact hv
        subst this
        exact hk
    · have hS := hM.rw j s hj'
      refine ⟨hS.pos, hS.zl, hS.one, hS.len, ?_⟩
      rcases hS.at_ with h | ⟨k', h4, h5, h6⟩
      · exact .inl h
      · have hk' : k' ≠ k := fun e => hne (hM.rr j i s r k hj' hi (by rw [h4, ← e]; rfl) hv)
        exact .inr ⟨k', h4, hblk h5 hk', h6⟩
  · rw [hro _ _ (hbk j x hx)]; exact hM.fro j x hx hf o u hu
  · rw [hro _ _ (hbk j x hx)]; exact hM.bro j x hx hf o
  · rcases hown j s b hj hb with ⟨rfl, rfl, rfl⟩ | ⟨_, hj', hbk'⟩
    · rw [hrok]
      refine List.getElem?_eq_none ?_
      rw [List.length_reverse, hlen]
      have : r.n * r.es ≤ o := hle
      rw [he, Nat.mul_one] at this; exact this
    · rw [hro _ _ hbk']; exact hM.rro j s b hj' hb o hle
  · rcases hown j s b hj hb with ⟨rfl, rfl, rfl⟩ | ⟨_, hj', hbk'⟩
    · rw [hrok]; exact hu
    · rw [hro _ _ hbk']; exact hM.rwo j s b hj' hb o u hu
  · rcases set_get hm with ⟨rfl, rfl⟩ | ⟨hne, hm'⟩
    · exact hM.rb j m x r hx hi
    · exact hM.rb j m x s hx hm'
  · rcases hown j s b hj hb with ⟨rfl, rfl, rfl⟩ | ⟨n1, hj', hb1⟩
    · rcases hown m t b hm hb' with ⟨rfl, _, _⟩ | ⟨_, _, hb2⟩
      · rfl
      · exact absurd rfl hb2
    · rcases hown m t b hm hb' with ⟨rfl, _, rfl⟩ | ⟨_, hm', _⟩
      · exact absurd rfl hb1
      · exact hM.rr j m s t b hj' hm' hb hb'
  · have hK := H.fr.kept
    exact ⟨h1.trans hK.os, h2.trans hK.tape, h3.trans hK.output, by rw [hs]; exact hK.size, fun j hj hn => (ho j (by omega)).trans (hK.block j hj hn)⟩
  · rcases set_get hj with ⟨rfl, rfl⟩ | ⟨hne, hj'⟩
    · exact H.fr.rw j r b hi hb
    · exact H.fr.rw j s b hj' hb
  · rw [hro b o (by omega)]; exact H.fr.ro b hb hn o
  · have hl := H.fr.le
    refine ⟨fun b o u hu => ?_, hl.bx, fun j s hj => ?_⟩
    · rw [hro b o (by have := hNb b o u hu; omega)]; exact hl.ro b o u hu
    · obtain ⟨s', hs', h⟩ := hl.rw j s hj
      refine ⟨s', ?_, h⟩
      show (g.rw.set i r.turn)[j]? = some s'
      have hj2 : j < N.rw.length := (List.getElem?_eq_some_iff.1 hj).1
      rw [List.getElem?_set_ne (by omega)]; exact hs'
  · obtain ⟨x, h4, h5, h6⟩ := H.br.at_ j T a hj
    refine ⟨x, h4, h5, RC.plain (g := g) (g2 := g.turn i k r) (d := 4) (fun b o c h => by rw [hro b o (hro8 b o c h)]; exact h) rfl h6 ?_⟩
    exact List.all_eq_true.1 hbx _ (List.mem_of_getElem? hj)
  · rw [← H.wr]
    show (g.rw.set i r.turn).map _ = _
    rw [List.map_set]
    apply List.ext_getElem?
    intro j
    rw [List.getElem?_set]
    split
    · rename_i e; subst e
      rw [if_pos (by simpa using hil), List.getElem?_map, hi]; rfl
    · rfl
  · intro s hs'
    rcases List.mem_or_eq_of_mem_set hs' with h | rfl
    · exact H.wz s h
    · exact H.wz r (List.mem_of_getElem? hi)
  · rw [hro b o (hro8 b o c h)]; exact h
def turnA (i : Nat) (ls : List (List UInt8)) : AV → AV
  | .sl .sc es (some j) => if j = i then .sl .sc (bss ls.reverse) (some i) else .sl .sc es (some j)
  | x => x
theorem turnA_plain {i d : Nat} {ls : List (List UInt8)} {x : AV} (h : plainA d x = true) : turnA i ls x = x := by
  unfold turnA
  split
  · cases d <;> simp [plainA, leafA] at h
  · rfl
def turnS (i : Nat) (ls : List (List UInt8)) (p : Nat × Gd × AV) : Nat × Gd × AV := (p.1, p.2.1, turnA i ls p.2.2)
theorem flat_one {F : Nat → List Value} {V : Nat → Value} {n : Nat} (h : ∀ k, k < n → F k = [V k]) : (List.range n).flatMap F = (List.range n).map V := by
  rw [List.map_eq_flatMap]
  induction n with
  | zero => rfl
  | succ n ih =>
    rw [List.range_succ, List.flatMap_append, List.flatMap_append, ih fun k hk => h k (by omega)]
    simp [h n (by omega)]
theorem rev_map (V : Nat → Value) (n : Nat) : ((List.range n).map V).reverse = (List.range n).map fun j => V (n - 1 - j) := by
  apply List.ext_getElem
  · simp
  · intro j h1 h2
    simp at h1
    simp [List.getElem_reverse]
theorem bss_rev (ls : List (List UInt8)) (j : Nat) (hj : j < ls.length) : (bss ls.reverse)[j]'(by simp [bss]; exact hj) = .bs (ls[ls.length - 1 - j]'(by omega)) none := by
  simp [bss, List.getElem_reverse]
/-- A slot's row of slices, turned round: what is known of it behind. -/
theorem turn_slot {P : Program} {w0 w : World} {N g : Gh} {bx : List (Ty × AV)} {fz : List Nat} {rw_ : List (TypeId × Nat)} {i tid : Nat} {ls : List (List UInt8)} {u : Value} (H : Inv P w0 N g bx fz rw_ w) (hu : RV g (.sl .sc (bss ls) (some i)) u) (hrow : rw_[i]? = some (tid, ls.length)) (hes : P.cellsOf tid = 1) (hne : ls ≠ []) :
    ∃ (r : Rw) (k m : Nat), g.rw[i]? = some r ∧ r.tid = tid ∧ r.es = 1 ∧ r.v.ownBlock = some k ∧ (∀ v ∈ r.cx, ∀ c, v ≠ B8 c) ∧ (∀ v ∈ r.cx, v.oneCell' = true) ∧ r.cx.length = ls.length ∧ u = .slice (some ⟨k, 0, none⟩) ls.length m ∧ ls.length ≤ maxLen ∧ Blk w k r.tid (r.cx ++ noughts r).toArray ∧
      ((∀ b o c, g.ro b o = some (B8 c) → (g.turn i k r).ro b o = some (B8 c)) → RV (g.turn i k r) (.sl .sc (bss ls.reverse) (some i)) u) := by
  have hbl : (bss ls).length = ls.length := by simp [bss]
  have hpos : 0 < ls.length := List.length_pos_iff.2 hne
  have h := hu.sl_inv
  generalize hcs : [u] = cs at h
  cases h with
  | sl hc hm F hr hv ht =>
    rename_i A c
    injection hcs with hcs _
    rw [hbl] at hc hr hcs ht
    obtain ⟨r, h1, h2, h3⟩ := ht i rfl
    have hil : i < g.rw.length := (List.getElem?_eq_some_iff.1 h1).1
    have hrn : r.tid = tid ∧ r.n = ls.length := by
      have := H.wr
      rw [← this, List.getElem?_map, h1] at hrow
      simp only [Option.map_some, Option.some.injEq, Prod.mk.injEq] at hrow
      exact hrow
    obtain ⟨hv1, hcx⟩ := h3 hrn.2
    obtain ⟨hz1, _⟩ := H.wz r (List.mem_of_getElem? h1)
    have hes1 : r.es = 1 := by rw [hz1, hrn.1]; exact hes
    have hF : ∀ k, k < ls.length → ∃ A c n, F k = [.slice A n c] := fun k hk => by
      have := hv k (by rw [hbl]; exact hk)
      rw [show (bss ls)[k]'(by rw [hbl]; exact hk) = .bs ls[k] none by simp [bss]] at this
      obtain ⟨_, A, c, h, _⟩ := this.bs_inv
      exact ⟨A, c, _, h⟩
    have hFV : ∀ k, k < ls.length → F k = [(F k).headD undef] := fun k hk => by obtain ⟨A, c, n, h⟩ := hF k hk; rw [h]; rfl
    have hcx' : r.cx = (List.range ls.length).map fun k => (F k).headD undef := by rw [hcx]; exact flat_one hFV
    have hsl : ∀ v ∈ r.cx, ∃ A n c, v = .slice A n c := fun v hv' => by
      rw [hcx'] at hv'
      obtain ⟨k, hk, rfl⟩ := List.mem_map.1 hv'
      obtain ⟨A, c, n, h⟩ := hF k (List.mem_range.1 hk)
      exact ⟨A, n, c, by rw [h]; rfl⟩
    have hR := H.mem.rw i r h1
    rcases hR.at_ with ⟨_, h5, _⟩ | ⟨k, h4, h5, h6⟩
    · omega
    · have hA : A = some ⟨k, 0, none⟩ ∧ c = r.n + r.m := by
        rw [hv1] at h4
        injection h4 with e1 e2 e3
        exact ⟨e1, e3⟩
      obtain ⟨rfl, rfl⟩ := hA
      have hcl : r.cx.length = ls.length := by rw [hcx']; simp
      refine ⟨r, k, r.n + r.m, h1, hrn.1, hes1, by rw [hv1]; rfl, fun v hv' c e => ?_, fun v hv' => ?_, hcl, hcs, by omega, h5, fun hro => ?_⟩
      · obtain ⟨A, n, c', h⟩ := hsl v hv'; rw [h] at e; cases e
      · obtain ⟨A, n, c', h⟩ := hsl v hv'; rw [h]; rfl
      · have hbl2 : (bss ls.reverse).length = ls.length := by simp [bss]
        have hrev : r.cx.reverse = (List.range ls.length).map fun j => (F (ls.length - 1 - j)).headD undef := by rw [hcx']; exact rev_map _ _
        have key : RC (g.turn i k r) .sc (.sl .sc (bss ls.reverse) (some i)) [.slice (some ⟨k, 0, none⟩) (bss ls.reverse).length (r.n + r.m)] := by
          refine .sl (by rw [hbl2]; exact hc) hm (fun j => F (ls.length - 1 - j)) (.inr ⟨k, 0, rfl, fun j hj q x hq => ?_⟩) (fun j hj => ?_) fun i' hi' => ?_
          · rw [hbl2] at hj
            rw [hFV (ls.length - 1 - j) (by omega)] at hq
            have hq0 : q = 0 := by
              have := (List.getElem?_eq_some_iff.1 hq).1
              simp at this; exact this
            subst hq0
            simp only [List.getElem?_cons_zero, Option.some.injEq] at hq
            subst hq
            show (if k = k then r.cx.reverse[0 + j * 1 + 0]? else _) = _
            rw [if_pos rfl, hrev, Nat.zero_add, Nat.mul_one, Nat.add_zero, List.getElem?_map, List.getElem?_range hj]
            rfl
          · rw [hbl2] at hj
            rw [bss_rev ls j hj]
            have := hv (ls.length - 1 - j) (by rw [hbl]; omega)
            rw [show (bss ls)[ls.length - 1 - j]'(by rw [hbl]; omega) = .bs (ls[ls.length - 1 - j]'(by omega)) none by simp [bss]] at this
            exact RC.plain (g := g.base) (g2 := (g.turn i k r).base) (d := 0) hro rfl this rfl
          · injection hi' with hi'
            subst hi'
            refine ⟨r.turn, ?_, ?_, fun _ => ⟨?_, ?_⟩⟩
            · show (g.rw.set i r.turn)[i]? = _
              rw [List.getElem?_set_self hil]
            · rw [hbl2]; exact h2
            · rw [hbl2]; exact hv1
            · show r.cx.reverse = _
              rw [hbl2, hrev]
              exact (flat_one fun j hj => hFV _ (by omega)).symm
        rw [hbl2] at key
        rw [hcs]
        exact key.rvp
theorem RV.sl_none {g : Gh} {i : Nat} {u : Value} (h : RV g (.sl .sc (bss []) (some i)) u) : ∃ A c, u = .slice A 0 c := by
  have h := h.sl_inv
  generalize hcs : [u] = cs at h
  cases h with
  | sl hc hm F hr hv ht => injection hcs with hcs _; exact ⟨_, _, hcs⟩
/-- slices.Reverse of a row of slices that is whole: every slot that is the row is turned round. -/
theorem v_rev {w0 w : World} {N : Gh} {nt : Nat} {st : St} {a : Act} {ops : Array Oper} {Q : Exit → Act → World → Prop} {rest : List Oper} {o : Oper} {d i : Nat} {ls : List (List UInt8)} {ats : Array TypeId} (H : Rel Try.prog w0 N nt st a w) (hgd : o.guard = none)
    (ho : o.op = .call ⟨.value (.func 30), [.tmp d].toArray, ats⟩) (hNb : ∀ b o u, N.ro b o = some u → b < w0.heap.size) (hNi : N.rw.length ≤ i) (hd : find d st.t = some (none, .sl .sc (bss ls) (some i))) (hrow : st.rw[i]? = some (24, ls.length))
    (hb : st.bx.all (fun x => plainA 4 x.2) = true) (ht : ∀ p ∈ st.t, plainA 5 p.2.2 = true ∨ p.2.2 = .sl .sc (bss ls) (some i)) (hdst : okDst nt none o.dst = true)
    (k : ∀ a w, Rel Try.prog w0 N nt ((⟨st.t.map (turnS i ls), st.bx, st.fz, st.rw⟩ : St).put o.dst none .any) a w → wpList Try.prog ops Q rest a w) : wpList Try.prog ops Q (o :: rest) a w := by
  obtain ⟨g, HI, hF⟩ := H
  have hu : RV g (.sl .sc (bss ls) (some i)) (a.tmps.getD d undef) := hF.t _ (find_mem hd) trivial
  refine wpList_plain hgd fun K hK => ?_
  unfold Oper.wp
  rw [run_callF ⟨_, Try.func30, by kernel_rfl, by kernel_rfl⟩ [.tmp d] ats ho w, Oper.upon_enter]
  have ea : (([.tmp d] : List Operand).map a.eval).toArray = #[a.tmps.getD d undef] := rfl
  rw [ea]
  have fin : ∀ (g2 : Gh) (w' : World) (v : Value), Inv Try.prog w0 N g2 st.bx st.fz st.rw w' → (∀ p ∈ st.t, gholds a p.2.1 → RV g2 (turnA i ls p.2.2) (a.tmps.getD p.1 undef)) → Rel Try.prog w0 N nt ((⟨st.t.map (turnS i ls), st.bx, st.fz, st.rw⟩ : St).put o.dst none .any) (a.put o.dst v) w' := fun g2 w' v HI2 hs => by
    have hF2 : FR g2 nt ⟨st.t.map (turnS i ls), st.bx, st.fz, st.rw⟩ a := ⟨hF.sz, hF.df, fun p hp hg => by
      obtain ⟨q, hq, rfl⟩ := List.mem_map.1 hp
      exact hs q hq hg, fun p hp hg => by
      obtain ⟨q, hq, rfl⟩ := List.mem_map.1 hp
      exact hF.u q hq hg⟩
    exact ⟨g2, by rw [(put_bx _ _ _ _).1, (put_bx _ _ _ _).2.1, (put_bx _ _ _ _).2.2]; exact HI2, hF2.put hdst (fun _ => trivial) rfl (fun h => absurd trivial h)⟩
  by_cases hne : ls = []
  · subst hne
    obtain ⟨A, c, e⟩ := hu.sl_none
    rw [e]
    refine (AnyE.slices_Reverse_empty revLay A c w).mono ?_
    rintro e w' ⟨rfl, rfl⟩
    refine hK _ _ (k _ _ (fin g w' _ HI fun p hp hg => ?_))
    rcases ht p hp with h | h
    · rw [turnA_plain h]; exact hF.t p hp hg
    · have := hF.t p hp hg
      rw [h] at this ⊢
      simpa [turnA] using this
  · obtain ⟨r, b, m, h1, h2, h3, h4, h5, h6, h7, h8, h9, h10, h11⟩ := turn_slot HI hu hrow (by kernel_rfl) hne
    rw [h8, ← h7]
    refine (rev_blk r.cx (noughts r) b m w h6 h10 (by rw [h7]; exact Nat.le_trans h9 (by decide))).mono ?_
    rintro e w' ⟨rfl, k1, k2, k3, k4, k5, k6⟩
    obtain ⟨HI2, hro⟩ := HI.turn h1 h3 h4 hNi hNb h5 hb k1 k2 k3 k4 k5 k6
    refine hK _ _ (k _ _ (fin (g.turn i b r) w' _ HI2 fun p hp hg => ?_))
    rcases ht p hp with h | h
    · rw [turnA_plain h]
      exact (hF.t p hp hg).plain (g := g) (g2 := g.turn i b r) (d := 4) hro rfl h
    · have hp' := hF.t p hp hg
      rw [h] at hp' ⊢
      obtain ⟨r', b', m', q1, _, _, q4, _, _, _, _, _, _, q11⟩ := turn_slot HI hp' hrow (by kernel_rfl) hne
      rw [h1] at q1; injection q1 with q1; subst q1
      rw [h4] at q4; injection q4 with q4; subst q4
      have : turnA i ls (.sl .sc (bss ls) (some i)) = .sl .sc (bss ls.reverse) (some i) := by simp [turnA]
      rw [this]
      exact q11 hro
theorem cell_lt {w : World} {b o : Nat} {u : Value} (h : w.cell? ⟨b, o, none⟩ = some u) : b < w.heap.size := by
  rcases Nat.lt_or_ge b w.heap.size with h1 | h1
  · exact h1
  · exfalso
    simp [World.cell?, Array.getElem?_eq_none h1] at h
/-- A function is entered; what is read alone lies in the memory that there was. -/
theorem v_enterB {P : Program} {f : FuncId} {fn : Func} {c : Code} {bx bx' : List (Ty × AV)} {fz fz' : List Nat} {rw rws : List (TypeId × Nat)} {args : List AV} {res : AV} (hf : P.funcs[f]? = some fn) (hb : fn.body = some c) (hnm : (fn.name == "runtime.NumGoroutine") = false) (hn : args.length ≤ fn.ntmps)
    (h : ∀ (N : Gh) (w0 : World) (a : Act) (w : World), (∀ b o u, N.ro b o = some u → b < w0.heap.size) → N.bx.length ≤ bx.length → N.rw.length ≤ rw.length → Rel P w0 N fn.ntmps ⟨slots 0 args, bx, fz, rw⟩ a w → c.wp P (bodyPost P fn (VPost P w0 N bx' fz' rws res)) a w) : VX P f bx fz rw args bx' fz' rws res := by
  refine ⟨⟨fn, hf, hnm, by rw [hb]; rfl⟩, ?_⟩
  intro w N vs hI hl hv
  refine calls_of_wp hf hb (h N w _ w (fun b o u hu => cell_lt (hI.mem.ro b o u hu)) (by rw [hI.br.len]; exact Nat.le_refl _) (by rw [← hI.wr, List.length_map]; exact Nat.le_refl _) ⟨N, hI, ?_, rfl, fun p hp _ => ?_, fun p hp hg => absurd (by obtain ⟨_, _, h2, _⟩ := slots_mem hp; rw [h2]; trivial) hg⟩)
  · simp only [Array.size_append, List.size_toArray, Array.size_replicate, hl]; omega
  · obtain ⟨i, h1, h2, h3⟩ := slots_mem hp
    have hi : i < vs.length := by rw [hl]; exact (List.getElem?_eq_some_iff.1 h3).1
    have := hv i p.2.2 vs[i] h3 (List.getElem?_eq_getElem hi)
    rw [h1, Nat.zero_add]
    have e : (vs.toArray ++ Array.replicate (fn.ntmps - vs.toArray.size) undef).getD i undef = vs[i] := by
      rw [Array.getD_eq_getD_getElem?, Array.getElem?_append_left (by simpa using hi)]; simp [hi]
    exact e ▸ this
end Go.Proofs.Ytlagngkafllbiaa
namespace Go.Proofs.Ytlagngkafllbiaa
open Go
section
variable {P : Program} {ops : Array Oper} {Q : Exit → Act → World → Prop} {S : World → Prop} {L A : List Nat}
/-- Where an operation stands in an order of one's own. -/
def rk (ord : List Nat) (i : Nat) : Nat := ord.idxOf i
def chkO (ops : Array Oper) (ord : List Nat) : Bool :=
  ord.length == ops.size && ord.all (fun i => decide (i < ops.size)) && (List.range ops.size).all (fun i => ord.contains i) && (List.range ord.length).all (fun p => match ord[p]? with | some x => rk ord x == p | none => false) &&
    (List.range ops.size).all fun j => (match ops[j]? with | some o => o.after.all fun e => !Region.binds .any e || decide (rk ord e.on < rk ord j) | none => true)
structure OrdOk (ops : Array Oper) (ord : List Nat) : Prop where
  len : ord.length = ops.size
  lt : ∀ i ∈ ord, i < ops.size
  mem : ∀ i, i < ops.size → i ∈ ord
  pos : ∀ p (h : p < ord.length), rk ord ord[p] = p
  edge : ∀ j o, ops[j]? = some o → ∀ e ∈ o.after, Region.binds .any e = true → rk ord e.on < rk ord j
theorem chkO_ok {ops : Array Oper} {ord : List Nat} (h : chkO ops ord = true) : OrdOk ops ord := by
  simp only [chkO, Bool.and_eq_true, beq_iff_eq, List.all_eq_true, decide_eq_true_eq, List.mem_range, List.contains_eq_mem] at h
  obtain ⟨⟨⟨⟨h1, h2⟩, h3⟩, h4⟩, h5⟩ := h
  refine ⟨h1, h2, h3, fun p hp => ?_, fun j o hj e he hb => ?_⟩
  · have := h4 p hp; rw [List.getElem?_eq_getElem hp] at this; simpa using this
  · have := h5 j (Array.getElem?_eq_some_iff.1 hj).1
    rw [hj] at this
    have := (Array.all_eq_true_iff_forall_mem.1 this) e he
    simpa [hb] using this
theorem OrdOk.inj {ops : Array Oper} {ord : List Nat} (h : OrdOk ops ord) {i j : Nat} (hi : i < ops.size) (hj : j < ops.size) (e : rk ord i = rk ord j) : i = j := by
  have h1 := List.getElem_idxOf (List.idxOf_lt_length_of_mem (h.mem i hi))
  have h2 := List.getElem_idxOf (List.idxOf_lt_length_of_mem (h.mem j hj))
  unfold rk at e
  rw [← h1, ← h2]
  simp only [e]
def chkZ (ops : Array Oper) (pre : Array Nat) (ord L A : List Nat) : Bool :=
  (List.range ops.size).all fun j => (List.range ops.size).all fun i => !decide (rk ord i < rk ord j) || ((pre.getD j 0).testBit i || (!(L.contains i && L.contains j) && (!L.contains j || A.contains i) && (!L.contains i || A.contains j)) ||
    (L.contains i && L.contains j && (match ops[j]? with | some o => o.after.all fun e => !Region.binds .any e || decide (rk ord e.on < rk ord i) | none => true)))
/-- Two that wait for nothing: they change places, or both are loud and the later one waits for nothing but what stands ahead of the other. -/
theorem pair_Z {pre : Array Nat} {ord : List Nat} (hf : Fine ops pre [] []) (hz : chkZ ops pre ord L A = true) {listed : Array Bool} (hd : Down ops listed) {i j : Nat} (hi : i ∈ Region.ready .any ops listed) (hj : j ∈ Region.ready .any ops listed) (hij : rk ord i < rk ord j) :
    ∃ oi oj, ops[i]? = some oi ∧ ops[j]? = some oj ∧ oi.apart ops oj = true ∧ oj.apart ops oi = true ∧
      ((¬ (L.contains i = true ∧ L.contains j = true) ∧ (L.contains j = true → A.contains i = true) ∧ (L.contains i = true → A.contains j = true)) ∨
       (L.contains i = true ∧ L.contains j = true ∧ ∀ e ∈ oj.after, Region.binds .any e = true → rk ord e.on < rk ord i)) := by
  obtain ⟨oi, oj, hoi, hoj, g1, g2, _⟩ := pair_of_ready hf hd hi hj (by rintro rfl; omega)
  refine ⟨oi, oj, hoi, hoj, g1, g2, ?_⟩
  have unl : ∀ k, listed.getD k true = false → listed.getD k false = true → False := by
    intro k h1 h2
    rcases Nat.lt_or_ge k listed.size with h' | h'
    · simp [h'] at h1 h2; rw [h1] at h2; cases h2
    · simp [Array.getElem?_eq_none h'] at h1
  obtain ⟨hiu, _⟩ := mem_ready.1 hi
  obtain ⟨_, oj', hoj', hallj⟩ := mem_ready.1 hj
  rw [hoj] at hoj'; injection hoj' with hoj'; subst hoj'
  have nij : (pre.getD j 0).testBit i = false := by
    cases ht : (pre.getD j 0).testBit i
    · rfl
    · exact (unl i hiu (pre_listed hf hd j oj hoj hallj i ht)).elim
  simp only [chkZ, List.all_eq_true, List.mem_range] at hz
  have h1 := hz j (Array.getElem?_eq_some_iff.1 hoj).1 i (Array.getElem?_eq_some_iff.1 hoi).1
  rw [nij, hoj, decide_eq_true hij] at h1
  simp only [Bool.not_true, Bool.false_or, Bool.or_eq_true, Bool.and_eq_true] at h1
  rcases h1 with ⟨⟨g1, g2⟩, g3⟩ | ⟨⟨g1, g2⟩, g3⟩
  · refine .inl ⟨fun ⟨x, y⟩ => ?_, fun x => ?_, fun x => ?_⟩
    · rw [x, y] at g1; cases g1
    · rw [x] at g2; simpa using g2
    · rw [x] at g3; simpa using g3
  · refine .inr ⟨g1, g2, fun e he hb => ?_⟩
    have := (Array.all_eq_true_iff_forall_mem.1 g3) e he
    simpa [hb] using this
theorem tOp_all {ι : Type} {p : ι → Prop} {j : Nat} {oj : Oper} {a : Act} {w : World} {K : ι → Act → World → Prop} (hi : ops[j]? = some oj) (hL : ¬ L.contains j = true) (hA : A.contains j = true) (hS : S w) (m0 : ι) (h0 : p m0) (h : ∀ m, p m → tOp P ops S L A j (K m) a w) :
    tOp P ops S L A j (fun a w => ∀ m, p m → K m a w) a w := by
  have h1 := h m0 h0
  unfold tOp at h1 ⊢
  simp only [hi] at h1 ⊢
  by_cases hw : Region.wanted oj (yielded ops a.tmps) = true
  · rw [if_pos hw, if_neg hL] at h1 ⊢
    obtain ⟨v, e1, e2, _⟩ := h1
    refine ⟨v, e1, e2, fun m hm => ?_⟩
    have h2 := h m hm
    unfold tOp at h2
    simp only [hi] at h2
    rw [if_pos hw, if_neg hL] at h2
    obtain ⟨u, f1, f2, f3⟩ := h2
    have := Vr.uniq (e2 hA w hS) (f2 hA w hS)
    subst this
    exact f3
  · rw [if_neg hw] at h1 ⊢
    intro m hm
    have h2 := h m hm
    unfold tOp at h2
    simp only [hi] at h2
    rw [if_neg hw] at h2
    exact h2
/-- A quiet operation at the head: it may come up now. -/
theorem ready_lt {listed : Array Bool} {i : Nat} (h : i ∈ Region.ready .any ops listed) : i < ops.size := by
  obtain ⟨_, o, h, _⟩ := mem_ready.1 h; exact (Array.getElem?_eq_some_iff.1 h).1
theorem tAny_quiet {pre : Array Nat} {ord : List Nat} (ho : OrdOk ops ord) (hf : Fine ops pre [] []) (hz : chkZ ops pre ord L A = true) {i : Nat} (hL : ¬ L.contains i = true) : ∀ (fuel : Nat) (listed : Array Bool) (a : Act) (w : World), Down ops listed → i ∈ Region.ready .any ops listed → S w →
    tOp P ops S L A i (tAny P ops Q S L A fuel (listed.setIfInBounds i true)) a w → tAny P ops Q S L A (fuel + 1) listed a w := by
  intro fuel
  induction fuel with
  | zero =>
    intro listed a w hd hr hS H
    refine ⟨fun h => (by rw [h] at hr; cases hr), fun j hj => ?_⟩
    by_cases hji : j = i
    · subst hji; exact H
    · have := ready_mono hj hji
      obtain ⟨a', w', h⟩ := tOp_some H
      rw [h.1] at this
      cases this
  | succ fuel ih =>
    intro listed a w hd hr hS H
    refine ⟨fun h => (by rw [h] at hr; cases hr), fun j hj => ?_⟩
    by_cases hji : j = i
    · subst hji; exact H
    · have hp : ∃ oi oj, ops[i]? = some oi ∧ ops[j]? = some oj ∧ oi.apart ops oj = true ∧ oj.apart ops oi = true ∧ ¬ (L.contains i = true ∧ L.contains j = true) ∧ (L.contains j = true → A.contains i = true) ∧ (L.contains i = true → A.contains j = true) := by
        rcases Nat.lt_or_gt_of_ne (fun e => hji (ho.inj (ready_lt hj) (ready_lt hr) e)) with h | h
        · obtain ⟨oj, oi, hoj, hoi, g1, g2, g3⟩ := pair_Z hf hz hd hj hr h
          rcases g3 with ⟨k1, k2, k3⟩ | ⟨_, k, _⟩
          · exact ⟨oi, oj, hoi, hoj, g2, g1, fun ⟨x, y⟩ => k1 ⟨y, x⟩, k3, k2⟩
          · exact absurd k hL
        · obtain ⟨oi, oj, hoi, hoj, g1, g2, g3⟩ := pair_Z hf hz hd hr hj h
          rcases g3 with ⟨k1, k2, k3⟩ | ⟨k, _⟩
          · exact ⟨oi, oj, hoi, hoj, g1, g2, k1, k2, k3⟩
          · exact absurd k hL
      obtain ⟨oi, oj, hoi, hoj, g1, g2, g3, g4, g5⟩ := hp
      have H2 : tOp P ops S L A i (tOp P ops S L A j (tAny P ops Q S L A fuel ((listed.setIfInBounds i true).setIfInBounds j true))) a w :=
        tOp_mono hS (fun a w _ h => h.2 j (ready_mono hj hji)) H
      have H3 := tOp_swap hoi hoj g1 g2 (fun cs b => hf.sel i oi cs b hoi) (fun cs b => hf.sel j oj cs b hoj) g3 g4 g5 hS H2
      refine tOp_mono hS (fun a' w' _ h => ?_) H3
      refine ih (listed.setIfInBounds j true) a' w' (down_set hd hj) (ready_mono hr (Ne.symm hji)) h.1 ?_
      rw [Array.setIfInBounds_comm _ _ hji]
      exact h.2
/-- A loud operation at the head: whichever loud one comes up first. -/
theorem tAny_loud {pre : Array Nat} {ord : List Nat} (ho : OrdOk ops ord) (hf : Fine ops pre [] []) (hz : chkZ ops pre ord L A = true) {i : Nat} (hL : L.contains i = true) : ∀ (fuel : Nat) (listed : Array Bool) (a : Act) (w : World), Down ops listed → (∀ j, j < ops.size → rk ord j < rk ord i → listed.getD j false = true) → i ∈ Region.ready .any ops listed → S w →
    (∀ m, (m ∈ Region.ready .any ops listed ∧ L.contains m = true) → tOp P ops S L A m (tAny P ops Q S L A fuel (listed.setIfInBounds m true)) a w) → tAny P ops Q S L A (fuel + 1) listed a w := by
  intro fuel
  induction fuel with
  | zero =>
    intro listed a w hd hlow hr hS H
    refine ⟨fun h => (by rw [h] at hr; cases hr), fun j hj => ?_⟩
    by_cases hji : j = i
    · subst hji; exact H j ⟨hj, hL⟩
    · have := ready_mono hj hji
      obtain ⟨a', w', h⟩ := tOp_some (H i ⟨hr, hL⟩)
      rw [h.1] at this
      cases this
  | succ fuel ih =>
    intro listed a w hd hlow hr hS H
    refine ⟨fun h => (by rw [h] at hr; cases hr), fun j hj => ?_⟩
    by_cases hLj : L.contains j = true
    · exact H j ⟨hj, hLj⟩
    · have hall : ∀ m, (m ∈ Region.ready .any ops listed ∧ L.contains m = true) → ∃ om oj, ops[m]? = some om ∧ ops[j]? = some oj ∧ om.apart ops oj = true ∧ oj.apart ops om = true ∧ A.contains j = true := fun m hm => by
        have hmj : m ≠ j := fun e => hLj (e ▸ hm.2)
        rcases Nat.lt_or_gt_of_ne (fun e => hmj (ho.inj (ready_lt hm.1) (ready_lt hj) e)) with h | h
        · obtain ⟨om, oj, k1, k2, k3, k4, k5⟩ := pair_Z hf hz hd hm.1 hj h
          rcases k5 with ⟨_, _, k7⟩ | ⟨_, k, _⟩
          · exact ⟨om, oj, k1, k2, k3, k4, k7 hm.2⟩
          · exact absurd k hLj
        · obtain ⟨oj, om, k1, k2, k3, k4, k5⟩ := pair_Z hf hz hd hj hm.1 h
          rcases k5 with ⟨_, k6, _⟩ | ⟨k, _⟩
          · exact ⟨om, oj, k2, k1, k4, k3, k6 hm.2⟩
          · exact absurd k hLj
      obtain ⟨_, oj, _, hoj, _, _, hAj⟩ := hall i ⟨hr, hL⟩
      have B : ∀ m, (m ∈ Region.ready .any ops listed ∧ L.contains m = true) → tOp P ops S L A j (fun a w => S w ∧ tOp P ops S L A m (tAny P ops Q S L A fuel ((listed.setIfInBounds m true).setIfInBounds j true)) a w) a w := fun m hm => by
        have hmj : j ≠ m := fun e => hLj (e ▸ hm.2)
        obtain ⟨om, oj', hom, hoj', g1, g2, _⟩ := hall m hm
        rw [hoj] at hoj'; injection hoj' with hoj'; subst hoj'
        have H2 : tOp P ops S L A m (tOp P ops S L A j (tAny P ops Q S L A fuel ((listed.setIfInBounds m true).setIfInBounds j true))) a w :=
          tOp_mono hS (fun a w _ h => h.2 j (ready_mono hj hmj)) (H m hm)
        exact tOp_swap hom hoj g1 g2 (fun cs b => hf.sel m om cs b hom) (fun cs b => hf.sel j oj cs b hoj) (fun ⟨_, y⟩ => hLj y) (fun y => absurd y hLj) (fun _ => hAj) hS H2
      refine tOp_mono hS (fun a' w' hS' h => ?_) (tOp_all hoj hLj hAj hS i ⟨hr, hL⟩ B)
      have hji : j ≠ i := fun e => hLj (e ▸ hL)
      refine ih (listed.setIfInBounds j true) a' w' (down_set hd hj) (fun k hks hk => by
        by_cases e : j = k
        · subst e; exact getD_set_true (hlow _ hks hk)
        · rw [getD_set_ne false e]; exact hlow k hks hk) (ready_mono hr (Ne.symm hji)) hS' fun m hm => ?_
      have hmj : j ≠ m := fun e => hLj (e ▸ hm.2)
      have hmr : m ∈ Region.ready .any ops listed := by
        by_cases hmi : m = i
        · subst hmi; exact hr
        · have hd' := down_set hd hj
          have hri := ready_mono hr (Ne.symm hji)
          rcases Nat.lt_or_gt_of_ne (fun e => hmi (ho.inj (ready_lt hm.1) (ready_lt hr) e)) with h | h
          · exfalso
            refine unlisted hm.1 ?_
            rw [getD_set_ne false hmj]
            exact hlow m (ready_lt hm.1) h
          · obtain ⟨_, om, _, hom, _, _, k5⟩ := pair_Z hf hz hd' hri hm.1 h
            rcases k5 with ⟨k, _⟩ | ⟨_, _, k⟩
            · exact absurd ⟨hL, hm.2⟩ k
            · obtain ⟨q1, om', q2, _⟩ := mem_ready.1 hm.1
              rw [hom] at q2; injection q2 with q2; subst q2
              rw [getD_set_ne true hmj] at q1
              exact mem_ready.2 ⟨q1, om, hom, fun e he hb => hlow _ (Nat.lt_trans (hf.edge m _ hom e he hb) (ready_lt hm.1)) (k e he hb)⟩
      rw [Array.setIfInBounds_comm _ _ hmj]
      exact (h m ⟨hmr, hm.2⟩).2
/-- The walk in every order of the loud operations; U: those pairs that wait for nothing. -/
def wpZ (P : Program) (ops : Array Oper) (Q : Exit → Act → World → Prop) (S : World → Prop) (L A : List Nat) (U : List (Nat × Nat)) : Nat → List Nat → Act → World → Prop
  | 0, _, a, w => Q .normal a w
  | _ + 1, [], a, w => Q .normal a w
  | n + 1, i :: rest, a, w => if L.contains i then ∀ m ∈ i :: rest.filter (fun m => U.contains (i, m)), tOp P ops S L A m (wpZ P ops Q S L A U n ((i :: rest).erase m)) a w
      else tOp P ops S L A i (wpZ P ops Q S L A U n rest) a w
def chkU (ops : Array Oper) (pre : Array Nat) (ord L : List Nat) (U : List (Nat × Nat)) : Bool :=
  (List.range ops.size).all fun j => (List.range ops.size).all fun i => !decide (rk ord i < rk ord j) || (pre.getD j 0).testBit i || !(L.contains i && L.contains j) || U.contains (i, j)
theorem wpZ_any {pre : Array Nat} {ord : List Nat} {U : List (Nat × Nat)} (ho : OrdOk ops ord) (hf : Fine ops pre [] []) (hz : chkZ ops pre ord L A = true) (hu : chkU ops pre ord L U = true) : ∀ (n : Nat) (pend : List Nat) (listed : Array Bool) (a : Act) (w : World), pend.length = n → pend.Pairwise (rk ord · < rk ord ·) → (∀ m ∈ pend, m < ops.size) → listed.size = ops.size →
    (∀ i, i < ops.size → ∀ d, listed.getD i d = !pend.contains i) → Down ops listed → S w → wpZ P ops Q S L A U n pend a w → tAny P ops Q S L A n listed a w := by
  intro n
  induction n with
  | zero =>
    intro pend listed a w hl hp hb hsz hli hd hS h
    obtain rfl : pend = [] := List.length_eq_zero_iff.1 hl
    exact tAny_nil (fun i hi d => by rw [hli i hi d]; rfl) h
  | succ n ih =>
    intro pend listed a w hl hp hb hsz hli hd hS h
    match pend, hl with
    | i :: rest, hl =>
      have hl' : rest.length = n := by simpa using hl
      obtain ⟨hp1, hp2⟩ := List.pairwise_cons.1 hp
      have hilt := hb i List.mem_cons_self
      have hlow : ∀ j, j < ops.size → rk ord j < rk ord i → listed.getD j false = true := fun j hjs hj => by
        rw [hli j hjs false]
        simp only [Bool.not_eq_true', List.contains_eq_mem, decide_eq_false_iff_not, List.mem_cons, not_or]
        exact ⟨by rintro rfl; omega, fun e => by have := hp1 j e; omega⟩
      have hri : i ∈ Region.ready .any ops listed := by
        refine mem_ready.2 ⟨by rw [hli i hilt true]; simp, _, Array.getElem?_eq_getElem hilt, fun e he hb => hlow _ (Nat.lt_trans (hf.edge i _ (Array.getElem?_eq_getElem hilt) e he hb) hilt) (ho.edge i _ (Array.getElem?_eq_getElem hilt) e he hb)⟩
      have next : ∀ m, m ∈ Region.ready .any ops listed → m ∈ i :: rest → ∀ a w, S w → wpZ P ops Q S L A U n ((i :: rest).erase m) a w → tAny P ops Q S L A n (listed.setIfInBounds m true) a w := fun m hmr hm a w hS h => by
        refine ih _ _ a w (by rw [List.length_erase_of_mem hm, hl]; rfl) (hp.sublist List.erase_sublist) (fun x hx => hb x (List.mem_of_mem_erase hx)) (by simpa using hsz) (fun x hx d => ?_) (down_set hd hmr) hS h
        have hnd : (i :: rest).Nodup := hp.imp (fun {a b} h => by rintro rfl; omega)
        by_cases e : m = x
        · subst e
          have h1 : (listed.setIfInBounds m true).getD m d = true := by simp [hsz, hx]
          rw [h1]
          simp [List.contains_eq_mem, hnd.mem_erase_iff]
        · rw [getD_set_ne d e, hli x hx d]
          congr 1
          simp only [List.contains_eq_mem, hnd.mem_erase_iff]
          have : x ≠ m := fun h => e h.symm
          simp [this]
      unfold wpZ at h
      by_cases hL : L.contains i = true
      · rw [if_pos hL] at h
        refine tAny_loud ho hf hz hL n listed a w hd hlow hri hS fun m hm => ?_
        have hmp : m ∈ i :: rest := by
          obtain ⟨q1, om, q2, _⟩ := mem_ready.1 hm.1
          have := hli m (Array.getElem?_eq_some_iff.1 q2).1 true
          rw [q1] at this
          have hc : (i :: rest).contains m = true := by
            cases hq : (i :: rest).contains m
            · rw [hq] at this; cases this
            · rfl
          simpa [List.contains_eq_mem] using hc
        have hmc : m ∈ i :: rest.filter (fun m => U.contains (i, m)) := by
          rcases List.mem_cons.1 hmp with rfl | hmr
          · exact List.mem_cons_self
          · refine List.mem_cons_of_mem _ (List.mem_filter.2 ⟨hmr, ?_⟩)
            have him := hp1 m hmr
            simp only [chkU, List.all_eq_true, List.mem_range] at hu
            have h1 := hu m (hb m hmp) i hilt
            rw [decide_eq_true him] at h1
            obtain ⟨_, om, hom, hall⟩ := mem_ready.1 hm.1
            have hn : (pre.getD m 0).testBit i = false := by
              cases ht : (pre.getD m 0).testBit i
              · rfl
              · exact absurd (pre_listed hf hd m om hom hall i ht) (unlisted hri)
            rw [hn, hL, hm.2] at h1
            simpa using h1
        exact tOp_mono hS (fun a' w' hS' hh => next m hm.1 hmp a' w' hS' hh) (h m hmc)
      · rw [if_neg hL] at h
        refine tAny_quiet ho hf hz hL n listed a w hd hri hS ?_
        refine tOp_mono hS (fun a' w' hS' hh => next i hri List.mem_cons_self a' w' hS' ?_) h
        rw [List.erase_cons_head]
        exact hh
theorem wp_region_Z {id : Nat} {a : Act} {w : World} {l : List Oper} (ord L A : List Nat) (U : List (Nat × Nat)) (S : World → Prop) (hm : P.follows .mixedOrders = true) (hc : chk l.toArray (Region.before l.toArray) [] [] = true) (hoc : chkO l.toArray ord = true) (hz : chkZ l.toArray (Region.before l.toArray) ord L A = true) (hu : chkU l.toArray (Region.before l.toArray) ord L U = true)
    (hS : S w.drew) (h : wpZ P l.toArray Q S L A U l.length ord a w.drew) : (Code.region id l.toArray true).wp P Q a w := by
  refine wp_region_any hm (wpAny_of_tAny (L := L) (A := A) (S := S) _ _ _ _ ?_)
  have hsz : l.toArray.size = l.length := by simp
  have ho := chkO_ok hoc
  have hol : ord.length = l.length := ho.len.trans hsz
  have := wpZ_any (P := P) (Q := Q) (S := S) ho (fine_of_chk hc) hz hu l.length ord (Array.replicate l.toArray.size false) a w.drew hol (List.pairwise_iff_getElem.2 fun i j hi hj hij => by rw [ho.pos i hi, ho.pos j hj]; exact hij) ho.lt (by simp)
    (fun i hi d => by
      have hm := ho.mem i hi
      simp only [Array.getD_eq_getD_getElem?, Array.getElem?_replicate, if_pos hi, List.contains_eq_mem]
      simp [hm])
    (fun j o hj hl => by
      have hjl := (Array.getElem?_eq_some_iff.1 hj).1
      simp only [Array.getD_eq_getD_getElem?, Array.getElem?_replicate, if_pos hjl] at hl
      simp at hl) hS h
  rw [hsz]
  exact this
/-- The next operations, in their order. -/
theorem wpZ_seg {U : List (Nat × Nat)} : ∀ (seg : List Oper) (i n : Nat) (rest : List Nat) (a : Act) (w : World), (∀ j, j < seg.length → L.contains (i + j) = false) → (∀ j, j < seg.length → ops[i + j]? = seg[j]?) → wpT P ops (fun _ a w => wpZ P ops Q S L A U n rest a w) S L A seg i a w →
    wpZ P ops Q S L A U (seg.length + n) (List.range' i seg.length ++ rest) a w
  | [], i, n, rest, a, w, _, _, h => by simpa [wpT] using h
  | o :: seg, i, n, rest, a, w, hL, ho, h => by
    have h0 := hL 0 (by simp)
    have o0 := ho 0 (by simp)
    rw [Nat.add_zero] at h0 o0
    have o0 : ops[i]? = some o := by simpa using o0
    rw [List.length_cons, show seg.length + 1 + n = (seg.length + n) + 1 by omega, List.range'_succ, List.cons_append]
    unfold wpZ
    rw [if_neg (by rw [h0]; exact Bool.false_ne_true)]
    have ih := fun a w hh => wpZ_seg (U := U) seg (i + 1) n rest a w (fun j hj => by have := hL (j + 1) (by simp; omega); rwa [show i + 1 + j = i + (j + 1) by omega]) (fun j hj => by have := ho (j + 1) (by simp; omega); rw [show i + 1 + j = i + (j + 1) by omega, this]; simp) hh
    unfold tOp
    simp only [o0]
    unfold wpT at h
    by_cases hw : Region.wanted o (yielded ops a.tmps) = true
    · rw [if_pos hw, if_neg (by rw [h0]; exact Bool.false_ne_true)] at h ⊢
      obtain ⟨v, e1, e2, e3⟩ := h
      exact ⟨v, e1, e2, ih _ _ e3⟩
    · rw [if_neg hw] at h ⊢
      exact ih _ _ h
theorem wpZ_run {U : List (Nat × Nat)} (k : Nat) {i n n' : Nat} {pend pend' : List Nat} {seg : List Oper} {a : Act} {w : World} (hp : pend = List.range' i k ++ pend') (hn : n = k + n') (hs : (ops.toList.drop i).take k = seg) (hk : seg.length = k) (hL : (List.range' i k).all (fun j => !L.contains j) = true)
    (h : wpT P ops (fun _ a w => wpZ P ops Q S L A U n' pend' a w) S L A seg i a w) : wpZ P ops Q S L A U n pend a w := by
  subst hp hn
  have := wpZ_seg (U := U) seg i n' pend' a w (fun j hj => by
    have := List.all_eq_true.1 hL (i + j) (List.mem_range'_1.2 ⟨by omega, by omega⟩)
    simpa using this) (fun j hj => by
    rw [← hs, List.getElem?_take, if_pos (by omega), List.getElem?_drop, Array.getElem?_toList]) h
  rw [hk] at this
  exact this
theorem wpZ_loud {U : List (Nat × Nat)} {i n : Nat} {rest : List Nat} {a : Act} {w : World} (hL : L.contains i = true) (h : ∀ m ∈ i :: rest.filter (fun m => U.contains (i, m)), tOp P ops S L A m (wpZ P ops Q S L A U n ((i :: rest).erase m)) a w) : wpZ P ops Q S L A U (n + 1) (i :: rest) a w := by
  unfold wpZ; rw [if_pos hL]; exact h
theorem wpZ_pick {U : List (Nat × Nat)} {m n : Nat} {pend pend' : List Nat} {o : Oper} {a : Act} {w : World} (he : pend.erase m = pend') (ho : (ops.toList.drop m).head? = some o) (h : wpT P ops (fun _ a w => wpZ P ops Q S L A U n pend' a w) S L A [o] m a w) : tOp P ops S L A m (wpZ P ops Q S L A U n (pend.erase m)) a w := by
  have ho : ops[m]? = some o := by rw [List.head?_drop, Array.getElem?_toList] at ho; exact ho
  rw [he]; unfold tOp; simp only [ho]; exact h
theorem wpZ_nil {U : List (Nat × Nat)} {p : List Nat} {a : Act} {w : World} (h : Q .normal a w) : wpZ P ops Q S L A U 0 p a w := h
theorem wpZ_two {U : List (Nat × Nat)} {i n : Nat} {rest cs : List Nat} {a : Act} {w : World} (hL : L.contains i = true) (hc : rest.filter (fun m => U.contains (i, m)) = cs) (h : ∀ m ∈ i :: cs, tOp P ops S L A m (wpZ P ops Q S L A U n ((i :: rest).erase m)) a w) : wpZ P ops Q S L A U (n + 1) (i :: rest) a w := by
  subst hc; exact wpZ_loud hL h
theorem all1 {p : Nat → Prop} {x : Nat} (h : p x) : ∀ m ∈ [x], p m := fun m hm => by simp at hm; subst hm; exact h
theorem all2 {p : Nat → Prop} {x y : Nat} (h : p x ∧ p y) : ∀ m ∈ [x, y], p m := fun m hm => by
  simp at hm
  rcases hm with rfl | rfl
  · exact h.1
  · exact h.2
theorem all3 {p : Nat → Prop} {x y z : Nat} (h : p x ∧ p y ∧ p z) : ∀ m ∈ [x, y, z], p m := fun m hm => by
  simp at hm
  rcases hm with rfl | rfl | rfl
  · exact h.1
  · exact h.2.1
  · exact h.2.2
end
section
variable {P : Program} {w0 w : World} {N : Gh} {st : St} {nt : Nat} {a : Act}
/-- A region that draws its order, in every order of its loud operations. -/
theorem v_drawZ {id : Nat} {Q : Exit → Act → World → Prop} {l : List Oper} (nb : Nat) (ord L A : List Nat) (U : List (Nat × Nat)) (hm : P.follows .mixedOrders = true) (hchk : chk l.toArray (Region.before l.toArray) [] [] = true) (hoc : chkO l.toArray ord = true) (hz : chkZ l.toArray (Region.before l.toArray) ord L A = true) (hu : chkU l.toArray (Region.before l.toArray) ord L U = true) (H : Rel P w0 N nt st a w)
    (hb : (st.bx.take nb).all (fun x => low nb 0 4 x.2) = true)
    (k : ∀ gS, RelT P w0 N nt gS ⟨st.t.filter fun p => low nb 0 4 p.2.2, st.bx.take nb, st.fz, []⟩ st a w.drew → wpZ P l.toArray Q (Mem gS) L A U l.length ord a w.drew) : (Code.region id l.toArray true).wp P Q a w := by
  obtain ⟨g, HI, hF⟩ := H
  have HI' := HI.drew
  have hc := HI'.loose.cut (nr := 0) (Nat.zero_le _) (Nat.zero_le _) hb
  have hgb : ∀ (i : Nat) x, (g.cut nb 0).bx[i]? = some x → g.bx[i]? = some x := fun i x hx => by
    have : (g.bx.take nb)[i]? = some x := hx
    rw [List.getElem?_take] at this
    split at this
    · exact this
    · cases this
  have hle : (g.cut nb 0).le g := ⟨fun _ _ _ h => h, fun i x hx => ⟨x, hgb i x hx, rfl, rfl⟩, fun i r hr => by simp [Gh.cut] at hr⟩
  have hbs : Bs (g.cut nb 0) g := fun i x hx => ⟨x, hgb i x hx, rfl, rfl, rfl⟩
  have HT : RelT P w0 N nt (g.cut nb 0) ⟨st.t.filter fun p => low nb 0 4 p.2.2, st.bx.take nb, st.fz, []⟩ st a w.drew :=
    ⟨hc.mem, by simp [Gh.cut], ⟨hF.sz, hF.df, fun p hp hg => by
      simp only [List.mem_filter] at hp
      exact (hF.t p hp.1 hg).low_ (d := 3) hp.2, fun p hp hg => hF.u p (List.mem_filter.1 hp).1 hg⟩, hc.br, g, HI', hF, hle, hbs⟩
  exact wp_region_Z ord L A U (Mem (g.cut nb 0)) hm hchk hoc hz hu HT.mem (k _ HT)
end
end Go.Proofs.Ytlagngkafllbiaa
/- The texts of a proof, from the top on: extract.Texts. -/
namespace Go.Proofs.Ytlagngkafllbiaa
open Go Go.RowKit
/-- The state made plain. -/
theorem nf_Texts {P : Program} {w0 w : World} {N : Gh} {nt : Nat} {st s2 : St} {a : Act} (H : Rel P w0 N nt st a w) (h : st = s2 := by (try simp only [pk, elemB, St.put, St.ev, St.tmp, St.keep, find, dropT, slots, AV.put, AV.loc, fitI, convI, IntKind.signed, IntKind.bits, strip, St.lose, mergeL, setAll, nth, renB, ren, idx?, sub, allP, low, bnd, Int.reduceEq, Nat.reduceAdd, Nat.reduceLT, reduceIte, reduceCtorEq, Nat.reduceEqDiff, Nat.reduceLeDiff, Nat.reduceBEq, Int.reducePow, Int.reduceToNat, ti24_t, ti24_z, ti5_t, ti5_z, ti30_t, ti30_z, ti23_t, ti23_z, ti62_t, ti62_z, ti64_t, ti64_z, ti41_t, ti41_z, ti26_t, ti26_z]); rfl) : Rel P w0 N nt s2 a w := h ▸ H
theorem nt_Texts {P : Program} {w0 w : World} {N gS : Gh} {nt : Nat} {q q2 st s2 : St} {a : Act} (H : RelT P w0 N nt gS q st a w) (h1 : q = q2 := by (try simp only [pk, elemB, St.put, St.ev, St.tmp, St.keep, find, dropT, slots, AV.put, AV.loc, fitI, convI, IntKind.signed, IntKind.bits, strip, St.lose, mergeL, setAll, nth, renB, ren, idx?, sub, allP, low, bnd, Int.reduceEq, Nat.reduceAdd, Nat.reduceLT, reduceIte, reduceCtorEq, Nat.reduceEqDiff, Nat.reduceLeDiff, Nat.reduceBEq, Int.reducePow, Int.reduceToNat, ti24_t, ti24_z, ti5_t, ti5_z, ti30_t, ti30_z, ti23_t, ti23_z, ti62_t, ti62_z, ti64_t, ti64_z, ti41_t, ti41_z, ti26_t, ti26_z]); rfl) (h : st = s2 := by (try simp only [pk, elemB, St.put, St.ev, St.tmp, St.keep, find, dropT, slots, AV.put, AV.loc, fitI, convI, IntKind.signed, IntKind.bits, strip, St.lose, mergeL, setAll, nth, renB, ren, idx?, sub, allP, low, bnd, Int.reduceEq, Nat.reduceAdd, Nat.reduceLT, reduceIte, reduceCtorEq, Nat.reduceEqDiff, Nat.reduceLeDiff, Nat.reduceBEq, Int.reducePow, Int.reduceToNat, ti24_t, ti24_z, ti5_t, ti5_z, ti30_t, ti30_z, ti23_t, ti23_z, ti62_t, ti62_z, ti64_t, ti64_z, ti41_t, ti41_z, ti26_t, ti26_z]); rfl) : RelT P w0 N nt gS q2 s2 a w := h1 ▸ h ▸ H
theorem ct_Texts {c : Prop} (h : c := by ((try simp only [pk, elemB, St.put, St.ev, St.tmp, St.keep, find, dropT, slots, AV.put, AV.loc, fitI, convI, IntKind.signed, IntKind.bits, strip, St.lose, mergeL, setAll, nth, renB, ren, idx?, sub, allP, low, bnd, Int.reduceEq, Nat.reduceAdd, Nat.reduceLT, reduceIte, reduceCtorEq, Nat.reduceEqDiff, Nat.reduceLeDiff, Nat.reduceBEq, Int.reducePow, Int.reduceToNat, ti24_t, ti24_z, ti5_t, ti5_z, ti30_t, ti30_z, ti23_t, ti23_z, ti62_t, ti62_z, ti64_t, ti64_z, ti41_t, ti41_z, ti26_t, ti26_z, ti24, ti5, ti30, ti23, ti62, ti64, ti41, ti26, fit, gcond, ilo, ihi]); first | done | exact cd | exact cd2 | skip)) : c := h
def textD (key : List UInt8) (d : Nat) (x below : List UInt8) : List UInt8 := 2 :: (if bitN key d then x ++ sum below else sum below ++ x)
def tx (key : List UInt8) : Nat → List (List UInt8) → List UInt8 → List (List UInt8)
  | _, [], e => [e]
  | d, x :: r, e => textD key d x ((tx key (d + 1) r e).headD []) :: tx key (d + 1) r e
theorem tx_len (key e : List UInt8) : ∀ d s, (tx key d s e).length = s.length + 1
  | _, [] => rfl
  | d, _ :: r => by simp [tx, tx_len key e (d + 1) r]
theorem textD_len (key : List UInt8) (d : Nat) (x b : List UInt8) (hx : x.length = 32) : (textD key d x b).length = 65 := by
  unfold textD
  have := sum_length b
  split <;> simp <;> omega
theorem tx_head (key e : List UInt8) (he : e.length ≤ 65) : ∀ d s, (∀ h ∈ s, h.length = 32) → ((tx key d s e).headD []).length ≤ 65
  | _, [], _ => he
  | d, x :: r, hs => by simp only [tx, List.headD_cons]; rw [textD_len _ _ _ _ (hs x List.mem_cons_self)]; exact Nat.le_refl _
theorem tx_drop (key e : List UInt8) (s : List (List UInt8)) (k : Nat) (hk : k < s.length) : tx key k (s.drop k) e = textD key k (s.getD k []) ((tx key (k + 1) (s.drop (k + 1)) e).headD []) :: tx key (k + 1) (s.drop (k + 1)) e := by
  rw [List.drop_eq_getElem_cons hk, List.getElem_eq_getD []]; rfl
def txs (key l : List UInt8) : List (List UInt8) := if pOk l then tx key 0 (pDec l).s (pDec l).e.text else []
theorem bss_snoc (ls : List (List UInt8)) (x : List UInt8) : bss (ls ++ [x]) = bss ls ++ [.bs x none] := by simp [bss]
theorem cutG {B R : Act → World → Prop} {G : Prop} (h : (∀ a w, R a w → B a w) → G) (k : ∀ a w, R a w → B a w) : G := h k
set_option maxRecDepth 20000 in
set_option maxHeartbeats 16000000 in
theorem texts_ok (key l : List UInt8) (hk32 : key.length = 32) (hl : l.length ≤ 34359730000) (h : pOk l) : VC Try.prog 8 [.ba key, .bs l none] [] (.tup [.sl .sc (bss (txs key l)) none, errv 0]) := by
  have hd := decodeP_v l hl
  rw [if_pos h] at hd
  rw [txs, if_pos h]
  have hw := pDec_wf l
  obtain ⟨hle, hok, hk2⟩ := chk_all (pDec_chk h)
  generalize pDec l = p at *
  obtain ⟨s, n⟩ := p
  dsimp only at hle hok hk2 ⊢
  have hs := hw.s
  have hsl := bas_len s
  have hen := encode_ok n hw.e hok
  obtain ⟨h1, h2, h3, h4⟩ := id hw.e
  dsimp only at h1 h2 h3 h4 hs
  have htl := text_len hw.e
  dsimp only at htl
  have hz2 := z32_len
  refine v_enterB Try.func8 rfl (by kernel_rfl) (by show 2 ≤ 60; decide) ?_
  intro N w0 a w hNb hN hR H
  simp only [Pf.av, Nd.av] at H hd hen
  repeat (first | refine wp_seq ?_ | refine wp_block ?_ | refine wp_skip ?_ | refine wp_exit ?_ | ((first | refine v_some 5 tab_ok hN H (by rfl) ct_Texts ?_ | refine v_more tab_ok hN H (by rfl) (by rfl) ct_Texts ?_); clear H; intro a w H; replace H := nf_Texts H; (try simp only [List.drop_succ_cons, List.drop_zero, List.drop_nil]); try refine wpList_nil ?_) | refine wp_region_lit ?_)
  refine v_call [] [] (hd) H rfl rfl (by rfl) cb cw ca ?_; clear H; intro a w H; replace H := nf_Texts H; try refine wpList_nil ?_
  repeat (first | refine wp_seq ?_ | refine wp_block ?_ | refine wp_skip ?_ | refine wp_exit ?_ | ((first | refine v_some 5 tab_ok hN H (by rfl) ct_Texts ?_ | refine v_more tab_ok hN H (by rfl) (by rfl) ct_Texts ?_); clear H; intro a w H; replace H := nf_Texts H; (try simp only [List.drop_succ_cons, List.drop_zero, List.drop_nil]); try refine wpList_nil ?_) | refine wp_region_lit ?_)
  refine v_cond H (by rfl) (fun hb => ?_) (fun hb => ?_)
  · simp at hb
  · clear hb
    repeat (first | refine wp_seq ?_ | refine wp_block ?_ | refine wp_skip ?_ | refine wp_exit ?_ | ((first | refine v_some 5 tab_ok hN H (by rfl) ct_Texts ?_ | refine v_more tab_ok hN H (by rfl) (by rfl) ct_Texts ?_); clear H; intro a w H; replace H := nf_Texts H; (try simp only [List.drop_succ_cons, List.drop_zero, List.drop_nil]); try refine wpList_nil ?_) | refine wp_region_lit ?_)
    refine v_call [] [] (hen) H rfl rfl (by rfl) cb cw ca ?_; clear H; intro a w H; replace H := nf_Texts H; try refine wpList_nil ?_
    obtain ⟨e, he⟩ : ∃ e, e = n.text := ⟨_, rfl⟩
    rw [← he] at H htl ⊢
    clear he hen
    have hel : e.length ≤ 65 := by omega
    repeat (first | refine wp_seq ?_ | refine wp_block ?_ | refine wp_skip ?_ | refine wp_exit ?_ | ((first | refine v_some 5 tab_ok hN H (by rfl) (by (try simp only [hsl]); first | done | exact ct_Texts) ?_ | refine v_more tab_ok hN H (by rfl) (by rfl) (by (try simp only [hsl]); first | done | exact ct_Texts) ?_); clear H; intro a w H; replace H := nf_Texts H; first | (simp only [hsl] at H; replace H := nf_Texts H) | skip; (try simp only [List.drop_succ_cons, List.drop_zero, List.drop_nil]); try refine wpList_nil ?_) | refine wp_region_lit ?_)
    have H := v_sub H 8 (x := .bs e (some 0)) (y := .bs e none) (by simp only [sub]) rfl (fun _ e => by cases e) rfl
    simp only [nilT, reduceIte, Nat.reduceEqDiff] at H
    have H := v_ref H 6 1 (Nat.le_trans hN (by decide)) rfl rfl rfl
    simp only [nilT, strip, List.map_cons, List.map_nil, reduceIte, Nat.reduceEqDiff] at H
    have H := v_ref H 2 0 (Nat.le_trans hN (by decide)) rfl rfl rfl
    simp only [nilT, strip, List.map_cons, List.map_nil, reduceIte, Nat.reduceEqDiff] at H
    replace H := H.keep [2, 5, 6, 8, 10, 11] 0 2 ⟨Nat.le_trans hN (by show _ ≤ 0; decide), Nat.le_trans hR (by show _ ≤ 2; decide)⟩ (by rfl) (by rfl)
    replace H := nf_Texts H; first | (simp only [hsl] at H; replace H := nf_Texts H) | skip
    have H := v_fz H
    simp only [List.filter_cons, List.filter_nil, List.length_cons, List.length_nil, Nat.reduceAdd, Nat.reduceLT, Nat.not_lt_zero, Nat.zero_add, Nat.lt_irrefl, decide_false, Bool.false_eq_true, reduceIte] at H
    refine v_loop (fun k : Nat => ⟨[(11, none, .v (.int .i64 ((k : Int) - 1))), (10, none, .sl .sc (bss (tx key k (s.drop k) e).reverse) (some 1)), (8, none, .bs ((tx key k (s.drop k) e).headD []) none), (6, none, .ref ti64.ty (.st [.sl (.ba 32) (bas s) none, .st [.v (B8 n.k), .ba n.key, .ba n.v, .ba n.l, .ba n.r]])), (5, none, .v (.int .i64 0)), (2, none, .ref (.ba 32) (.ba key))], [], [], [(5, e.length), (24, (tx key k (s.drop k) e).reverse.length)]⟩)
      (fun k => k ≤ s.length) (fun k => k) s.length (Nat.le_refl _) (H.to 0 2 ⟨hN, Nat.le_trans hR (by decide)⟩ ⟨rfl, by rw [List.drop_length]; rfl, by rw [List.drop_length]; rfl, rfl, rfl, rfl, trivial⟩ rfl (by rw [List.drop_length]; rfl) rfl rfl rfl) ?_
    clear H
    intro k a w hk H
    repeat (first | refine wp_seq ?_ | refine wp_block ?_ | refine wp_skip ?_ | refine wp_exit ?_ | ((first | refine v_some 5 tab_ok hN H (by rfl) (by (try simp only [hsl]); first | done | exact ct_Texts) ?_ | refine v_more tab_ok hN H (by rfl) (by rfl) (by (try simp only [hsl]); first | done | exact ct_Texts) ?_); clear H; intro a w H; replace H := nf_Texts H; first | (simp only [hsl] at H; replace H := nf_Texts H) | skip; (try simp only [List.drop_succ_cons, List.drop_zero, List.drop_nil]); try refine wpList_nil ?_) | refine wp_region_lit ?_)
    refine v_cond H (by rfl) (fun hb => ?_) (fun hb => ?_)
    · obtain ⟨j, rfl⟩ : ∃ j, k = j + 1 := ⟨k - 1, by rw [decide_eq_true_eq] at hb; omega⟩
      clear hb
      have hj : j < s.length := hk
      have e1 : (((j + 1 : Nat) : Int) - 1) = (j : Int) := by omega
      rw [e1] at H
      have hbit := bit_v key hk32 (j : Int)
      have hj256 : j < 256 := by omega
      have hpb : decide (pbit key (j : Int) = 1) = bitN key j := by
        rw [pbit, if_pos (by omega), Int.toNat_natCast]; cases bitN key j <;> rfl
      have htx := tx_drop key e s j hj
      have hth := tx_head key e hel (j + 1) (s.drop (j + 1)) (fun h hh => hs h (List.mem_of_mem_drop hh))
      have hg := bas_get s j hj
      rw [List.getElem_eq_getD []] at hg
      have hx : (s.getD j []).length = 32 := by rw [← List.getElem_eq_getD (h := hj) []]; exact hs _ (List.getElem_mem _)
      have hll := tx_len key e (j + 1) (s.drop (j + 1))
      have hsd : (s.drop (j + 1)).length ≤ s.length := by rw [List.length_drop]; omega
      generalize s.getD j [] = x at *
      generalize tx key (j + 1) (s.drop (j + 1)) e = ls at *
      generalize ls.headD [] = t at *
      have hsu := sum_v t (by omega)
      have hsul := sum_length t
      have hbl : (bss ls.reverse).length = ls.length := by simp [bss]
      have hit1 := innerText_v (sum t) x hsul hx
      have hit2 := innerText_v x (sum t) hx hsul
      have htl1 : (2 :: (sum t ++ x)).length = 65 := by simp; omega
      have htl2 : (2 :: (x ++ sum t)).length = 65 := by simp; omega
      repeat (first | refine wp_seq ?_ | refine wp_block ?_ | refine wp_skip ?_ | refine wp_exit ?_ | ((first | refine v_some 5 tab_ok hN H (by rfl) (by (try simp only [hsl, hg, hsl, hx, hsul]); first | done | exact ct_Texts) ?_ | refine v_more tab_ok hN H (by rfl) (by rfl) (by (try simp only [hsl, hg, hsl, hx, hsul]); first | done | exact ct_Texts) ?_); clear H; intro a w H; replace H := nf_Texts H; first | (simp only [hsl, hg] at H; replace H := nf_Texts H) | skip; (try simp only [List.drop_succ_cons, List.drop_zero, List.drop_nil]); try refine wpList_nil ?_) | refine wp_region_lit ?_)
      apply cutG (R := fun a w => Rel Try.prog w0 N Try.f8.ntmps ⟨[(2, none, .ref (.ba 32) (.ba key)), (5, none, .v (.int .i64 0)), (6, none, .ref ti64.ty (.st [.sl (.ba 32) (bas s) none, .st [.v (B8 n.k), .ba n.key, .ba n.v, .ba n.l, .ba n.r]])), (8, none, .bs t none), (10, none, .sl .sc (bss ls.reverse) (some 1)), (11, none, .v (.int .i64 (j : Int))), (12, none, .ptr 0 []), (13, none, .ptr 1 [])], [(.ba 32, .ba (sum t)), (.ba 32, .ba x)], [], [(5, e.length), (24, ls.reverse.length)]⟩ a w)
      intro key1
      apply cutG (R := fun a w => Rel Try.prog w0 N Try.f8.ntmps ⟨[(2, none, .ref (.ba 32) (.ba key)), (5, none, .v (.int .i64 0)), (6, none, .ref ti64.ty (.st [.sl (.ba 32) (bas s) none, .st [.v (B8 n.k), .ba n.key, .ba n.v, .ba n.l, .ba n.r]])), (8, none, .bs t none), (10, none, .sl .sc (bss ls.reverse) (some 1)), (11, none, .v (.int .i64 (j : Int))), (12, none, .ptr 1 []), (13, none, .ptr 0 [])], [(.ba 32, .ba x), (.ba 32, .ba (sum t))], [], [(5, e.length), (24, ls.reverse.length)]⟩ a w)
      intro key2
      · repeat (first | refine wp_seq ?_ | refine wp_block ?_)
        refine v_drawZ 0 [0, 1, 2, 3, 4, 5, 6, 7, 8, 9, 10] [1, 7, 8, 9, 10] [0, 2, 3, 4, 5, 6] [(1, 7), (1, 8), (7, 8)] (by kernel_rfl) (by kernel_rfl) (by kernel_rfl) (by kernel_rfl) (by kernel_rfl) H (by rfl) (fun gS H => ?_); try replace H := nt_Texts H; first | (simp only [hsl, hg] at H; replace H := nt_Texts H) | skip
        refine wpZ_run 1 (i := 0) (n' := 10) (pend' := [1, 2, 3, 4, 5, 6, 7, 8, 9, 10]) (by rfl) (by rfl) (by rfl) (by rfl) (by rfl) ?_
        repeat (refine v_someT 3 tab_ok hN H (by rfl) (by (try simp only [hsl, hg, hsl, hx, hsul]); first | done | exact ct_Texts) ?_; clear H; intro a w H; replace H := nt_Texts H; first | (simp only [hsl, hg] at H; replace H := nt_Texts H) | skip; simp only [List.drop_succ_cons, List.drop_zero, List.drop_nil])
        refine wpT_nil ?_
        try dsimp only
        refine wpZ_two (cs := [7, 8]) (by rfl) (by rfl) ?_
        refine all3 ?_
        refine ⟨?_, ?_, ?_⟩
        focus
          refine wpZ_pick (pend' := [2, 3, 4, 5, 6, 7, 8, 9, 10]) (by rfl) (by rfl) ?_
          refine v_callT [] [] (hsu) H (by rfl) (by rfl) rfl rfl (by rfl) (by simp [pickB, bxs, ren, idx?, sub_refl, sub, allP, hsl, hg] <;> omega) (by first | rfl | (simp [hsl, hg] <;> omega)) (by first | exact trivial | exact ⟨sub_refl _ _, trivial⟩ | exact ⟨sub_refl _ _, sub_refl _ _, trivial⟩ | exact ⟨sub_refl _ _, sub_refl _ _, sub_refl _ _, trivial⟩ | exact ⟨⟨rfl, sub_refl _ _, trivial⟩, sub_refl _ _, trivial⟩ | (simp [cargs, cargsG, St.ev, St.tmp, find, ren, idx?, sub_refl, sub, allP, resv, resC, bss, hsl, hg] <;> omega)) ?_; clear H; intro a w H; try replace H := nt_Texts H; first | (simp only [hsl, hg] at H; replace H := nt_Texts H) | skip
          refine wpT_nil ?_
          try dsimp only
          refine wpZ_run 5 (i := 2) (n' := 4) (pend' := [7, 8, 9, 10]) (by rfl) (by rfl) (by rfl) (by rfl) (by rfl) ?_
          repeat (refine v_someT 3 tab_ok hN H (by rfl) (by (try simp only [hsl, hg, hsl, hx, hsul]); first | done | exact ct_Texts) ?_; clear H; intro a w H; replace H := nt_Texts H; first | (simp only [hsl, hg] at H; replace H := nt_Texts H) | skip; simp only [List.drop_succ_cons, List.drop_zero, List.drop_nil])
          refine wpT_nil ?_
          try dsimp only
          refine wpZ_two (cs := [8]) (by rfl) (by rfl) ?_
          refine all2 ?_
          refine ⟨?_, ?_⟩
          focus
            refine wpZ_pick (pend' := [8, 9, 10]) (by rfl) (by rfl) ?_
            repeat (refine v_someT 3 tab_ok hN H (by rfl) (by (try simp only [hsl, hg, hsl, hx, hsul]); first | done | exact ct_Texts) ?_; clear H; intro a w H; replace H := nt_Texts H; first | (simp only [hsl, hg] at H; replace H := nt_Texts H) | skip; simp only [List.drop_succ_cons, List.drop_zero, List.drop_nil])
            refine wpT_nil ?_
            try dsimp only
            refine wpZ_two (cs := []) (by rfl) (by rfl) ?_
            refine all1 ?_
            refine wpZ_pick (pend' := [9, 10]) (by rfl) (by rfl) ?_
            repeat (refine v_someT 3 tab_ok hN H (by rfl) (by (try simp only [hsl, hg, hsl, hx, hsul]); first | done | exact ct_Texts) ?_; clear H; intro a w H; replace H := nt_Texts H; first | (simp only [hsl, hg] at H; replace H := nt_Texts H) | skip; simp only [List.drop_succ_cons, List.drop_zero, List.drop_nil])
            refine wpT_nil ?_
            try dsimp only
            refine wpZ_two (cs := []) (by rfl) (by rfl) ?_
            refine all1 ?_
            refine wpZ_pick (pend' := [10]) (by rfl) (by rfl) ?_
            repeat (refine v_someT 3 tab_ok hN H (by rfl) (by (try simp only [hsl, hg, hsl, hx, hsul]); first | done | exact ct_Texts) ?_; clear H; intro a w H; replace H := nt_Texts H; first | (simp only [hsl, hg] at H; replace H := nt_Texts H) | skip; simp only [List.drop_succ_cons, List.drop_zero, List.drop_nil])
            refine wpT_nil ?_
            try dsimp only
            refine wpZ_two (cs := []) (by rfl) (by rfl) ?_
            refine all1 ?_
            refine wpZ_pick (pend' := []) (by rfl) (by rfl) ?_
            repeat (refine v_someT 3 tab_ok hN H (by rfl) (by (try simp only [hsl, hg, hsl, hx, hsul]); first | done | exact ct_Texts) ?_; clear H; intro a w H; replace H := nt_Texts H; first | (simp only [hsl, hg] at H; replace H := nt_Texts H) | skip; simp only [List.drop_succ_cons, List.drop_zero, List.drop_nil])
            refine wpT_nil ?_
            try dsimp only
            refine wpZ_nil ?_
            replace H := RelT.toRel H
          rotate_left 1
          focus
            refine wpZ_pick (pend' := [7, 9, 10]) (by rfl) (by rfl) ?_
            repeat (refine v_someT 3 tab_ok hN H (by rfl) (by (try simp only [hsl, hg, hsl, hx, hsul]); first | done | exact ct_Texts) ?_; clear H; intro a w H; replace H := nt_Texts H; first | (simp only [hsl, hg] at H; replace H := nt_Texts H) | skip; simp only [List.drop_succ_cons, List.drop_zero, List.drop_nil])
            refine wpT_nil ?_
            try dsimp only
            refine wpZ_two (cs := []) (by rfl) (by rfl) ?_
            refine all1 ?_
            refine wpZ_pick (pend' := [9, 10]) (by rfl) (by rfl) ?_
            repeat (refine v_someT 3 tab_ok hN H (by rfl) (by (try simp only [hsl, hg, hsl, hx, hsul]); first | done | exact ct_Texts) ?_; clear H; intro a w H; replace H := nt_Texts H; first | (simp only [hsl, hg] at H; replace H := nt_Texts H) | skip; simp only [List.drop_succ_cons, List.drop_zero, List.drop_nil])
            refine wpT_nil ?_
            try dsimp only
            refine wpZ_two (cs := []) (by rfl) (by rfl) ?_
            refine all1 ?_
            refine wpZ_pick (pend' := [10]) (by rfl) (by rfl) ?_
            repeat (refine v_someT 3 tab_ok hN H (by rfl) (by (try simp only [hsl, hg, hsl, hx, hsul]); first | done | exact ct_Texts) ?_; clear H; intro a w H; replace H := nt_Texts H; first | (simp only [hsl, hg] at H; replace H := nt_Texts H) | skip; simp only [List.drop_succ_cons, List.drop_zero, List.drop_nil])
            refine wpT_nil ?_
            try dsimp only
            refine wpZ_two (cs := []) (by rfl) (by rfl) ?_
            refine all1 ?_
            refine wpZ_pick (pend' := []) (by rfl) (by rfl) ?_
            repeat (refine v_someT 3 tab_ok hN H (by rfl) (by (try simp only [hsl, hg, hsl, hx, hsul]); first | done | exact ct_Texts) ?_; clear H; intro a w H; replace H := nt_Texts H; first | (simp only [hsl, hg] at H; replace H := nt_Texts H) | skip; simp only [List.drop_succ_cons, List.drop_zero, List.drop_nil])
            refine wpT_nil ?_
            try dsimp only
            refine wpZ_nil ?_
            replace H := RelT.toRel H
        rotate_left 2
        focus
          refine wpZ_pick (pend' := [1, 2, 3, 4, 5, 6, 8, 9, 10]) (by rfl) (by rfl) ?_
          repeat (refine v_someT 3 tab_ok hN H (by rfl) (by (try simp only [hsl, hg, hsl, hx, hsul]); first | done | exact ct_Texts) ?_; clear H; intro a w H; replace H := nt_Texts H; first | (simp only [hsl, hg] at H; replace H := nt_Texts H) | skip; simp only [List.drop_succ_cons, List.drop_zero, List.drop_nil])
          refine wpT_nil ?_
          try dsimp only
          refine wpZ_two (cs := [8]) (by rfl) (by rfl) ?_
          refine all2 ?_
          refine ⟨?_, ?_⟩
          focus
            refine wpZ_pick (pend' := [2, 3, 4, 5, 6, 8, 9, 10]) (by rfl) (by rfl) ?_
            refine v_callT [] [] (hsu) H (by rfl) (by rfl) rfl rfl (by rfl) (by simp [pickB, bxs, ren, idx?, sub_refl, sub, allP, hsl, hg] <;> omega) (by first | rfl | (simp [hsl, hg] <;> omega)) (by first | exact trivial | exact ⟨sub_refl _ _, trivial⟩ | exact ⟨sub_refl _ _, sub_refl _ _, trivial⟩ | exact ⟨sub_refl _ _, sub_refl _ _, sub_refl _ _, trivial⟩ | exact ⟨⟨rfl, sub_refl _ _, trivial⟩, sub_refl _ _, trivial⟩ | (simp [cargs, cargsG, St.ev, St.tmp, find, ren, idx?, sub_refl, sub, allP, resv, resC, bss, hsl, hg] <;> omega)) ?_; clear H; intro a w H; try replace H := nt_Texts H; first | (simp only [hsl, hg] at H; replace H := nt_Texts H) | skip
            refine wpT_nil ?_
            try dsimp only
            refine wpZ_run 5 (i := 2) (n' := 3) (pend' := [8, 9, 10]) (by rfl) (by rfl) (by rfl) (by rfl) (by rfl) ?_
            repeat (refine v_someT 3 tab_ok hN H (by rfl) (by (try simp only [hsl, hg, hsl, hx, hsul]); first | done | exact ct_Texts) ?_; clear H; intro a w H; replace H := nt_Texts H; first | (simp only [hsl, hg] at H; replace H := nt_Texts H) | skip; simp only [List.drop_succ_cons, List.drop_zero, List.drop_nil])
            refine wpT_nil ?_
            try dsimp only
            refine wpZ_two (cs := []) (by rfl) (by rfl) ?_
            refine all1 ?_
            refine wpZ_pick (pend' := [9, 10]) (by rfl) (by rfl) ?_
            repeat (refine v_someT 3 tab_ok hN H (by rfl) (by (try simp only [hsl, hg, hsl, hx, hsul]); first | done | exact ct_Texts) ?_; clear H; intro a w H; replace H := nt_Texts H; first | (simp only [hsl, hg] at H; replace H := nt_Texts H) | skip; simp only [List.drop_succ_cons, List.drop_zero, List.drop_nil])
            refine wpT_nil ?_
            try dsimp only
            refine wpZ_two (cs := []) (by rfl) (by rfl) ?_
            refine all1 ?_
            refine wpZ_pick (pend' := [10]) (by rfl) (by rfl) ?_
            repeat (refine v_someT 3 tab_ok hN H (by rfl) (by (try simp only [hsl, hg, hsl, hx, hsul]); first | done | exact ct_Texts) ?_; clear H; intro a w H; replace H := nt_Texts H; first | (simp only [hsl, hg] at H; replace H := nt_Texts H) | skip; simp only [List.drop_succ_cons, List.drop_zero, List.drop_nil])
            refine wpT_nil ?_
            try dsimp only
            refine wpZ_two (cs := []) (by rfl) (by rfl) ?_
            refine all1 ?_
            refine wpZ_pick (pend' := []) (by rfl) (by rfl) ?_
            repeat (refine v_someT 3 tab_ok hN H (by rfl) (by (try simp only [hsl, hg, hsl, hx, hsul]); first | done | exact ct_Texts) ?_; clear H; intro a w H; replace H := nt_Texts H; first | (simp only [hsl, hg] at H; replace H := nt_Texts H) | skip; simp only [List.drop_succ_cons, List.drop_zero, List.drop_nil])
            refine wpT_nil ?_
            try dsimp only
            refine wpZ_nil ?_
            replace H := RelT.toRel H
          rotate_left 1
          focus
            refine wpZ_pick (pend' := [1, 2, 3, 4, 5, 6, 9, 10]) (by rfl) (by rfl) ?_
            repeat (refine v_someT 3 tab_ok hN H (by rfl) (by (try simp only [hsl, hg, hsl, hx, hsul]); first | done | exact ct_Texts) ?_; clear H; intro a w H; replace H := nt_Texts H; first | (simp only [hsl, hg] at H; replace H := nt_Texts H) | skip; simp only [List.drop_succ_cons, List.drop_zero, List.drop_nil])
            refine wpT_nil ?_
            try dsimp only
            refine wpZ_two (cs := []) (by rfl) (by rfl) ?_
            refine all1 ?_
            refine wpZ_pick (pend' := [2, 3, 4, 5, 6, 9, 10]) (by rfl) (by rfl) ?_
            refine v_callT [] [] (hsu) H (by rfl) (by rfl) rfl rfl (by rfl) (by simp [pickB, bxs, ren, idx?, sub_refl, sub, allP, hsl, hg] <;> omega) (by first | rfl | (simp [hsl, hg] <;> omega)) (by first | exact trivial | exact ⟨sub_refl _ _, trivial⟩ | exact ⟨sub_refl _ _, sub_refl _ _, trivial⟩ | exact ⟨sub_refl _ _, sub_refl _ _, sub_refl _ _, trivial⟩ | exact ⟨⟨rfl, sub_refl _ _, trivial⟩, sub_refl _ _, trivial⟩ | (simp [cargs, cargsG, St.ev, St.tmp, find, ren, idx?, sub_refl, sub, allP, resv, resC, bss, hsl, hg] <;> omega)) ?_; clear H; intro a w H; try replace H := nt_Texts H; first | (simp only [hsl, hg] at H; replace H := nt_Texts H) | skip
            refine wpT_nil ?_
            try dsimp only
            refine wpZ_run 5 (i := 2) (n' := 2) (pend' := [9, 10]) (by rfl) (by rfl) (by rfl) (by rfl) (by rfl) ?_
            repeat (refine v_someT 3 tab_ok hN H (by rfl) (by (try simp only [hsl, hg, hsl, hx, hsul]); first | done | exact ct_Texts) ?_; clear H; intro a w H; replace H := nt_Texts H; first | (simp only [hsl, hg] at H; replace H := nt_Texts H) | skip; simp only [List.drop_succ_cons, List.drop_zero, List.drop_nil])
            refine wpT_nil ?_
            try dsimp only
            refine wpZ_two (cs := []) (by rfl) (by rfl) ?_
            refine all1 ?_
            refine wpZ_pick (pend' := [10]) (by rfl) (by rfl) ?_
            repeat (refine v_someT 3 tab_ok hN H (by rfl) (by (try simp only [hsl, hg, hsl, hx, hsul]); first | done | exact ct_Texts) ?_; clear H; intro a w H; replace H := nt_Texts H; first | (simp only [hsl, hg] at H; replace H := nt_Texts H) | skip; simp only [List.drop_succ_cons, List.drop_zero, List.drop_nil])
            refine wpT_nil ?_
            try dsimp only
            refine wpZ_two (cs := []) (by rfl) (by rfl) ?_
            refine all1 ?_
            refine wpZ_pick (pend' := []) (by rfl) (by rfl) ?_
            repeat (refine v_someT 3 tab_ok hN H (by rfl) (by (try simp only [hsl, hg, hsl, hx, hsul]); first | done | exact ct_Texts) ?_; clear H; intro a w H; replace H := nt_Texts H; first | (simp only [hsl, hg] at H; replace H := nt_Texts H) | skip; simp only [List.drop_succ_cons, List.drop_zero, List.drop_nil])
            refine wpT_nil ?_
            try dsimp only
            refine wpZ_nil ?_
            replace H := RelT.toRel H
        rotate_left 2
        focus
          refine wpZ_pick (pend' := [1, 2, 3, 4, 5, 6, 7, 9, 10]) (by rfl) (by rfl) ?_
          repeat (refine v_someT 3 tab_ok hN H (by rfl) (by (try simp only [hsl, hg, hsl, hx, hsul]); first | done | exact ct_Texts) ?_; clear H; intro a w H; replace H := nt_Texts H; first | (simp only [hsl, hg] at H; replace H := nt_Texts H) | skip; simp only [List.drop_succ_cons, List.drop_zero, List.drop_nil])
          refine wpT_nil ?_
          try dsimp only
          refine wpZ_two (cs := [7]) (by rfl) (by rfl) ?_
          refine all2 ?_
          refine ⟨?_, ?_⟩
          focus
            refine wpZ_pick (pend' := [2, 3, 4, 5, 6, 7, 9, 10]) (by rfl) (by rfl) ?_
            refine v_callT [] [] (hsu) H (by rfl) (by rfl) rfl rfl (by rfl) (by simp [pickB, bxs, ren, idx?, sub_refl, sub, allP, hsl, hg] <;> omega) (by first | rfl | (simp [hsl, hg] <;> omega)) (by first | exact trivial | exact ⟨sub_refl _ _, trivial⟩ | exact ⟨sub_refl _ _, sub_refl _ _, trivial⟩ | exact ⟨sub_refl _ _, sub_refl _ _, sub_refl _ _, trivial⟩ | exact ⟨⟨rfl, sub_refl _ _, trivial⟩, sub_refl _ _, trivial⟩ | (simp [cargs, cargsG, St.ev, St.tmp, find, ren, idx?, sub_refl, sub, allP, resv, resC, bss, hsl, hg] <;> omega)) ?_; clear H; intro a w H; try replace H := nt_Texts H; first | (simp only [hsl, hg] at H; replace H := nt_Texts H) | skip
            refine wpT_nil ?_
            try dsimp only
            refine wpZ_run 5 (i := 2) (n' := 3) (pend' := [7, 9, 10]) (by rfl) (by rfl) (by rfl) (by rfl) (by rfl) ?_
            repeat (refine v_someT 3 tab_ok hN H (by rfl) (by (try simp only [hsl, hg, hsl, hx, hsul]); first | done | exact ct_Texts) ?_; clear H; intro a w H; replace H := nt_Texts H; first | (simp only [hsl, hg] at H; replace H := nt_Texts H) | skip; simp only [List.drop_succ_cons, List.drop_zero, List.drop_nil])
            refine wpT_nil ?_
            try dsimp only
            refine wpZ_two (cs := []) (by rfl) (by rfl) ?_
            refine all1 ?_
            refine wpZ_pick (pend' := [9, 10]) (by rfl) (by rfl) ?_
            repeat (refine v_someT 3 tab_ok hN H (by rfl) (by (try simp only [hsl, hg, hsl, hx, hsul]); first | done | exact ct_Texts) ?_; clear H; intro a w H; replace H := nt_Texts H; first | (simp only [hsl, hg] at H; replace H := nt_Texts H) | skip; simp only [List.drop_succ_cons, List.drop_zero, List.drop_nil])
            refine wpT_nil ?_
            try dsimp only
            refine wpZ_two (cs := []) (by rfl) (by rfl) ?_
            refine all1 ?_
            refine wpZ_pick (pend' := [10]) (by rfl) (by rfl) ?_
            repeat (refine v_someT 3 tab_ok hN H (by rfl) (by (try simp only [hsl, hg, hsl, hx, hsul]); first | done | exact ct_Texts) ?_; clear H; intro a w H; replace H := nt_Texts H; first | (simp only [hsl, hg] at H; replace H := nt_Texts H) | skip; simp only [List.drop_succ_cons, List.drop_zero, List.drop_nil])
            refine wpT_nil ?_
            try dsimp only
            refine wpZ_two (cs := []) (by rfl) (by rfl) ?_
            refine all1 ?_
            refine wpZ_pick (pend' := []) (by rfl) (by rfl) ?_
            repeat (refine v_someT 3 tab_ok hN H (by rfl) (by (try simp only [hsl, hg, hsl, hx, hsul]); first | done | exact ct_Texts) ?_; clear H; intro a w H; replace H := nt_Texts H; first | (simp only [hsl, hg] at H; replace H := nt_Texts H) | skip; simp only [List.drop_succ_cons, List.drop_zero, List.drop_nil])
            refine wpT_nil ?_
            try dsimp only
            refine wpZ_nil ?_
            replace H := RelT.toRel H
          rotate_left 1
          focus
            refine wpZ_pick (pend' := [1, 2, 3, 4, 5, 6, 9, 10]) (by rfl) (by rfl) ?_
            repeat (refine v_someT 3 tab_ok hN H (by rfl) (by (try simp only [hsl, hg, hsl, hx, hsul]); first | done | exact ct_Texts) ?_; clear H; intro a w H; replace H := nt_Texts H; first | (simp only [hsl, hg] at H; replace H := nt_Texts H) | skip; simp only [List.drop_succ_cons, List.drop_zero, List.drop_nil])
            refine wpT_nil ?_
            try dsimp only
            refine wpZ_two (cs := []) (by rfl) (by rfl) ?_
            refine all1 ?_
            refine wpZ_pick (pend' := [2, 3, 4, 5, 6, 9, 10]) (by rfl) (by rfl) ?_
            refine v_callT [] [] (hsu) H (by rfl) (by rfl) rfl rfl (by rfl) (by simp [pickB, bxs, ren, idx?, sub_refl, sub, allP, hsl, hg] <;> omega) (by first | rfl | (simp [hsl, hg] <;> omega)) (by first | exact trivial | exact ⟨sub_refl _ _, trivial⟩ | exact ⟨sub_refl _ _, sub_refl _ _, trivial⟩ | exact ⟨sub_refl _ _, sub_refl _ _, sub_refl _ _, trivial⟩ | exact ⟨⟨rfl, sub_refl _ _, trivial⟩, sub_refl _ _, trivial⟩ | (simp [cargs, cargsG, St.ev, St.tmp, find, ren, idx?, sub_refl, sub, allP, resv, resC, bss, hsl, hg] <;> omega)) ?_; clear H; intro a w H; try replace H := nt_Texts H; first | (simp only [hsl, hg] at H; replace H := nt_Texts H) | skip
            refine wpT_nil ?_
            try dsimp only
            refine wpZ_run 5 (i := 2) (n' := 2) (pend' := [9, 10]) (by rfl) (by rfl) (by rfl) (by rfl) (by rfl) ?_
            repeat (refine v_someT 3 tab_ok hN H (by rfl) (by (try simp only [hsl, hg, hsl, hx, hsul]); first | done | exact ct_Texts) ?_; clear H; intro a w H; replace H := nt_Texts H; first | (simp only [hsl, hg] at H; replace H := nt_Texts H) | skip; simp only [List.drop_succ_cons, List.drop_zero, List.drop_nil])
            refine wpT_nil ?_
            try dsimp only
            refine wpZ_two (cs := []) (by rfl) (by rfl) ?_
            refine all1 ?_
            refine wpZ_pick (pend' := [10]) (by rfl) (by rfl) ?_
            repeat (refine v_someT 3 tab_ok hN H (by rfl) (by (try simp only [hsl, hg, hsl, hx, hsul]); first | done | exact ct_Texts) ?_; clear H; intro a w H; replace H := nt_Texts H; first | (simp only [hsl, hg] at H; replace H := nt_Texts H) | skip; simp only [List.drop_succ_cons, List.drop_zero, List.drop_nil])
            refine wpT_nil ?_
            try dsimp only
            refine wpZ_two (cs := []) (by rfl) (by rfl) ?_
            refine all1 ?_
            refine wpZ_pick (pend' := []) (by rfl) (by rfl) ?_
            repeat (refine v_someT 3 tab_ok hN H (by rfl) (by (try simp only [hsl, hg, hsl, hx, hsul]); first | done | exact ct_Texts) ?_; clear H; intro a w H; replace H := nt_Texts H; first | (simp only [hsl, hg] at H; replace H := nt_Texts H) | skip; simp only [List.drop_succ_cons, List.drop_zero, List.drop_nil])
            refine wpT_nil ?_
            try dsimp only
            refine wpZ_nil ?_
            replace H := RelT.toRel H
        all_goals
          first
          | exact key1 _ _ (H.to 2 2 ⟨Nat.le_trans hN (by decide), Nat.le_trans hR (by decide)⟩ ⟨rfl, rfl, rfl, rfl, rfl, rfl, rfl, rfl, trivial⟩ rfl rfl rfl rfl rfl)
          | exact key2 _ _ (H.to 2 2 ⟨Nat.le_trans hN (by decide), Nat.le_trans hR (by decide)⟩ ⟨rfl, rfl, rfl, rfl, rfl, rfl, rfl, rfl, trivial⟩ rfl rfl rfl rfl rfl)
      all_goals
        intro a w H
        repeat (first | refine wp_seq ?_ | refine wp_block ?_ | refine wp_skip ?_ | refine wp_exit ?_ | ((first | refine v_some 5 tab_ok hN H (by rfl) (by (try simp only [hsl, hbl, List.length_reverse, hsul, hx]); first | done | exact ct_Texts) ?_ | refine v_more tab_ok hN H (by rfl) (by rfl) (by (try simp only [hsl, hbl, List.length_reverse, hsul, hx]); first | done | exact ct_Texts) ?_); clear H; intro a w H; replace H := nf_Texts H; first | (simp only [hsl, hbl, List.length_reverse] at H; replace H := nf_Texts H) | skip; (try simp only [List.drop_succ_cons, List.drop_zero, List.drop_nil]); try refine wpList_nil ?_) | refine wp_region_lit ?_)
        refine v_call [] [] (hbit) H rfl rfl (by rfl) (by simp [pickB, bxs, ren, idx?, sub_refl, sub, allP, hsl, hbl, List.length_reverse] <;> omega) (by first | rfl | (simp [hsl, hbl, List.length_reverse] <;> omega)) (by first | exact trivial | exact ⟨sub_refl _ _, trivial⟩ | exact ⟨sub_refl _ _, sub_refl _ _, trivial⟩ | exact ⟨sub_refl _ _, sub_refl _ _, sub_refl _ _, trivial⟩ | exact ⟨⟨rfl, sub_refl _ _, trivial⟩, sub_refl _ _, trivial⟩ | (simp [cargs, cargsG, St.ev, St.tmp, find, ren, idx?, sub_refl, sub, allP, resv, resC, bss, hsl, hbl, List.length_reverse] <;> omega)) ?_; clear H; intro a w H; replace H := nf_Texts H; first | (simp only [hsl, hbl, List.length_reverse] at H; replace H := nf_Texts H) | skip; try refine wpList_nil ?_
        repeat (first | refine wp_seq ?_ | refine wp_block ?_ | refine wp_skip ?_ | refine wp_exit ?_ | ((first | refine v_some 5 tab_ok hN H (by rfl) (by (try simp only [hsl, hbl, List.length_reverse, hsul, hx]); first | done | exact ct_Texts) ?_ | refine v_more tab_ok hN H (by rfl) (by rfl) (by (try simp only [hsl, hbl, List.length_reverse, hsul, hx]); first | done | exact ct_Texts) ?_); clear H; intro a w H; replace H := nf_Texts H; first | (simp only [hsl, hbl, List.length_reverse] at H; replace H := nf_Texts H) | skip; (try simp only [List.drop_succ_cons, List.drop_zero, List.drop_nil]); try refine wpList_nil ?_) | refine wp_region_lit ?_)
        simp only [hpb] at H
        refine v_cond H (by rfl) (fun hb => ?_) (fun hb => ?_)
        · have hd : textD key j x t = 2 :: (x ++ sum t) := by unfold textD; rw [hb]; rfl
          rw [hd] at htx
          clear hb
          repeat (first | refine wp_seq ?_ | refine wp_block ?_ | refine wp_skip ?_ | refine wp_exit ?_ | ((first | refine v_some 5 tab_ok hN H (by rfl) (by (try simp only [hsl, hbl, List.length_reverse, hsul, hx]); first | done | exact ct_Texts) ?_ | refine v_more tab_ok hN H (by rfl) (by rfl) (by (try simp only [hsl, hbl, List.length_reverse, hsul, hx]); first | done | exact ct_Texts) ?_); clear H; intro a w H; replace H := nf_Texts H; first | (simp only [hsl, hbl, List.length_reverse] at H; replace H := nf_Texts H) | skip; (try simp only [List.drop_succ_cons, List.drop_zero, List.drop_nil]); try refine wpList_nil ?_) | refine wp_region_lit ?_)
          refine v_call [] [] (hit2) H rfl rfl (by rfl) (by simp [pickB, bxs, ren, idx?, sub_refl, sub, allP, hsl, hbl, List.length_reverse] <;> omega) (by first | rfl | (simp [hsl, hbl, List.length_reverse] <;> omega)) (by first | exact trivial | exact ⟨sub_refl _ _, trivial⟩ | exact ⟨sub_refl _ _, sub_refl _ _, trivial⟩ | exact ⟨sub_refl _ _, sub_refl _ _, sub_refl _ _, trivial⟩ | exact ⟨⟨rfl, sub_refl _ _, trivial⟩, sub_refl _ _, trivial⟩ | (simp [cargs, cargsG, St.ev, St.tmp, find, ren, idx?, sub_refl, sub, allP, resv, resC, bss, hsl, hbl, List.length_reverse] <;> omega)) ?_; clear H; intro a w H; replace H := nf_Texts H; first | (simp only [hsl, hbl, List.length_reverse] at H; replace H := nf_Texts H) | skip; try refine wpList_nil ?_
          generalize 2 :: (x ++ sum t) = t2 at *
          repeat (first | refine wp_seq ?_ | refine wp_block ?_ | refine wp_skip ?_ | refine wp_exit ?_ | ((first | refine v_some 5 tab_ok hN H (by rfl) (by (try simp only [hsl, hbl, List.length_reverse, hsul, hx]); first | done | exact ct_Texts) ?_ | refine v_more tab_ok hN H (by rfl) (by rfl) (by (try simp only [hsl, hbl, List.length_reverse, hsul, hx]); first | done | exact ct_Texts) ?_); clear H; intro a w H; replace H := nf_Texts H; first | (simp only [hsl, hbl, List.length_reverse] at H; replace H := nf_Texts H) | skip; (try simp only [List.drop_succ_cons, List.drop_zero, List.drop_nil]); try refine wpList_nil ?_) | refine wp_region_lit ?_)
          have H := v_sub H 8 (x := .bs t2 (some 2)) (y := .bs t2 none) (by simp only [sub]) rfl (fun _ e => by cases e) rfl
          simp only [nilT, reduceIte, Nat.reduceEqDiff] at H
          replace H := H.keep [2, 5, 6, 8, 10, 11] 0 2 ⟨Nat.le_trans hN (by show _ ≤ 0; decide), Nat.le_trans hR (by show _ ≤ 2; decide)⟩ (by rfl) (by rfl)
          replace H := nf_Texts H; first | (simp only [hsl, hbl, List.length_reverse] at H; replace H := nf_Texts H) | skip
          exact ⟨j, by omega, by omega, H.to 0 2 ⟨hN, Nat.le_trans hR (by decide)⟩ ⟨rfl, by rw [htx, List.reverse_cons, bss_snoc]; rfl, by rw [htx]; rfl, rfl, rfl, rfl, trivial⟩ rfl (by rw [htx, List.reverse_cons, List.length_append, List.length_reverse]; rfl) rfl rfl rfl⟩
        · have hd : textD key j x t = 2 :: (sum t ++ x) := by unfold textD; rw [hb]; rfl
          rw [hd] at htx
          clear hb
          repeat (first | refine wp_seq ?_ | refine wp_block ?_ | refine wp_skip ?_ | refine wp_exit ?_ | ((first | refine v_some 5 tab_ok hN H (by rfl) (by (try simp only [hsl, hbl, List.length_reverse, hsul, hx]); first | done | exact ct_Texts) ?_ | refine v_more tab_ok hN H (by rfl) (by rfl) (by (try simp only [hsl, hbl, List.length_reverse, hsul, hx]); first | done | exact ct_Texts) ?_); clear H; intro a w H; replace H := nf_Texts H; first | (simp only [hsl, hbl, List.length_reverse] at H; replace H := nf_Texts H) | skip; (try simp only [List.drop_succ_cons, List.drop_zero, List.drop_nil]); try refine wpList_nil ?_) | refine wp_region_lit ?_)
          refine v_call [] [] (hit1) H rfl rfl (by rfl) (by simp [pickB, bxs, ren, idx?, sub_refl, sub, allP, hsl, hbl, List.length_reverse] <;> omega) (by first | rfl | (simp [hsl, hbl, List.length_reverse] <;> omega)) (by first | exact trivial | exact ⟨sub_refl _ _, trivial⟩ | exact ⟨sub_refl _ _, sub_refl _ _, trivial⟩ | exact ⟨sub_refl _ _, sub_refl _ _, sub_refl _ _, trivial⟩ | exact ⟨⟨rfl, sub_refl _ _, trivial⟩, sub_refl _ _, trivial⟩ | (simp [cargs, cargsG, St.ev, St.tmp, find, ren, idx?, sub_refl, sub, allP, resv, resC, bss, hsl, hbl, List.length_reverse] <;> omega)) ?_; clear H; intro a w H; replace H := nf_Texts H; first | (simp only [hsl, hbl, List.length_reverse] at H; replace H := nf_Texts H) | skip; try refine wpList_nil ?_
          generalize 2 :: (sum t ++ x) = t2 at *
          repeat (first | refine wp_seq ?_ | refine wp_block ?_ | refine wp_skip ?_ | refine wp_exit ?_ | ((first | refine v_some 5 tab_ok hN H (by rfl) (by (try simp only [hsl, hbl, List.length_reverse, hsul, hx]); first | done | exact ct_Texts) ?_ | refine v_more tab_ok hN H (by rfl) (by rfl) (by (try simp only [hsl, hbl, List.length_reverse, hsul, hx]); first | done | exact ct_Texts) ?_); clear H; intro a w H; replace H := nf_Texts H; first | (simp only [hsl, hbl, List.length_reverse] at H; replace H := nf_Texts H) | skip; (try simp only [List.drop_succ_cons, List.drop_zero, List.drop_nil]); try refine wpList_nil ?_) | refine wp_region_lit ?_)
          have H := v_sub H 8 (x := .bs t2 (some 2)) (y := .bs t2 none) (by simp only [sub]) rfl (fun _ e => by cases e) rfl
          simp only [nilT, reduceIte, Nat.reduceEqDiff] at H
          replace H := H.keep [2, 5, 6, 8, 10, 11] 0 2 ⟨Nat.le_trans hN (by show _ ≤ 0; decide), Nat.le_trans hR (by show _ ≤ 2; decide)⟩ (by rfl) (by rfl)
          replace H := nf_Texts H; first | (simp only [hsl, hbl, List.length_reverse] at H; replace H := nf_Texts H) | skip
          exact ⟨j, by omega, by omega, H.to 0 2 ⟨hN, Nat.le_trans hR (by decide)⟩ ⟨rfl, by rw [htx, List.reverse_cons, bss_snoc]; rfl, by rw [htx]; rfl, rfl, rfl, rfl, trivial⟩ rfl (by rw [htx, List.reverse_cons, List.length_append, List.length_reverse]; rfl) rfl rfl rfl⟩
    · have hge : k = 0 := by rw [decide_eq_false_iff_not] at hb; omega
      subst hge
      clear hb
      rw [List.drop_zero] at H
      repeat (first | refine wp_seq ?_ | refine wp_block ?_ | refine wp_skip ?_ | refine wp_exit ?_ | ((first | refine v_some 5 tab_ok hN H (by rfl) ct_Texts ?_ | refine v_more tab_ok hN H (by rfl) (by rfl) ct_Texts ?_); clear H; intro a w H; replace H := nf_Texts H; (try simp only [List.drop_succ_cons, List.drop_zero, List.drop_nil]); try refine wpList_nil ?_) | refine wp_region_lit ?_)
      generalize tx key 0 s e = ls at *
      replace H := H.keep [5, 10, 57] 0 2 ⟨Nat.le_trans hN (by show _ ≤ 0; decide), Nat.le_trans hR (by show _ ≤ 2; decide)⟩ (by rfl) (by rfl)
      replace H := nf_Texts H
      refine v_rev (i := 1) (d := 57) (ls := ls.reverse) H rfl rfl hNb (Nat.le_trans hR (by decide)) (by rfl) (by rfl) (by rfl) (fun p hp => ?_) (by rfl) ?_
      · simp only [List.mem_cons, List.not_mem_nil, or_false] at hp
        rcases hp with rfl | rfl | rfl
        · first | exact .inl rfl | exact .inr rfl
        · first | exact .inl rfl | exact .inr rfl
        · first | exact .inl rfl | exact .inr rfl
      clear H; intro a w H
      simp only [List.map_cons, List.map_nil, turnS, turnA, List.reverse_reverse, reduceIte] at H
      replace H := nf_Texts H
      refine wpList_nil ?_
      repeat (first | refine wp_seq ?_ | refine wp_block ?_ | refine wp_skip ?_ | refine wp_exit ?_ | ((first | refine v_some 5 tab_ok hN H (by rfl) ct_Texts ?_ | refine v_more tab_ok hN H (by rfl) (by rfl) ct_Texts ?_); clear H; intro a w H; replace H := nf_Texts H; (try simp only [List.drop_succ_cons, List.drop_zero, List.drop_nil]); try refine wpList_nil ?_) | refine wp_region_lit ?_)
      refine wp_ret ?_
      exact v_end [] [] tab_ok ⟨hN, hR⟩ (rs := [.tmp 4, .tmp 5]) (ress := [_, _]) rfl H (by rfl) (by rfl) cb cw ca rfl
theorem texts_bad (key l : List UInt8) (hk32 : key.length = 32) (hl : l.length ≤ 34359730000) (h : ¬ pOk l) : VC Try.prog 8 [.ba key, .bs l none] [] (.tup [.sl .sc (bss (txs key l)) none, errv 10]) := by
  have hd := decodeP_v l hl
  rw [if_neg h] at hd
  rw [txs, if_neg h]
  have hw := pDec_wf l
  obtain ⟨g1, g2, g3, g4⟩ := id hw.e
  generalize pDec l = p at *
  refine v_enter Try.func8 rfl (by kernel_rfl) (by show 2 ≤ 60; decide) ?_
  intro N w0 a w hN hR H
  simp only [Pf.av, Nd.av] at hd
  repeat (first | refine wp_seq ?_ | refine wp_block ?_ | refine wp_skip ?_ | refine wp_exit ?_ | ((first | refine v_some 5 tab_ok hN H (by rfl) ct_Texts ?_ | refine v_more tab_ok hN H (by rfl) (by rfl) ct_Texts ?_); clear H; intro a w H; replace H := nf_Texts H; (try simp only [List.drop_succ_cons, List.drop_zero, List.drop_nil]); try refine wpList_nil ?_) | refine wp_region_lit ?_)
  refine v_call [] [] (hd) H rfl rfl (by rfl) cb cw ca ?_; clear H; intro a w H; replace H := nf_Texts H; try refine wpList_nil ?_
  repeat (first | refine wp_seq ?_ | refine wp_block ?_ | refine wp_skip ?_ | refine wp_exit ?_ | ((first | refine v_some 5 tab_ok hN H (by rfl) ct_Texts ?_ | refine v_more tab_ok hN H (by rfl) (by rfl) ct_Texts ?_); clear H; intro a w H; replace H := nf_Texts H; (try simp only [List.drop_succ_cons, List.drop_zero, List.drop_nil]); try refine wpList_nil ?_) | refine wp_region_lit ?_)
  refine v_cond H (by rfl) (fun hb => ?_) (fun hb => ?_)
  · repeat (first | refine wp_seq ?_ | refine wp_block ?_ | refine wp_skip ?_ | refine wp_exit ?_ | ((first | refine v_some 5 tab_ok hN H (by rfl) ct_Texts ?_ | refine v_more tab_ok hN H (by rfl) (by rfl) ct_Texts ?_); clear H; intro a w H; replace H := nf_Texts H; (try simp only [List.drop_succ_cons, List.drop_zero, List.drop_nil]); try refine wpList_nil ?_) | refine wp_region_lit ?_)
    refine wp_ret ?_
    exact v_end [] [] tab_ok ⟨hN, hR⟩ (rs := [.tmp 4, .tmp 5]) (ress := [_, _]) rfl H (by rfl) (by rfl) cb cw ca rfl
  · simp at hb
theorem texts_v (key l : List UInt8) (hk32 : key.length = 32) (hl : l.length ≤ 34359730000) : VC Try.prog 8 [.ba key, .bs l none] [] (.tup [.sl .sc (bss (txs key l)) none, errv (vErr l)]) := by
  by_cases h : pOk l
  · rw [vErr, if_pos h]; exact texts_ok key l hk32 hl h
  · rw [vErr, if_neg h]; exact texts_bad key l hk32 hl h
end Go.Proofs.Ytlagngkafllbiaa
/- The statement ExtractChain, in values. -/
namespace Go.Proofs.Ytlagngkafllbiaa
open Go Go.RowKit
/-- The state made plain. -/
theorem nf_Chain {P : Program} {w0 w : World} {N : Gh} {nt : Nat} {st s2 : St} {a : Act} (H : Rel P w0 N nt st a w) (h : st = s2 := by (try simp only [pk, elemB, St.put, St.ev, St.tmp, St.keep, find, dropT, slots, AV.put, AV.loc, fitI, convI, IntKind.signed, IntKind.bits, strip, St.lose, mergeL, setAll, nth, renB, ren, idx?, sub, allP, low, bnd, Int.reduceEq, Nat.reduceAdd, Nat.reduceLT, reduceIte, reduceCtorEq, Nat.reduceEqDiff, Nat.reduceLeDiff, Nat.reduceBEq, Int.reducePow, Int.reduceToNat, ti24_t, ti24_z, ti5_t, ti5_z, ti30_t, ti30_z, ti23_t, ti23_z, ti41_t, ti41_z, ti26_t, ti26_z]); rfl) : Rel P w0 N nt s2 a w := h ▸ H
theorem ct_Chain {c : Prop} (h : c := by ((try simp only [pk, elemB, St.put, St.ev, St.tmp, St.keep, find, dropT, slots, AV.put, AV.loc, fitI, convI, IntKind.signed, IntKind.bits, strip, St.lose, mergeL, setAll, nth, renB, ren, idx?, sub, allP, low, bnd, Int.reduceEq, Nat.reduceAdd, Nat.reduceLT, reduceIte, reduceCtorEq, Nat.reduceEqDiff, Nat.reduceLeDiff, Nat.reduceBEq, Int.reducePow, Int.reduceToNat, ti24_t, ti24_z, ti5_t, ti5_z, ti30_t, ti30_z, ti23_t, ti23_z, ti41_t, ti41_z, ti26_t, ti26_z, ti24, ti5, ti30, ti23, ti41, ti26, fit, gcond, ilo, ihi]); first | done | exact cd | exact cd2 | skip)) : c := h
theorem up_tx (key e : List UInt8) : ∀ d s, upL key d s (sum e) = sum ((tx key d s e).headD [])
  | _, [] => rfl
  | d, x :: r => by
    simp only [upL, tx, List.headD_cons]
    rw [up_tx key e (d + 1) r]
    unfold stepH textD innerH
    cases bitN key d <;> rfl
theorem tx_get (key e : List UInt8) : ∀ (k d : Nat) (s : List (List UInt8)), k ≤ s.length → (tx key d s e).getD k [] = (tx key (d + k) (s.drop k) e).headD []
  | 0, d, s, _ => by simp only [List.drop_zero, Nat.add_zero]; cases tx key d s e <;> rfl
  | k + 1, d, x :: r, h => by
    have := tx_get key e k (d + 1) r (by simpa using h)
    simp only [tx, List.getD_cons_succ, List.drop_succ_cons]
    rw [this, show d + 1 + k = d + (k + 1) by omega]
theorem few_v (l : List UInt8) : VC Try.prog 7 [.bs l none] [] (.v (.bool (decide (l.length ≤ 700)))) := by
  have e : decide (l.length ≤ 700) = decide ((l.length : Int) ≤ 700) := decide_eq_decide.2 ⟨fun h => by omega, fun h => by omega⟩
  rw [e]
  refine v_enter Try.func7 rfl (by kernel_rfl) (by show 1 ≤ 6; decide) ?_
  intro N w0 a w hN hR H
  repeat (first | refine wp_seq ?_ | refine wp_block ?_ | refine wp_skip ?_ | refine wp_exit ?_ | ((first | refine v_some 5 tab_ok hN H (by rfl) ct_Chain ?_ | refine v_more tab_ok hN H (by rfl) (by rfl) ct_Chain ?_); clear H; intro a w H; replace H := nf_Chain H; (try simp only [List.drop_succ_cons, List.drop_zero, List.drop_nil]); try refine wpList_nil ?_) | refine wp_region_lit ?_)
  refine wp_ret ?_
  exact v_end [] [] tab_ok ⟨hN, hR⟩ (rs := [.tmp 2]) (ress := [_]) rfl H (by rfl) (by rfl) cb cw ca rfl
end Go.Proofs.Ytlagngkafllbiaa
/- Claims that are accepted, and where two proofs part: extract. -/
namespace Go.Proofs.Ytlagngkafllbiaa
open Go Go.RowKit
/-- The state made plain. -/
theorem nf_Clash {P : Program} {w0 w : World} {N : Gh} {nt : Nat} {st s2 : St} {a : Act} (H : Rel P w0 N nt st a w) (h : st = s2 := by (try simp only [pk, elemB, St.put, St.ev, St.tmp, St.keep, find, dropT, slots, AV.put, AV.loc, fitI, convI, IntKind.signed, IntKind.bits, strip, St.lose, mergeL, setAll, nth, renB, ren, idx?, sub, allP, low, bnd, Int.reduceEq, Nat.reduceAdd, Nat.reduceLT, reduceIte, reduceCtorEq, Nat.reduceEqDiff, Nat.reduceLeDiff, Nat.reduceBEq, Int.reducePow, Int.reduceToNat, ti24_t, ti24_z, ti5_t, ti5_z, ti30_t, ti30_z, ti23_t, ti23_z, ti52_t, ti52_z, ti54_t, ti54_z, ti26_t, ti26_z]); rfl) : Rel P w0 N nt s2 a w := h ▸ H
theorem nt_Clash {P : Program} {w0 w : World} {N gS : Gh} {nt : Nat} {q q2 st s2 : St} {a : Act} (H : RelT P w0 N nt gS q st a w) (h1 : q = q2 := by (try simp only [pk, elemB, St.put, St.ev, St.tmp, St.keep, find, dropT, slots, AV.put, AV.loc, fitI, convI, IntKind.signed, IntKind.bits, strip, St.lose, mergeL, setAll, nth, renB, ren, idx?, sub, allP, low, bnd, Int.reduceEq, Nat.reduceAdd, Nat.reduceLT, reduceIte, reduceCtorEq, Nat.reduceEqDiff, Nat.reduceLeDiff, Nat.reduceBEq, Int.reducePow, Int.reduceToNat, ti24_t, ti24_z, ti5_t, ti5_z, ti30_t, ti30_z, ti23_t, ti23_z, ti52_t, ti52_z, ti54_t, ti54_z, ti26_t, ti26_z]); rfl) (h : st = s2 := by (try simp only [pk, elemB, St.put, St.ev, St.tmp, St.keep, find, dropT, slots, AV.put, AV.loc, fitI, convI, IntKind.signed, IntKind.bits, strip, St.lose, mergeL, setAll, nth, renB, ren, idx?, sub, allP, low, bnd, Int.reduceEq, Nat.reduceAdd, Nat.reduceLT, reduceIte, reduceCtorEq, Nat.reduceEqDiff, Nat.reduceLeDiff, Nat.reduceBEq, Int.reducePow, Int.reduceToNat, ti24_t, ti24_z, ti5_t, ti5_z, ti30_t, ti30_z, ti23_t, ti23_z, ti52_t, ti52_z, ti54_t, ti54_z, ti26_t, ti26_z]); rfl) : RelT P w0 N nt gS q2 s2 a w := h1 ▸ h ▸ H
theorem ct_Clash {c : Prop} (h : c := by ((try simp only [pk, elemB, St.put, St.ev, St.tmp, St.keep, find, dropT, slots, AV.put, AV.loc, fitI, convI, IntKind.signed, IntKind.bits, strip, St.lose, mergeL, setAll, nth, renB, ren, idx?, sub, allP, low, bnd, Int.reduceEq, Nat.reduceAdd, Nat.reduceLT, reduceIte, reduceCtorEq, Nat.reduceEqDiff, Nat.reduceLeDiff, Nat.reduceBEq, Int.reducePow, Int.reduceToNat, ti24_t, ti24_z, ti5_t, ti5_z, ti30_t, ti30_z, ti23_t, ti23_z, ti52_t, ti52_z, ti54_t, ti54_z, ti26_t, ti26_z, ti24, ti5, ti30, ti23, ti52, ti54, ti26, fit, gcond, ilo, ihi]); first | done | exact cd | exact cd2 | skip)) : c := h
/-- A claim. -/
structure Cl where
  t : Bool
  v : List UInt8
  b : List UInt8
def Cl.av (c : Cl) : AV := .st [.v (.bool c.t), .bs c.v none, .bs c.b none]
def vAcc (root key : List UInt8) (c : Cl) : Bool := if c.t then vPres root key c.v c.b else vAbs root key c.b
theorem accepted_v (root key : List UInt8) (c : Cl) (hr : root.length = 32) (hk : key.length = 32) (hv : c.v.length ≤ 34359730000) (hb : c.b.length ≤ 34359730000) : VC Try.prog 42 [.ba root, .ba key, c.av] [] (.v (.bool (vAcc root key c))) := by
  have h1 := vPres_v root key c.v c.b hr hk hv hb
  have h2 := vAbs_v root key c.b hr hk hb
  unfold vAcc
  obtain ⟨t, v, b⟩ := c
  dsimp only at *
  refine v_enter Try.func42 rfl (by kernel_rfl) (by show 3 ≤ 21; decide) ?_
  intro N w0 a w hN hR H
  simp only [Cl.av] at H
  repeat (first | refine wp_seq ?_ | refine wp_block ?_ | refine wp_skip ?_ | refine wp_exit ?_ | ((first | refine v_some 5 tab_ok hN H (by rfl) ct_Clash ?_ | refine v_more tab_ok hN H (by rfl) (by rfl) ct_Clash ?_); clear H; intro a w H; replace H := nf_Clash H; (try simp only [List.drop_succ_cons, List.drop_zero, List.drop_nil]); try refine wpList_nil ?_) | refine wp_region_lit ?_)
  cases t
  · refine v_cond H (by rfl) (fun hb => ?_) (fun hb => ?_)
    · simp at hb
    · repeat (first | refine wp_seq ?_ | refine wp_block ?_ | refine wp_skip ?_ | refine wp_exit ?_ | ((first | refine v_some 5 tab_ok hN H (by rfl) ct_Clash ?_ | refine v_more tab_ok hN H (by rfl) (by rfl) ct_Clash ?_); clear H; intro a w H; replace H := nf_Clash H; (try simp only [List.drop_succ_cons, List.drop_zero, List.drop_nil]); try refine wpList_nil ?_) | refine wp_region_lit ?_)
      refine v_call [] [] (h2) H rfl rfl (by rfl) cb cw ca ?_; clear H; intro a w H; replace H := nf_Clash H; try refine wpList_nil ?_
      repeat (first | refine wp_seq ?_ | refine wp_block ?_ | refine wp_skip ?_ | refine wp_exit ?_ | ((first | refine v_some 5 tab_ok hN H (by rfl) ct_Clash ?_ | refine v_more tab_ok hN H (by rfl) (by rfl) ct_Clash ?_); clear H; intro a w H; replace H := nf_Clash H; (try simp only [List.drop_succ_cons, List.drop_zero, List.drop_nil]); try refine wpList_nil ?_) | refine wp_region_lit ?_)
      refine wp_ret ?_
      exact v_end [] [] tab_ok ⟨hN, hR⟩ (rs := [.tmp 6]) (ress := [_]) rfl H (by rfl) (by rfl) cb cw ca rfl
  · refine v_cond H (by rfl) (fun hb => ?_) (fun hb => ?_)
    · repeat (first | refine wp_seq ?_ | refine wp_block ?_ | refine wp_skip ?_ | refine wp_exit ?_ | ((first | refine v_some 5 tab_ok hN H (by rfl) ct_Clash ?_ | refine v_more tab_ok hN H (by rfl) (by rfl) ct_Clash ?_); clear H; intro a w H; replace H := nf_Clash H; (try simp only [List.drop_succ_cons, List.drop_zero, List.drop_nil]); try refine wpList_nil ?_) | refine wp_region_lit ?_)
      refine v_call [] [] (h1) H rfl rfl (by rfl) cb cw ca ?_; clear H; intro a w H; replace H := nf_Clash H; try refine wpList_nil ?_
      repeat (first | refine wp_seq ?_ | refine wp_block ?_ | refine wp_skip ?_ | refine wp_exit ?_ | ((first | refine v_some 5 tab_ok hN H (by rfl) ct_Clash ?_ | refine v_more tab_ok hN H (by rfl) (by rfl) ct_Clash ?_); clear H; intro a w H; replace H := nf_Clash H; (try simp only [List.drop_succ_cons, List.drop_zero, List.drop_nil]); try refine wpList_nil ?_) | refine wp_region_lit ?_)
      refine wp_ret ?_
      exact v_end [] [] tab_ok ⟨hN, hR⟩ (rs := [.tmp 6]) (ress := [_]) rfl H (by rfl) (by rfl) cb cw ca rfl
    · simp at hb
theorem acceptedR_v (root key : List UInt8) (c : Cl) (hr : root.length = 32) (hk : key.length = 32) (hv : c.v.length ≤ 34359730000) (hb : c.b.length ≤ 34359730000) : VC Try.prog 46 [.ba root, .ba key, c.av] [] (.v (.bool (vAcc root key c))) := by
  have h1 := vPresR_v root key c.v c.b hr hk hv hb
  have h2 := vAbsR_v root key c.b hr hk hb
  unfold vAcc
  obtain ⟨t, v, b⟩ := c
  dsimp only at *
  refine v_enter Try.func46 rfl (by kernel_rfl) (by show 3 ≤ 21; decide) ?_
  intro N w0 a w hN hR H
  simp only [Cl.av] at H
  repeat (first | refine wp_seq ?_ | refine wp_block ?_ | refine wp_skip ?_ | refine wp_exit ?_ | ((first | refine v_some 5 tab_ok hN H (by rfl) ct_Clash ?_ | refine v_more tab_ok hN H (by rfl) (by rfl) ct_Clash ?_); clear H; intro a w H; replace H := nf_Clash H; (try simp only [List.drop_succ_cons, List.drop_zero, List.drop_nil]); try refine wpList_nil ?_) | refine wp_region_lit ?_)
  cases t
  · refine v_cond H (by rfl) (fun hb => ?_) (fun hb => ?_)
    · simp at hb
    · repeat (first | refine wp_seq ?_ | refine wp_block ?_ | refine wp_skip ?_ | refine wp_exit ?_ | ((first | refine v_some 5 tab_ok hN H (by rfl) ct_Clash ?_ | refine v_more tab_ok hN H (by rfl) (by rfl) ct_Clash ?_); clear H; intro a w H; replace H := nf_Clash H; (try simp only [List.drop_succ_cons, List.drop_zero, List.drop_nil]); try refine wpList_nil ?_) | refine wp_region_lit ?_)
      refine v_call [] [] (h2) H rfl rfl (by rfl) cb cw ca ?_; clear H; intro a w H; replace H := nf_Clash H; try refine wpList_nil ?_
      repeat (first | refine wp_seq ?_ | refine wp_block ?_ | refine wp_skip ?_ | refine wp_exit ?_ | ((first | refine v_some 5 tab_ok hN H (by rfl) ct_Clash ?_ | refine v_more tab_ok hN H (by rfl) (by rfl) ct_Clash ?_); clear H; intro a w H; replace H := nf_Clash H; (try simp only [List.drop_succ_cons, List.drop_zero, List.drop_nil]); try refine wpList_nil ?_) | refine wp_region_lit ?_)
      refine wp_ret ?_
      exact v_end [] [] tab_ok ⟨hN, hR⟩ (rs := [.tmp 6]) (ress := [_]) rfl H (by rfl) (by rfl) cb cw ca rfl
  · refine v_cond H (by rfl) (fun hb => ?_) (fun hb => ?_)
    · repeat (first | refine wp_seq ?_ | refine wp_block ?_ | refine wp_skip ?_ | refine wp_exit ?_ | ((first | refine v_some 5 tab_ok hN H (by rfl) ct_Clash ?_ | refine v_more tab_ok hN H (by rfl) (by rfl) ct_Clash ?_); clear H; intro a w H; replace H := nf_Clash H; (try simp only [List.drop_succ_cons, List.drop_zero, List.drop_nil]); try refine wpList_nil ?_) | refine wp_region_lit ?_)
      refine v_call [] [] (h1) H rfl rfl (by rfl) cb cw ca ?_; clear H; intro a w H; replace H := nf_Clash H; try refine wpList_nil ?_
      repeat (first | refine wp_seq ?_ | refine wp_block ?_ | refine wp_skip ?_ | refine wp_exit ?_ | ((first | refine v_some 5 tab_ok hN H (by rfl) ct_Clash ?_ | refine v_more tab_ok hN H (by rfl) (by rfl) ct_Clash ?_); clear H; intro a w H; replace H := nf_Clash H; (try simp only [List.drop_succ_cons, List.drop_zero, List.drop_nil]); try refine wpList_nil ?_) | refine wp_region_lit ?_)
      refine wp_ret ?_
      exact v_end [] [] tab_ok ⟨hN, hR⟩ (rs := [.tmp 6]) (ress := [_]) rfl H (by rfl) (by rfl) cb cw ca rfl
    · simp at hb
theorem valueText_v (v : List UInt8) (hv : v.length ≤ 34359730000) : VC Try.prog 44 [.bs v none] [(5, (3 :: v).length)] (.bs (3 :: v) (some 0)) := by
  have h := text_v 3 [v] (by simp; omega) (by simp)
  have e : [v].flatten = v := by simp
  rw [e] at h
  generalize 3 :: v = x at *
  refine v_enter Try.func44 rfl (by kernel_rfl) (by show 1 ≤ 6; decide) ?_
  intro N w0 a w hN hR H
  repeat (first | refine wp_seq ?_ | refine wp_block ?_ | refine wp_skip ?_ | refine wp_exit ?_ | ((first | refine v_some 5 tab_ok hN H (by rfl) ct_Clash ?_ | refine v_more tab_ok hN H (by rfl) (by rfl) ct_Clash ?_); clear H; intro a w H; replace H := nf_Clash H; (try simp only [List.drop_succ_cons, List.drop_zero, List.drop_nil]); try refine wpList_nil ?_) | refine wp_region_lit ?_)
  refine v_call [] [] (h) H rfl rfl (by rfl) cb cw ca ?_; clear H; intro a w H; replace H := nf_Clash H; try refine wpList_nil ?_
  repeat (first | refine wp_seq ?_ | refine wp_block ?_ | refine wp_skip ?_ | refine wp_exit ?_ | ((first | refine v_some 5 tab_ok hN H (by rfl) ct_Clash ?_ | refine v_more tab_ok hN H (by rfl) (by rfl) ct_Clash ?_); clear H; intro a w H; replace H := nf_Clash H; (try simp only [List.drop_succ_cons, List.drop_zero, List.drop_nil]); try refine wpList_nil ?_) | refine wp_region_lit ?_)
  refine wp_ret ?_
  exact v_end [] [1] tab_ok ⟨hN, hR⟩ (rs := [.tmp 2]) (ress := [_]) rfl H (by rfl) (by rfl) cb cw ca rfl
/-- Where two lists of texts part. -/
def prt : List (List UInt8) → List (List UInt8) → Nat → List UInt8 × List UInt8 × Int
  | x :: a, y :: b, d => if x = y then prt a b (d + 1) else (x, y, (d : Int))
  | _, _, _ => ([], [], -1)
theorem prt_step (a b : List (List UInt8)) (k : Nat) (ha : k < a.length) (hb : k < b.length) : prt (a.drop k) (b.drop k) k = if a.getD k [] = b.getD k [] then prt (a.drop (k + 1)) (b.drop (k + 1)) (k + 1) else (a.getD k [], b.getD k [], (k : Int)) := by
  rw [List.drop_eq_getElem_cons ha, List.drop_eq_getElem_cons hb, List.getElem_eq_getD [], List.getElem_eq_getD []]; rfl
theorem prt_end (a b : List (List UInt8)) (k : Nat) (h : a.length ≤ k ∨ b.length ≤ k) : prt (a.drop k) (b.drop k) k = ([], [], -1) := by
  rcases h with h | h
  · rw [List.drop_of_length_le h]; rfl
  · rw [List.drop_of_length_le h]; cases a.drop k <;> rfl
set_option maxRecDepth 20000 in
set_option maxHeartbeats 2000000 in
theorem part_ok (key p q : List UInt8) (hk : key.length = 32) (hp : p.length ≤ 34359730000) (hq : q.length ≤ 34359730000) (h1 : pOk p) (h2 : pOk q) (hl1 : (txs key p).length ≤ 300) (hl2 : (txs key q).length ≤ 300) :
    VC Try.prog 45 [.ba key, .bs p none, .bs q none] [] (.tup [.st [.bs (prt (txs key p) (txs key q) 0).1 none, .bs (prt (txs key p) (txs key q) 0).2.1 none], .v (.int .i64 (prt (txs key p) (txs key q) 0).2.2), errv 0]) := by
  have t1 := texts_v key p hk hp
  have t2 := texts_v key q hk hq
  rw [vErr, if_pos h1] at t1
  rw [vErr, if_pos h2] at t2
  generalize txs key p = la at *
  generalize txs key q = lb at *
  have hal : (bss la).length = la.length := by simp [bss]
  have hbl : (bss lb).length = lb.length := by simp [bss]
  refine v_enter Try.func45 rfl (by kernel_rfl) (by show 3 ≤ 63; decide) ?_
  intro N w0 a w hN hR H
  repeat (first | refine wp_seq ?_ | refine wp_block ?_ | refine wp_skip ?_ | refine wp_exit ?_ | ((first | refine v_some 5 tab_ok hN H (by rfl) ct_Clash ?_ | refine v_more tab_ok hN H (by rfl) (by rfl) ct_Clash ?_); clear H; intro a w H; replace H := nf_Clash H; (try simp only [List.drop_succ_cons, List.drop_zero, List.drop_nil]); try refine wpList_nil ?_) | refine wp_region_lit ?_)
  refine v_call [] [] (t1) H rfl rfl (by rfl) cb cw ca ?_; clear H; intro a w H; replace H := nf_Clash H; try refine wpList_nil ?_
  repeat (first | refine wp_seq ?_ | refine wp_block ?_ | refine wp_skip ?_ | refine wp_exit ?_ | ((first | refine v_some 5 tab_ok hN H (by rfl) ct_Clash ?_ | refine v_more tab_ok hN H (by rfl) (by rfl) ct_Clash ?_); clear H; intro a w H; replace H := nf_Clash H; (try simp only [List.drop_succ_cons, List.drop_zero, List.drop_nil]); try refine wpList_nil ?_) | refine wp_region_lit ?_)
  refine v_cond H (by rfl) (fun hb => ?_) (fun hb => ?_)
  · simp at hb
  · clear hb
    repeat (first | refine wp_seq ?_ | refine wp_block ?_ | refine wp_skip ?_ | refine wp_exit ?_ | ((first | refine v_some 5 tab_ok hN H (by rfl) ct_Clash ?_ | refine v_more tab_ok hN H (by rfl) (by rfl) ct_Clash ?_); clear H; intro a w H; replace H := nf_Clash H; (try simp only [List.drop_succ_cons, List.drop_zero, List.drop_nil]); try refine wpList_nil ?_) | refine wp_region_lit ?_)
    refine v_call [] [] (t2) H rfl rfl (by rfl) cb cw ca ?_; clear H; intro a w H; replace H := nf_Clash H; try refine wpList_nil ?_
    repeat (first | refine wp_seq ?_ | refine wp_block ?_ | refine wp_skip ?_ | refine wp_exit ?_ | ((first | refine v_some 5 tab_ok hN H (by rfl) ct_Clash ?_ | refine v_more tab_ok hN H (by rfl) (by rfl) ct_Clash ?_); clear H; intro a w H; replace H := nf_Clash H; (try simp only [List.drop_succ_cons, List.drop_zero, List.drop_nil]); try refine wpList_nil ?_) | refine wp_region_lit ?_)
    refine v_cond H (by rfl) (fun hb => ?_) (fun hb => ?_)
    · simp at hb
    · clear hb
      repeat (first | refine wp_seq ?_ | refine wp_block ?_ | refine wp_skip ?_ | refine wp_exit ?_ | ((first | refine v_some 5 tab_ok hN H (by rfl) (by (try simp only [hal, hbl]); first | done | exact ct_Clash) ?_ | refine v_more tab_ok hN H (by rfl) (by rfl) (by (try simp only [hal, hbl]); first | done | exact ct_Clash) ?_); clear H; intro a w H; replace H := nf_Clash H; first | (simp only [hal, hbl] at H; replace H := nf_Clash H) | skip; (try simp only [List.drop_succ_cons, List.drop_zero, List.drop_nil]); try refine wpList_nil ?_) | refine wp_region_lit ?_)
      have em : (if ((lb.length : Nat) : Int) < ((la.length : Nat) : Int) then ((lb.length : Nat) : Int) else ((la.length : Nat) : Int)) = ((min la.length lb.length : Nat) : Int) := by
        split <;> omega
      try rw [em] at H
      obtain ⟨m, hm⟩ : ∃ m, m = min la.length lb.length := ⟨_, rfl⟩
      rw [← hm] at H
      clear em
      refine v_loop (fun k : Nat => ⟨[(38, none, .v (.int .i64 (k : Int))), (37, none, .v (.int .i64 (m : Int))), (11, none, .sl .sc (bss lb) none), (9, none, .sl .sc (bss la) none), (8, none, .v (.int .i64 0)), (7, none, .v (.int .i64 0)), (6, none, .ptr 1 [])], [(.ba 32, .ba key), (ti54.ty, .st [.v (.slice none 0 0), .v (.slice none 0 0)])], [], []⟩)
        (fun k => k ≤ m ∧ prt la lb 0 = prt (la.drop k) (lb.drop k) k) (fun k => m - k) 0 ⟨Nat.zero_le _, rfl⟩ (H.to 2 0 ⟨Nat.le_trans hN (by decide), hR⟩ ⟨rfl, rfl, rfl, rfl, rfl, rfl, rfl, trivial⟩ rfl rfl rfl rfl rfl) ?_
      clear H
      rintro k a w ⟨hk2, hpr⟩ H
      repeat (first | refine wp_seq ?_ | refine wp_block ?_ | refine wp_skip ?_ | refine wp_exit ?_ | ((first | refine v_some 5 tab_ok hN H (by rfl) (by (try simp only [hal, hbl]); first | done | exact ct_Clash) ?_ | refine v_more tab_ok hN H (by rfl) (by rfl) (by (try simp only [hal, hbl]); first | done | exact ct_Clash) ?_); clear H; intro a w H; replace H := nf_Clash H; first | (simp only [hal, hbl] at H; replace H := nf_Clash H) | skip; (try simp only [List.drop_succ_cons, List.drop_zero, List.drop_nil]); try refine wpList_nil ?_) | refine wp_region_lit ?_)
      refine v_cond H (by rfl) (fun hb => ?_) (fun hb => ?_)
      · have hlt : k < m := by rw [decide_eq_true_eq] at hb; omega
        clear hb
        have ga : (bss la).getD k .any = .bs (la.getD k []) none := by rw [← List.getElem_eq_getD (h := show k < la.length by omega) []]; exact bss_get la k (by omega)
        have gb : (bss lb).getD k .any = .bs (lb.getD k []) none := by rw [← List.getElem_eq_getD (h := show k < lb.length by omega) []]; exact bss_get lb k (by omega)
        have hst := prt_step la lb k (by omega) (by omega)
        have hcmp := compare_v (la.getD k []) (lb.getD k [])
        have hcz := cmp_zero (la.getD k []) (lb.getD k [])
        generalize la.getD k [] = x at *
        generalize lb.getD k [] = y at *
        repeat (first | refine wp_seq ?_ | refine wp_block ?_ | refine wp_skip ?_ | refine wp_exit ?_ | ((first | refine v_some 5 tab_ok hN H (by rfl) (by (try simp only [hal, hbl]); first | done | exact ct_Clash) ?_ | refine v_more tab_ok hN H (by rfl) (by rfl) (by (try simp only [hal, hbl]); first | done | exact ct_Clash) ?_); clear H; intro a w H; replace H := nf_Clash H; first | (simp only [hal, hbl] at H; replace H := nf_Clash H) | skip; (try simp only [List.drop_succ_cons, List.drop_zero, List.drop_nil]); try refine wpList_nil ?_) | refine wp_region_lit ?_)
        repeat (first | refine wp_seq ?_ | refine wp_block ?_)
        refine v_draw 2 [8] [] (by kernel_rfl) (by kernel_rfl) H (by rfl) (fun gS H => ?_); try replace H := nt_Clash H; first | (simp only [hal, hbl, ga, gb] at H; replace H := nt_Clash H) | skip
        refine v_someT 3 tab_ok hN H (by rfl) (by (try simp only [hal, hbl, ga, gb, hal, hbl]); first | done | exact ct_Clash) ?_; clear H; intro a w H; replace H := nt_Clash H; first | (simp only [hal, hbl, ga, gb] at H; replace H := nt_Clash H) | skip; simp only [List.drop_succ_cons, List.drop_zero, List.drop_nil]
        refine v_someT 4 tab_ok hN H (by rfl) (by (try simp only [hal, hbl, ga, gb, hal, hbl]); first | done | exact ct_Clash) ?_; clear H; intro a w H; replace H := nt_Clash H; first | (simp only [hal, hbl, ga, gb] at H; replace H := nt_Clash H) | skip; simp only [List.drop_succ_cons, List.drop_zero, List.drop_nil]
        refine v_someT 1 tab_ok hN H (by rfl) (by (try simp only [hal, hbl, ga, gb, hal, hbl]); first | done | exact ct_Clash) ?_; clear H; intro a w H; replace H := nt_Clash H; first | (simp only [hal, hbl, ga, gb] at H; replace H := nt_Clash H) | skip; simp only [List.drop_succ_cons, List.drop_zero, List.drop_nil]
        refine v_callT [] [] (hcmp) H (by rfl) (by rfl) rfl rfl (by rfl) (by simp [pickB, bxs, ren, idx?, sub_refl, sub, allP, hal, hbl, ga, gb] <;> omega) (by first | rfl | (simp [hal, hbl, ga, gb] <;> omega)) (by first | exact trivial | exact ⟨sub_refl _ _, trivial⟩ | exact ⟨sub_refl _ _, sub_refl _ _, trivial⟩ | exact ⟨sub_refl _ _, sub_refl _ _, sub_refl _ _, trivial⟩ | exact ⟨⟨rfl, sub_refl _ _, trivial⟩, sub_refl _ _, trivial⟩ | (simp [cargs, cargsG, St.ev, St.tmp, find, ren, idx?, sub_refl, sub, allP, resv, resC, bss, hal, hbl, ga, gb] <;> omega)) ?_; clear H; intro a w H; try replace H := nt_Clash H; first | (simp only [hal, hbl, ga, gb] at H; replace H := nt_Clash H) | skip
        repeat (refine v_someT 5 tab_ok hN H (by rfl) (by (try simp only [hal, hbl, ga, gb, hal, hbl]); first | done | exact ct_Clash) ?_; clear H; intro a w H; replace H := nt_Clash H; first | (simp only [hal, hbl, ga, gb] at H; replace H := nt_Clash H) | skip; simp only [List.drop_succ_cons, List.drop_zero, List.drop_nil])
        refine v_moreT tab_ok hN H (by rfl) (by (try simp only [hal, hbl, ga, gb, hal, hbl]); first | done | exact ct_Clash) ?_; clear H; intro a w H; try replace H := nt_Clash H; first | (simp only [hal, hbl, ga, gb] at H; replace H := nt_Clash H) | skip
        refine v_drawNil H (fun H => ?_)
        by_cases hxy : x = y
        · rw [if_pos hxy] at hst
          refine v_cond H (by rfl) (fun hb => ?_) (fun hb => ?_)
          · exfalso; rw [hcz.2 hxy] at hb; simp at hb
          · clear hb
            repeat (first | refine wp_seq ?_ | refine wp_block ?_ | refine wp_skip ?_ | refine wp_exit ?_ | ((first | refine v_some 5 tab_ok hN H (by rfl) (by (try simp only [hal, hbl]); first | done | exact ct_Clash) ?_ | refine v_more tab_ok hN H (by rfl) (by rfl) (by (try simp only [hal, hbl]); first | done | exact ct_Clash) ?_); clear H; intro a w H; replace H := nf_Clash H; first | (simp only [hal, hbl] at H; replace H := nf_Clash H) | skip; (try simp only [List.drop_succ_cons, List.drop_zero, List.drop_nil]); try refine wpList_nil ?_) | refine wp_region_lit ?_)
            exact ⟨k + 1, ⟨hlt, by rw [hpr, hst]⟩, by omega, H.to 2 0 ⟨Nat.le_trans hN (by decide), hR⟩ ⟨rfl, rfl, rfl, rfl, rfl, rfl, rfl, trivial⟩ rfl rfl rfl rfl rfl⟩
        · rw [if_neg hxy] at hst
          rw [hpr, hst]
          dsimp only
          refine v_cond H (by rfl) (fun hb => ?_) (fun hb => ?_)
          · clear hb
            repeat (first | refine wp_seq ?_ | refine wp_block ?_ | refine wp_skip ?_ | refine wp_exit ?_ | ((first | refine v_some 5 tab_ok hN H (by rfl) (by (try simp only [hal, hbl]); first | done | exact ct_Clash) ?_ | refine v_more tab_ok hN H (by rfl) (by rfl) (by (try simp only [hal, hbl]); first | done | exact ct_Clash) ?_); clear H; intro a w H; replace H := nf_Clash H; first | (simp only [hal, hbl] at H; replace H := nf_Clash H) | skip; (try simp only [List.drop_succ_cons, List.drop_zero, List.drop_nil]); try refine wpList_nil ?_) | refine wp_region_lit ?_)
            repeat (first | refine wp_seq ?_ | refine wp_block ?_)
            refine v_draw 0 [10] [9] (by kernel_rfl) (by kernel_rfl) H (by rfl) (fun gS H => ?_); try replace H := nt_Clash H; first | (simp only [hal, hbl, ga, gb] at H; replace H := nt_Clash H) | skip
            refine v_someT 3 tab_ok hN H (by rfl) (by (try simp only [hal, hbl, ga, gb, hal, hbl]); first | done | exact ct_Clash) ?_; clear H; intro a w H; replace H := nt_Clash H; first | (simp only [hal, hbl, ga, gb] at H; replace H := nt_Clash H) | skip; simp only [List.drop_succ_cons, List.drop_zero, List.drop_nil]
            refine v_someT 4 tab_ok hN H (by rfl) (by (try simp only [hal, hbl, ga, gb, hal, hbl]); first | done | exact ct_Clash) ?_; clear H; intro a w H; replace H := nt_Clash H; first | (simp only [hal, hbl, ga, gb] at H; replace H := nt_Clash H) | skip; simp only [List.drop_succ_cons, List.drop_zero, List.drop_nil]
            repeat (refine v_someT 5 tab_ok hN H (by rfl) (by (try simp only [hal, hbl, ga, gb, hal, hbl]); first | done | exact ct_Clash) ?_; clear H; intro a w H; replace H := nt_Clash H; first | (simp only [hal, hbl, ga, gb] at H; replace H := nt_Clash H) | skip; simp only [List.drop_succ_cons, List.drop_zero, List.drop_nil])
            refine v_moreT tab_ok hN H (by rfl) (by (try simp only [hal, hbl, ga, gb, hal, hbl]); first | done | exact ct_Clash) ?_; clear H; intro a w H; try replace H := nt_Clash H; first | (simp only [hal, hbl, ga, gb] at H; replace H := nt_Clash H) | skip
            refine v_drawNil H (fun H => ?_)
            refine wp_ret ?_
            exact v_end [] [] tab_ok ⟨hN, hR⟩ (rs := [.cell 6 54, .tmp 7, .tmp 8]) (ress := [_, _, _]) rfl H (by rfl) (by rfl) cb cw ca rfl
          · exfalso; apply hxy; apply hcz.1; simpa using hb
      · have hge : k = m := by rw [decide_eq_false_iff_not] at hb; omega
        have he := prt_end la lb k (by omega)
        rw [hpr, he]
        clear hb
        dsimp only
        repeat (first | refine wp_seq ?_ | refine wp_block ?_ | refine wp_skip ?_ | refine wp_exit ?_ | ((first | refine v_some 5 tab_ok hN H (by rfl) ct_Clash ?_ | refine v_more tab_ok hN H (by rfl) (by rfl) ct_Clash ?_); clear H; intro a w H; replace H := nf_Clash H; (try simp only [List.drop_succ_cons, List.drop_zero, List.drop_nil]); try refine wpList_nil ?_) | refine wp_region_lit ?_)
        refine wp_ret ?_
        exact v_end [] [] tab_ok ⟨hN, hR⟩ (rs := [.cell 6 54, .tmp 7, .tmp 8]) (ress := [_, _, _]) rfl H (by rfl) (by rfl) cb cw (by exact ⟨⟨rfl, rfl, trivial⟩, sub_refl _ _, sub_refl _ _, trivial⟩) rfl
end Go.Proofs.Ytlagngkafllbiaa
