/- Operations that make or write memory: append, copy, make. -/
import Derived.Test.YtpeefeioccglcaaEff3
set_option linter.unusedSimpArgs false
set_option linter.unusedVariables false
namespace Go.Proofs.Ytpeefeioccglcaa
open Go Go.RowKit
def srcB : AV → Option (List UInt8)
  | .bs l _ => some l
  | .bc l n _ => some (l.take n)
  | .v (.slice none 0 0) => some []
  | _ => none
def srcE (T : Ty) : AV → Option (List AV)
  | .sl T' es _ => if T' = T then some es else none
  | .v (.slice none 0 0) => some []
  | _ => none
def appE (τ : Tab) (st : St) (t : Nat) (x y : AV) : ER :=
  match Tab.get t τ with
  | none => none
  | some i =>
    match i.d with
    | .slc e => (match Tab.get e τ with
      | none => none
      | some j => if 0 < j.ty.size ∧ j.bytes ≤ 4096 then (if isByte τ e then
          (match srcB y with
          | none => none
          | some l' => (match x with
            | .v (.slice none 0 0) => some ({ st with rw := st.rw ++ [(e, l'.length)] }, .bs l' (some st.rw.length), l'.length ≤ 34359738368)
            | .bs l (some r) => (match st.rw[r]? with
              | some (e', n) => if e' = e then some ({ st with rw := st.rw.set r (e, l.length + l'.length) }, .bs (l ++ l') (some r), n = l.length ∧ l.length + l'.length ≤ 34359738368) else none
              | none => none)
            | _ => none))
        else
          (match srcE j.ty y with
          | none => none
          | some l' => (match x with
            | .v (.slice none 0 0) => some ({ st with rw := st.rw ++ [(e, l'.length)] }, .sl j.ty l' (some st.rw.length), l'.length ≤ 34359738368)
            | .sl T l (some r) => if T = j.ty then (match st.rw[r]? with
              | some (e', n) => if e' = e then some ({ st with rw := st.rw.set r (e, l.length + l'.length) }, .sl j.ty (l ++ l') (some r), n = l.length ∧ l.length + l'.length ≤ 34359738368) else none
              | none => none) else none
            | _ => none))) else none)
    | _ => none
section
variable {P : Program} {τ : Tab} {w0 w : World} {N : Gh} {g : Gh} {st st' : St} {r : AV} {cd : Prop}
/-- A row of n elements grows by m: memory, and the run. -/
theorem app_core (hτ : τ.ok P) {bx : List (Ty × AV)} {fz : List Nat} {rws : List (TypeId × Nat)} (H : Inv P w0 N g bx fz rws w) {t e : Nat} (ht : P.underlying t = some (.slice e)) {j : TI} (hj : j.ok P e) {q : Nat} {n : Nat} {rr : Rw} (hrr : g.rw[q]? = some rr) (hq : rws[q]? = some (e, n)) (ty : TypeId)
    {m : Nat} {ys : List Value} (hl : ys.length = m * j.ty.size) (h1 : ∀ u ∈ ys, u.oneCell' = true) {A : Option Addr} (c : Nat) (hsrc : ys = [] ∨ ∃ b o, A = some ⟨b, o, none⟩ ∧ ∀ j u, ys[j]? = some u → g.ro b (o + j) = some u)
    (hpos : 0 < j.ty.size) (b1 : n + m ≤ 140737488355328) (b2 : (n + m) * j.bytes ≤ 140737488355328) :
    ∃ g' w' r', g.lex g' ∧ Inv P w0 N g' bx fz (rws.set q (e, n + m)) w' ∧ (Builtin.append_ #[t, t] ty #[rr.v, .slice A m c]).run P w = .ok r'.v w' ∧ g'.rw[q]? = some r' ∧ r'.n = n + m ∧ r'.cx = rr.cx ++ ys ∧ Row w' r' ∧
      (∀ k, r'.v.ownBlock = some k → ∀ j u, r'.cx[j]? = some u → g'.ro k j = some u) := by
  have hrow := H.mem.rw q rr hrr
  have hwr : (g.rw.map fun r => (r.tid, r.n))[q]? = some (e, n) := by rw [H.wr]; exact hq
  rw [List.getElem?_map, hrr] at hwr
  simp only [Option.map_some, Option.some.injEq, Prod.mk.injEq] at hwr
  obtain ⟨hte, hn⟩ := hwr
  have hz := H.wz rr (List.mem_of_getElem? hrr)
  have hes : rr.es = j.ty.size := by rw [hz.1, hte, hj.cells]
  obtain ⟨inf, z0, e1, e2, e3, e4, e5⟩ := hj.info
  rw [← hte] at e1 ht
  subst hn
  cases m with
  | zero =>
    have hys : ys = [] := List.length_eq_zero_iff.1 (by rw [hl]; simp)
    subst hys
    have hset : rws.set q (e, rr.n + 0) = rws := by
      apply List.ext_getElem?
      intro k
      rw [List.getElem?_set]
      split
      · rename_i h2; subst h2
        have := (List.getElem?_eq_some_iff.1 hq).1
        rw [if_pos this, hq]; rfl
      · rfl
    rw [hset]
    refine ⟨g, w, rr, Gh.lex.refl g, H, run_append_nought hrow e1 ht ty A c, hrr, rfl, by simp, hrow, fun k hk i u hu => ?_⟩
    exact H.mem.rwo q rr k hrr hk i u hu
  | succ m =>
    obtain ⟨r', w', hrun, hR, k1, k2, k3, k4, k5, k6, k7, k8⟩ := run_appendR (P := P) hrow hz e1 e4 ht ty (m := m + 1) (ys := ys) (by rw [hes]; exact hl) h1 (A := A) c
      (by
        rcases hsrc with h | ⟨b, o, hA, hc⟩
        · subst h; exact absurd (Nat.mul_pos (Nat.succ_pos m) hpos) (by rw [← hl]; simp)
        · exact .inr ⟨b, o, hA, fun i u hu => H.mem.ro _ _ _ (hc i u hu)⟩) (by simp only [maxLen]; omega) (by rw [e3]; exact b2)
    obtain ⟨g', hle, HI, h3, h4⟩ := H.grow hrr hR k1 k2 k3 k4 (by omega) k6 k7 k8
    refine ⟨g', w', r', hle, ?_, hrun, h3, k5, k4, hR, h4⟩
    rw [k1, k5, hte] at HI
    exact HI
theorem flat_len {F : Nat → List Value} {s : Nat} : ∀ m, (∀ k, k < m → (F k).length = s) → ((List.range m).flatMap F).length = m * s := by
  intro m
  induction m with
  | zero => intro _; simp
  | succ m ih => intro h; rw [List.range_succ, List.flatMap_append, List.length_append, ih fun k hk => h k (by omega)]; simp [h m (by omega), Nat.add_mul]
theorem flat_get {F : Nat → List Value} {s : Nat} : ∀ m, (∀ k, k < m → (F k).length = s) → ∀ k i u, k < m → (F k)[i]? = some u → ((List.range m).flatMap F)[k * s + i]? = some u := by
  intro m
  induction m with
  | zero => intro _ k i u hk; omega
  | succ m ih =>
    intro h k i u hk hu
    have hl := flat_len m fun k hk => h k (by omega)
    rw [List.range_succ, List.flatMap_append]
    have hi : i < s := by rw [← h k hk]; exact (List.getElem?_eq_some_iff.1 hu).1
    by_cases hkm : k < m
    · have : (k + 1) * s ≤ m * s := Nat.mul_le_mul_right s hkm
      rw [Nat.add_mul, Nat.one_mul] at this
      rw [List.getElem?_append_left (by rw [hl]; omega)]
      exact ih (fun k hk => h k (by omega)) k i u hkm hu
    · obtain rfl : k = m := by omega
      rw [List.getElem?_append_right (by rw [hl]; omega), hl, Nat.add_sub_cancel_left]; simpa using hu
theorem flat_get' {F : Nat → List Value} {s : Nat} : ∀ m, (∀ k, k < m → (F k).length = s) → ∀ j u, ((List.range m).flatMap F)[j]? = some u → ∃ k, k < m ∧ ∃ i, (F k)[i]? = some u ∧ j = k * s + i := by
  intro m
  induction m with
  | zero => intro _ j u hu; simp at hu
  | succ m ih =>
    intro h j u hu
    have hl := flat_len m fun k hk => h k (by omega)
    rw [List.range_succ, List.flatMap_append] at hu
    by_cases hj : j < m * s
    · rw [List.getElem?_append_left (by rw [hl]; exact hj)] at hu
      obtain ⟨k, hk, i, h1, h2⟩ := ih (fun k hk => h k (by omega)) j u hu
      exact ⟨k, by omega, i, h1, h2⟩
    · rw [List.getElem?_append_right (by rw [hl]; omega), hl] at hu
      exact ⟨m, by omega, j - m * s, by simpa using hu, by omega⟩
theorem flat_append (F F1 : Nat → List Value) (n : Nat) : ∀ m, (List.range n).flatMap F ++ (List.range m).flatMap F1 = (List.range (n + m)).flatMap fun k => if k < n then F k else F1 (k - n) := by
  intro m
  induction m with
  | zero =>
    simp only [List.range_zero, List.flatMap_nil, List.append_nil, Nat.add_zero]
    rw [List.flatMap_def, List.flatMap_def]; congr 1
    apply List.map_congr_left
    intro k hk; rw [if_pos (List.mem_range.1 hk)]
  | succ m ih =>
    rw [List.range_succ, List.flatMap_append, ← List.append_assoc, ih, ← Nat.add_assoc, List.range_succ, List.flatMap_append]
    simp [show ¬ n + m < n by omega]
theorem row_bs {w' : World} {q : Nat} {r' : Rw} {l : List UInt8} (hrw : g.rw[q]? = some r') (hR : Row w' r') (hn : r'.n = l.length) (hc : r'.cx = l.map B8) (hro : ∀ k, r'.v.ownBlock = some k → ∀ j u, r'.cx[j]? = some u → g.ro k j = some u) : RV g (.bs l (some q)) r'.v := by
  rcases hR.at_ with ⟨e1, e2, e3⟩ | ⟨k, e1, hb, hm⟩
  · rw [e1]
    have hl : l = [] := List.length_eq_zero_iff.1 (by omega)
    subst hl
    exact (RC.bs (g := g) (l := []) (A := none) (c := 0) (by simp) (by simp [maxLen]) (.inl rfl) fun i hi => by injection hi with hi; subst hi; exact ⟨r', hrw, by simp, fun _ => ⟨e1, hc⟩⟩).rv1
  · have := RC.bs (g := g) (l := l) (tok := some q) (A := some ⟨k, 0, none⟩) (c := r'.n + r'.m) (by omega) hm (.inr ⟨k, 0, rfl, fun i hi => hro k (by rw [e1]; rfl) _ _ (by rw [hc, Nat.zero_add]; simp [hi])⟩)
      (fun i hi => by injection hi with hi; subst hi; exact ⟨r', hrw, by omega, fun _ => ⟨by rw [e1, hn], hc⟩⟩)
    rw [e1, hn]
    rw [hn] at this
    exact this.rv1
theorem row_sl {w' : World} {q : Nat} {r' : Rw} {T : Ty} {es : List AV} {F : Nat → List Value} (hrw : g.rw[q]? = some r') (hR : Row w' r') (hn : r'.n = es.length) (hF : ∀ k (h : k < es.length), RC g.base T es[k] (F k)) (hc : r'.cx = (List.range es.length).flatMap F) (hro : ∀ k, r'.v.ownBlock = some k → ∀ j u, r'.cx[j]? = some u → g.ro k j = some u) : RV g (.sl T es (some q)) r'.v := by
  rcases hR.at_ with ⟨e1, e2, e3⟩ | ⟨k, e1, hb, hm⟩
  · rw [e1]
    have hl : es = [] := List.length_eq_zero_iff.1 (by omega)
    subst hl
    exact (RC.sl (g := g) (T := T) (es := []) (A := none) (c := 0) (by simp) (by simp [maxLen]) F (.inl rfl) hF fun i hi => by injection hi with hi; subst hi; exact ⟨r', hrw, by simp, fun _ => ⟨e1, hc⟩⟩).rv1
  · have := RC.sl (g := g) (T := T) (es := es) (tok := some q) (A := some ⟨k, 0, none⟩) (c := r'.n + r'.m) (by omega) hm F (.inr ⟨k, 0, rfl, fun i hi x u hu => hro k (by rw [e1]; rfl) _ _ (by
        rw [hc, Nat.zero_add]; exact flat_get es.length (fun k hk => (hF k hk).size) i x u hi hu)⟩) hF
      (fun i hi => by injection hi with hi; subst hi; exact ⟨r', hrw, by omega, fun _ => ⟨by rw [e1, hn], hc⟩⟩)
    rw [e1, hn]
    rw [hn] at this
    exact this.rv1
theorem srcB_ok {y : AV} {l : List UInt8} (h : srcB y = some l) {v : Value} (hv : RV g y v) : ∃ A c, v = .slice A l.length c ∧ (l.map B8 = [] ∨ ∃ b o, A = some ⟨b, o, none⟩ ∧ ∀ j u, (l.map B8)[j]? = some u → g.ro b (o + j) = some u) := by
  unfold srcB at h
  split at h
  · injection h with h; subst h
    obtain ⟨_, A, c, e1, _, _, hr⟩ := hv.bs_inv.bs_inv
    injection e1 with e1
    refine ⟨A, c, e1, ?_⟩
    rcases hr with h | ⟨b, o, hA, hc⟩
    · exact .inl (by rw [h]; rfl)
    · refine .inr ⟨b, o, hA, fun j u hu => ?_⟩
      rw [List.getElem?_map] at hu
      obtain ⟨x, hx, rfl⟩ := Option.map_eq_some_iff.1 hu
      obtain ⟨hj, e⟩ := List.getElem?_eq_some_iff.1 hx
      rw [hc j hj, e]
  · injection h with h; subst h
    obtain ⟨_, A, c, e1, _, _, hr⟩ := (show RV g (.bs (List.take _ _) none) v from hv.asb_).bs_inv.bs_inv
    injection e1 with e1
    refine ⟨A, c, e1, ?_⟩
    rcases hr with h | ⟨b, o, hA, hc⟩
    · exact .inl (by rw [h]; rfl)
    · refine .inr ⟨b, o, hA, fun j u hu => ?_⟩
      rw [List.getElem?_map] at hu
      obtain ⟨x, hx, rfl⟩ := Option.map_eq_some_iff.1 hu
      obtain ⟨hj, e⟩ := List.getElem?_eq_some_iff.1 hx
      rw [hc j hj, e]
  · injection h with h; subst h
    have := hv.v_inv; subst this
    exact ⟨none, 0, rfl, .inl rfl⟩
  · cases h
theorem srcE_ok {T : Ty} {y : AV} {es : List AV} (h : srcE T y = some es) {v : Value} (hv : RV g y v) : ∃ A c F, v = .slice A es.length c ∧ (∀ k (h : k < es.length), RC g.base T es[k] (F k)) ∧ ((List.range es.length).flatMap F = [] ∨ ∃ b o, A = some ⟨b, o, none⟩ ∧ ∀ j u, ((List.range es.length).flatMap F)[j]? = some u → g.ro b (o + j) = some u) := by
  unfold srcE at h
  split at h
  · split at h
    · rename_i hT; subst hT
      injection h with h; subst h
      obtain ⟨_, A, c, F, e1, _, _, hr, hF⟩ := hv.sl_inv.sl_inv
      injection e1 with e1
      refine ⟨A, c, F, e1, hF, ?_⟩
      rcases hr with h | ⟨b, o, hA, hc⟩
      · exact .inl (by rw [h]; rfl)
      · refine .inr ⟨b, o, hA, fun j u hu => ?_⟩
        obtain ⟨k, hk, i, h1, rfl⟩ := flat_get' _ (fun k hk => (hF k hk).size) j u hu
        rw [← Nat.add_assoc]; exact hc k hk i u h1
    · cases h
  · injection h with h; subst h
    have := hv.v_inv; subst this
    exact ⟨none, 0, fun _ => [], rfl, fun k h => absurd h (by simp), .inl rfl⟩
  · cases h
theorem nilRow {e : Nat} {j : TI} (hj : j.ok P e) (hpos : 0 < j.ty.size) (w : World) : Row w ⟨e, j.ty.size, zeroOf P e, .slice none 0 0, 0, [], 0⟩ := by
  obtain ⟨z1, z2⟩ := zeroOf_len hj
  exact ⟨hpos, z1, fun u hu => z2 u (by simpa using hu), by simp, .inl ⟨rfl, rfl, rfl⟩⟩
theorem appE_sound (hτ : τ.ok P) (H : Inv P w0 N g st.bx st.fz st.rw w) {t : Nat} {x y : AV} (h : appE τ st t x y = some (st', r, cd)) (hc : cd) {u v : Value} (hu : RV g x u) (hv : RV g y v) (ty : TypeId) :
    EOk false P w0 N g st st' r w (do pure (.value (← Builtin.append_ #[t, t] ty #[u, v]))) := by
  unfold appE at h
  split at h
  · cases h
  · rename_i i hi
    have hd := (Tab.get_ok hτ hi).d
    split at h
    · rename_i e hid
      rw [hid] at hd
      split at h
      · cases h
      · rename_i j hj
        have hjok := Tab.get_ok hτ hj
        split at h
        · rename_i hpos
          obtain ⟨hpos, hby⟩ := hpos
          have hbig : ∀ n, n ≤ 34359738368 → n * j.bytes ≤ 140737488355328 := fun n hn => Nat.le_trans (Nat.mul_le_mul hn hby) (by decide)
          split at h
          · rename_i hb
            obtain ⟨_, jj, hjj, hjT⟩ := isByte_ok hτ hb
            have hjs : j.ty.size = 1 := by rw [← hjok.cells, hjj.cells, hjT]; rfl
            split at h
            · cases h
            · rename_i l' hsrc
              obtain ⟨A, c, rfl, hsr⟩ := srcB_ok hsrc hv
              split at h
              · obtain ⟨rfl, rfl, rfl⟩ := ER.inj h
                have c2 : l'.length ≤ 34359738368 := hc
                have c1 := hbig _ c2
                have := hu.v_inv; subst this
                obtain ⟨g1, l1, I1, h1⟩ := H.rowNil (nilRow hjok hpos w) rfl rfl ⟨hjok.cells.symm, rfl⟩
                obtain ⟨g', w', r', k1, k2, k3, k4, k5, k6, k7, k8⟩ := app_core (n := 0) hτ I1 hd hjok h1 (by simp) ty (m := l'.length) (ys := l'.map B8) (by rw [hjs]; simp) (by intro u hu; obtain ⟨x, _, rfl⟩ := List.mem_map.1 hu; rfl) (A := A) c
                  (by rcases hsr with h | ⟨b, o, hA, hc⟩; exact .inl h; exact .inr ⟨b, o, hA, fun j u hu => l1.1.ro _ _ _ (hc j u hu)⟩) hpos (by omega) (by rw [Nat.zero_add]; exact c1)
                have hset : (st.rw ++ [(e, 0)]).set st.rw.length (e, 0 + l'.length) = st.rw ++ [(e, l'.length)] := by simp
                rw [hset] at k2
                exact ⟨g', w', ⟨(l1.trans k1).1, fun _ => (l1.trans k1).2⟩, k2, rfl, .inl ⟨_, by simp [k3], row_bs k4 k7 (by omega) (by rw [k6]; rfl) k8⟩⟩
              · rename_i l q
                split at h
                · rename_i e' n hq
                  split at h
                  · rename_i hee; subst hee
                    obtain ⟨rfl, rfl, rfl⟩ := ER.inj h
                    obtain ⟨c1, c3⟩ := hc
                    have c2 := hbig _ c3
                    obtain ⟨rr, hrr, hrn, hcur⟩ : ∃ rr, g.rw[q]? = some rr ∧ rr.n = n ∧ (rr.n = l.length → rr.v = u ∧ rr.cx = l.map B8) := by
                      have hx := hu.bs_inv
                      cases hx with
                      | bs _ _ _ ht =>
                        obtain ⟨rr, h1, h2, h3⟩ := ht q rfl
                        have hwr : (g.rw.map fun r => (r.tid, r.n))[q]? = some (e', n) := by rw [H.wr]; exact hq
                        rw [List.getElem?_map, h1] at hwr
                        simp only [Option.map_some, Option.some.injEq, Prod.mk.injEq] at hwr
                        exact ⟨rr, h1, hwr.2, h3⟩
                    obtain ⟨hvu, hcx⟩ := hcur (hrn.trans c1)
                    obtain ⟨g', w', r', k1, k2, k3, k4, k5, k6, k7, k8⟩ := app_core hτ H hd hjok hrr hq ty (m := l'.length) (ys := l'.map B8) (by rw [hjs]; simp) (by intro u hu; obtain ⟨x, _, rfl⟩ := List.mem_map.1 hu; rfl) (A := A) c hsr hpos (by rw [c1]; omega) (by rw [c1]; exact c2)
                    rw [c1] at k2
                    rw [hvu] at k3
                    exact ⟨g', w', ⟨k1.1, fun _ => k1.2⟩, k2, rfl, .inl ⟨_, by simp [k3], row_bs k4 k7 (by rw [k5, c1, List.length_append]) (by rw [k6, hcx, List.map_append]) k8⟩⟩
                  · cases h
                · cases h
              · cases h
          · split at h
            · cases h
            · rename_i l' hsrc
              obtain ⟨A, c, F, rfl, hF, hsr⟩ := srcE_ok hsrc hv
              have hyl := flat_len l'.length fun k hk => (hF k hk).size
              have hy1 : ∀ u ∈ (List.range l'.length).flatMap F, u.oneCell' = true := by
                intro u hu
                obtain ⟨k, hk, hu⟩ := List.mem_flatMap.1 hu
                exact (hF k (List.mem_range.1 hk)).one u hu
              split at h
              · obtain ⟨rfl, rfl, rfl⟩ := ER.inj h
                have c2 : l'.length ≤ 34359738368 := hc
                have c1 := hbig _ c2
                have := hu.v_inv; subst this
                obtain ⟨g1, l1, I1, h1⟩ := H.rowNil (nilRow hjok hpos w) rfl rfl ⟨hjok.cells.symm, rfl⟩
                obtain ⟨g', w', r', k1, k2, k3, k4, k5, k6, k7, k8⟩ := app_core (n := 0) hτ I1 hd hjok h1 (by simp) ty (m := l'.length) hyl hy1 (A := A) c
                  (by rcases hsr with h | ⟨b, o, hA, hc⟩; exact .inl h; exact .inr ⟨b, o, hA, fun j u hu => l1.1.ro _ _ _ (hc j u hu)⟩) hpos (by omega) (by rw [Nat.zero_add]; exact c1)
                have hset : (st.rw ++ [(e, 0)]).set st.rw.length (e, 0 + l'.length) = st.rw ++ [(e, l'.length)] := by simp
                rw [hset] at k2
                exact ⟨g', w', ⟨(l1.trans k1).1, fun _ => (l1.trans k1).2⟩, k2, rfl, .inl ⟨_, by simp [k3], row_sl k4 k7 (by omega) (fun k hk => (hF k hk).mono (l1.trans k1).1.base) (by rw [k6]; rfl) k8⟩⟩
              · rename_i T l q
                split at h
                · rename_i hT; subst hT
                  split at h
                  · rename_i e' n hq
                    split at h
                    · rename_i hee; subst hee
                      obtain ⟨rfl, rfl, rfl⟩ := ER.inj h
                      obtain ⟨c1, c3⟩ := hc
                      have c2 := hbig _ c3
                      obtain ⟨rr, hrr, hrn, F0, hF0, hcur⟩ : ∃ rr, g.rw[q]? = some rr ∧ rr.n = n ∧ ∃ F0, (∀ k (h : k < l.length), RC g.base j.ty l[k] (F0 k)) ∧ (rr.n = l.length → rr.v = u ∧ rr.cx = (List.range l.length).flatMap F0) := by
                        have hx := hu.sl_inv
                        cases hx with
                        | sl _ _ F0 _ hF0 ht =>
                          obtain ⟨rr, h1, h2, h3⟩ := ht q rfl
                          have hwr : (g.rw.map fun r => (r.tid, r.n))[q]? = some (e', n) := by rw [H.wr]; exact hq
                          rw [List.getElem?_map, h1] at hwr
                          simp only [Option.map_some, Option.some.injEq, Prod.mk.injEq] at hwr
                          exact ⟨rr, h1, hwr.2, F0, hF0, h3⟩
                      obtain ⟨hvu, hcx⟩ := hcur (hrn.trans c1)
                      obtain ⟨g', w', r', k1, k2, k3, k4, k5, k6, k7, k8⟩ := app_core hτ H hd hjok hrr hq ty (m := l'.length) hyl hy1 (A := A) c hsr hpos (by rw [c1]; omega) (by rw [c1]; exact c2)
                      rw [c1] at k2
                      rw [hvu] at k3
                      refine ⟨g', w', ⟨k1.1, fun _ => k1.2⟩, k2, rfl, .inl ⟨_, by simp [k3], row_sl (F := fun k => if k < l.length then F0 k else F (k - l.length)) k4 k7 (by rw [k5, c1, List.length_append]) (fun k hk => ?_) (by rw [k6, hcx, flat_append, List.length_append]) k8⟩⟩
                      by_cases hkl : k < l.length
                      · rw [if_pos hkl, List.getElem_append_left hkl]; exact (hF0 k hkl).mono k1.1.base
                      · rw [if_neg hkl, List.getElem_append_right (by omega)]
                        exact (hF (k - l.length) (by rw [List.length_append] at hk; omega)).mono k1.1.base
                    · cases h
                  · cases h
                · cases h
              · cases h
        · cases h
    · cases h
end
end Go.Proofs.Ytpeefeioccglcaa
