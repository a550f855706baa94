/- Operations that make or write memory: slices that are written out; append. -/
import Derived.Test.YtpeefeioccglcaaEff2
set_option linter.unusedSimpArgs false
set_option linter.unusedVariables false
namespace Go.Proofs.Ytpeefeioccglcaa
open Go Go.RowKit
def setB (n : Nat) (ev : Operand → AV) : List (Nat × Operand) → List UInt8 → Option (List UInt8 × Prop)
  | [], l => some (l, True)
  | (k, x) :: r, l =>
    match ev x with
    | .v (.int .u8 m) => if k < n then (match setB n ev r (l.set k (UInt8.ofNat m.toNat)) with
      | some (b, c) => some (b, (0 ≤ m ∧ m ≤ 255) ∧ c)
      | none => none) else none
    | _ => none
def setE (n : Nat) (T : Ty) (ev : Operand → AV) : List (Nat × Operand) → List AV → Option (List AV × Prop)
  | [], l => some (l, True)
  | (k, x) :: r, l => if k < n ∧ pure_ 3 (ev x) = true then (match setE n T ev r (l.set k (strip 3 (ev x))) with
      | some (b, c) => some (b, fit T (ev x) ∧ c)
      | none => none) else none
def bslE (τ : Tab) (st : St) (c : Gd) (t n : Nat) (ps : List (Nat × Operand)) : ER :=
  match Tab.get t τ with
  | none => none
  | some i =>
    match i.d with
    | .slc e => (match Tab.get e τ with
      | none => none
      | some j => if n * j.ty.size ≤ 16777216 ∧ 0 < j.ty.size then
          (if isByte τ e then (match setB n (st.ev c) ps (List.replicate n 0) with
            | some (l, cd) => some ({ st with rw := st.rw ++ [(e, n)] }, .bs l (some st.rw.length), cd)
            | none => none)
          else (match setE n j.ty (st.ev c) ps (List.replicate n j.zero) with
            | some (l, cd) => some ({ st with rw := st.rw ++ [(e, n)] }, .sl j.ty l (some st.rw.length), cd)
            | none => none)) else none)
    | _ => none
def chain (T : Ty) : Nat → Ty
  | 0 => .nl
  | n + 1 => .cn T (chain T n)
section
variable {P : Program} {τ : Tab} {w0 w : World} {N : Gh} {g : Gh} {st st' : St} {r : AV} {cd : Prop}
theorem chain_size (T : Ty) (n : Nat) : (chain T n).size = n * T.size := by
  induction n with
  | zero => simp [chain, Ty.size]
  | succ n ih => simp only [chain, Ty.size, ih, Nat.add_mul, Nat.one_mul]; omega
theorem chain_loc (T : Ty) : ∀ (n k : Nat), k < n → (chain T n).loc [k] = some (k * T.size, T) := by
  intro n
  induction n with
  | zero => intro k hk; omega
  | succ n ih =>
    intro k hk
    cases k with
    | zero => simp [chain, Ty.loc]
    | succ k => simp only [chain, Ty.loc, ih k (by omega), Option.map_some, Nat.add_mul, Nat.one_mul]; congr 2; omega
theorem RC.chain_replicate {T : Ty} {a : AV} {cs : List Value} (h : RC g T a cs) : ∀ n, RC g (chain T n) (.st (List.replicate n a)) (List.replicate n cs).flatten
  | 0 => .nl
  | n + 1 => by simp only [List.replicate_succ, List.flatten_cons, chain]; exact .cn h (RC.chain_replicate h n)
theorem put_one (l : List AV) (k : Nat) (b : AV) : (AV.st l).put [k] b = .st (l.set k b) := by
  simp only [AV.put]
  cases h : l[k]? with
  | none => simp only []; rw [List.set_eq_of_length_le]; exact List.getElem?_eq_none_iff.1 h
  | some f => rfl
theorem RC.st_len {T : Ty} : ∀ {n : Nat} {l : List AV} {cs : List Value}, RC g (chain T n) (.st l) cs → l.length = n
  | 0, l, cs, h => by cases h; rfl
  | n + 1, l, cs, h => by cases h with | cn h hs => simp [RC.st_len hs]
theorem setE_sound {n : Nat} {T : Ty} {ev : Operand → AV} {ρ : Operand → Value} (hev : ∀ x, RV g (ev x) (ρ x)) :
    ∀ (ps : List (Nat × Operand)) (l b : List AV) (c : Prop) (cs : Array Value), setE n T ev ps l = some (b, c) → c → RC g.base (chain T n) (.st l) cs.toList →
      ∃ cs' : Array Value, Instr.fill (fun i => some (i * T.size, T.size)) cs (ps.map fun x => (x.1, ρ x.2)) = some cs' ∧ RC g.base (chain T n) (.st b) cs'.toList := by
  intro ps
  induction ps with
  | nil => intro l b c cs h hc hr; simp only [setE, Option.some.injEq, Prod.mk.injEq] at h; obtain ⟨rfl, rfl⟩ := h; exact ⟨cs, rfl, hr⟩
  | cons p ps ih =>
    intro l b c cs h hc hr
    obtain ⟨k, x⟩ := p
    simp only [setE] at h
    split at h
    · rename_i hk
      obtain ⟨hk, hpu⟩ := hk
      split at h
      · rename_i b' c' hb
        simp only [Option.some.injEq, Prod.mk.injEq] at h
        obtain ⟨rfl, rfl⟩ := h
        obtain ⟨c1, c2⟩ := hc
        obtain ⟨ds, h1, h2⟩ := (hev x).fit c1
        obtain ⟨cs1, h3, _, h4⟩ := fill_one hr (chain_loc T n k hk) (pl := fun i => some (i * T.size, T.size)) rfl (h1.strip_ hpu) (v := ρ x) (by rw [h2]; exact mkV_cells h1) (ps.map fun x => (x.1, ρ x.2))
        rw [put_one] at h3
        obtain ⟨cs2, h5, h6⟩ := ih _ _ _ cs1 hb c2 h3
        exact ⟨cs2, by rw [List.map_cons, h4, h5], h6⟩
      · cases h
    · cases h
theorem setB_sound {n : Nat} {ev : Operand → AV} {ρ : Operand → Value} (hev : ∀ x, RV g (ev x) (ρ x)) :
    ∀ (ps : List (Nat × Operand)) (l b : List UInt8) (c : Prop) (cs : Array Value), setB n ev ps l = some (b, c) → c → l.length = n → cs.toList = l.map B8 →
      ∃ cs' : Array Value, Instr.fill (fun i => some (i, 1)) cs (ps.map fun x => (x.1, ρ x.2)) = some cs' ∧ cs'.toList = b.map B8 ∧ b.length = n := by
  intro ps
  induction ps with
  | nil => intro l b c cs h hc hl hr; simp only [setB, Option.some.injEq, Prod.mk.injEq] at h; obtain ⟨rfl, rfl⟩ := h; exact ⟨cs, rfl, hr, hl⟩
  | cons p ps ih =>
    intro l b c cs h hc hl hr
    obtain ⟨k, x⟩ := p
    simp only [setB] at h
    split at h
    · rename_i m hx0
      split at h
      · rename_i hk
        split at h
        · rename_i b' c' hb
          simp only [Option.some.injEq, Prod.mk.injEq] at h
          obtain ⟨rfl, rfl⟩ := h
          obtain ⟨⟨c1, c1'⟩, c2⟩ := hc
          have hx1 : ρ x = .int .u8 m := by have := hev x; rw [hx0] at this; exact this.v_inv
          have hn : Value.int .u8 m = B8 (UInt8.ofNat m.toNat) := by rw [B8_ofNat]; congr 1; omega
          have hsz : cs.size = l.length := by have := congrArg List.length hr; simpa using this
          obtain ⟨cs2, h5, h6, h7⟩ := ih _ _ _ (cs.setIfInBounds k (ρ x)) hb c2 (by rw [List.length_set]; exact hl) (by rw [Array.toList_setIfInBounds, hr, hx1, hn, ← List.map_set])
          refine ⟨cs2, ?_, h6, h7⟩
          rw [List.map_cons, Instr.fill]
          simp only []
          rw [hx1] at h5 ⊢
          rw [if_neg (by simp [Value.cells]; omega)]
          exact (congrArg (fun q => Instr.fill (fun i => some (i, 1)) q (ps.map fun x => (x.1, ρ x.2))) (rfl : _ = cs.setIfInBounds k (.int .u8 m))).trans h5
        · cases h
      · cases h
    · cases h
theorem initCells (z : Array Value) (n s : Nat) (hs : z.size = s) : ((Array.range (n * s)).map fun i => z[i % z.size]!).toList = (List.replicate n z.toList).flatten := by
  rw [← zeroCells_flatten z n]
  unfold Builtin.zeroCells
  rw [← hs]
theorem zeroOf_len {t : TypeId} {i : TI} (h : i.ok P t) : (zeroOf P t).length = i.ty.size ∧ ∀ u ∈ zeroOf P t, u.oneCell' = true := by
  obtain ⟨inf, z0, e1, e2, e3, e4, e5⟩ := h.info
  have hz : zeroOf P t = z0.cells.toList := by simp [zeroOf, e1, e4]
  rw [hz]
  have := e5 ⟨fun _ _ => none, [], []⟩
  exact ⟨this.size, this.one⟩
/-- A row that was just written out. -/
theorem rowNew {t : TypeId} {i : TI} (h : i.ok P t) (hpos : 0 < i.ty.size) (w : World) (n : Nat) (cs : List Value) (hl : cs.length = n * i.ty.size) (h1 : ∀ u ∈ cs, u.oneCell' = true) (hn : n ≤ maxLen) :
    let r : Rw := ⟨t, i.ty.size, zeroOf P t, .slice (some ⟨w.heap.size, 0, none⟩) n n, n, cs, 0⟩
    Row (w.alloc (.cells cs.toArray t)) r ∧ r.cx ++ noughts r = cs ∧ (r.es = P.cellsOf r.tid ∧ r.zero = zeroOf P r.tid) := by
  obtain ⟨z1, z2⟩ := zeroOf_len h
  intro r
  have hno : noughts r = [] := rfl
  refine ⟨⟨hpos, z1, fun u hu => ?_, hl, .inr ⟨w.heap.size, rfl, ?_, hn⟩⟩, ?_, h.cells.symm, rfl⟩
  · rcases List.mem_append.1 hu with hu | hu
    · exact h1 u hu
    · exact z2 u hu
  · rw [hno]; simp only [List.append_nil]; exact Blk.new _ _ _
  · rw [hno, List.append_nil]
theorem chunks_all (s : Nat) : ∀ (n : Nat) (cs : List Value), cs.length = n * s → cs = (List.range n).flatMap fun k => (cs.drop (k * s)).take s := by
  intro n
  induction n with
  | zero => intro cs h; simp at h; subst h; rfl
  | succ n ih =>
    intro cs h
    rw [Nat.add_mul, Nat.one_mul] at h
    have h1 := ih (cs.take (n * s)) (by rw [List.length_take]; omega)
    rw [List.range_succ, List.flatMap_append]
    have h2 : (List.range n).flatMap (fun k => (cs.drop (k * s)).take s) = cs.take (n * s) := by
      conv => rhs; rw [h1]
      rw [List.flatMap_def, List.flatMap_def]
      congr 1
      apply List.map_congr_left
      intro k hk
      have hk := List.mem_range.1 hk
      have hks : (k + 1) * s ≤ n * s := Nat.mul_le_mul_right s hk
      rw [Nat.add_mul, Nat.one_mul] at hks
      rw [List.drop_take, List.take_take, Nat.min_eq_left (by omega)]
    rw [h2]
    simp only [List.flatMap_cons, List.flatMap_nil, List.append_nil]
    rw [List.take_of_length_le (l := cs.drop (n * s)) (by rw [List.length_drop]; omega), List.take_append_drop]
theorem bslE_sound (hτ : τ.ok P) (H : Inv P w0 N g st.bx st.fz st.rw w) {nt : Nat} {a : Act} (hF : FR g nt st a) {c : Gd} (hg : gholds a c) {t n : Nat} {ps : Array (Nat × Operand)} (h : bslE τ st c t n ps.toList = some (st', r, cd)) (hc : cd) :
    EOk false P w0 N g st st' r w (do pure (.value (← Instr.buildSlice t n (ps.map fun (i, x) => (i, a.eval x))))) := by
  unfold bslE at h
  split at h
  · cases h
  · rename_i i hi
    have hok := Tab.get_ok hτ hi
    have hd := hok.d
    split at h
    · rename_i e hid
      rw [hid] at hd
      split at h
      · cases h
      · rename_i j hj
        have hjok := Tab.get_ok hτ hj
        obtain ⟨inf, z0, e1, e2, e3, e4, e5⟩ := hjok.info
        have hz : ∀ w, (zeroValue e).run P w = .ok z0 w := fun w => by simp [zeroValue, typeInfo, e1, e4]
        have hps : (ps.map fun (i, x) => (i, a.eval x)).toList = ps.toList.map fun x => (x.1, a.eval x.2) := by simp
        split at h
        · rename_i hcond
          obtain ⟨hbig, hpos⟩ := hcond
          have hzl : z0.cells.size = j.ty.size := by have := (e5 g).size; simpa using this
          -- the run, when the cells are filled
          have key : ∀ cs' : Array Value, (∀ cs : Array Value, cs.toList = (List.replicate n z0.cells.toList).flatten → Instr.fill (fun i => some (i * j.ty.size, j.ty.size)) cs (ps.toList.map fun x => (x.1, a.eval x.2)) = some cs') →
              (Instr.buildSlice t n (ps.map fun (i, x) => (i, a.eval x))).run P w = .ok (.slice (some ⟨w.heap.size, 0, none⟩) n n) (w.alloc (.cells cs' e)) := by
            intro cs' hfill
            have hs := hjok.sizeOf w
            have hnot : ¬ (16777216 < n * j.ty.size) := by omega
            unfold Instr.buildSlice
            simp only [Sem.run_bind, run_underlying (show P.underlying t = _ from hd), Result.andThen_ok, hs]
            by_cases hn0 : n * j.ty.size = 0
            · have hn : n = 0 := by
                rcases Nat.mul_eq_zero.1 hn0 with h | h
                · exact h
                · omega
              subst hn
              have := hfill ((Array.range 0).map fun _ => (default : Value)) (by simp)
              simp [hps, this, newRow]
            · have := hfill ((Array.range (n * j.ty.size)).map fun i => z0.cells[i % z0.cells.size]!) (initCells z0.cells n j.ty.size hzl)
              simp [hnot, hn0, hz, hps, this, newRow]
          have hn63 : n ≤ maxLen := by
            have : n * 1 ≤ n * j.ty.size := Nat.mul_le_mul_left n hpos
            simp only [maxLen]; omega
          have fin : ∀ (cs' : Array Value) (hl : cs'.toList.length = n * j.ty.size) (h1 : ∀ u ∈ cs'.toList, u.oneCell' = true), ∃ g', g.lex g' ∧ Inv P w0 N g' st.bx st.fz (st.rw ++ [(e, n)]) (w.alloc (.cells cs' e)) ∧
              (∃ rr : Rw, g'.rw[st.rw.length]? = some rr ∧ rr.n = n ∧ rr.v = .slice (some ⟨w.heap.size, 0, none⟩) n n ∧ rr.cx = cs'.toList) ∧ ∀ j u, cs'.toList[j]? = some u → g'.ro w.heap.size j = some u := by
            intro cs' hl h1
            obtain ⟨k1, k2, k3⟩ := rowNew hjok hpos w n cs'.toList hl h1 hn63
            have k2' : (Rw.mk e j.ty.size (zeroOf P e) (.slice (some ⟨w.heap.size, 0, none⟩) n n) n cs'.toList 0).cx ++ noughts ⟨e, j.ty.size, zeroOf P e, .slice (some ⟨w.heap.size, 0, none⟩) n n, n, cs'.toList, 0⟩ = cs'.toList := k2
            obtain ⟨g', h2, h3, h4, h5⟩ := H.row (r := ⟨e, j.ty.size, zeroOf P e, .slice (some ⟨w.heap.size, 0, none⟩) n n, n, cs'.toList, 0⟩) (by rw [k2']; exact k1) rfl k3
            rw [k2'] at h3
            exact ⟨g', h2, by simpa using h3, ⟨_, h4, rfl, rfl, rfl⟩, h5⟩
          split at h
          · rename_i hb
            split at h
            · rename_i l cd' hs
              obtain ⟨rfl, rfl, rfl⟩ := ER.inj h
              obtain ⟨_, jj, hjj, hjT⟩ := isByte_ok hτ hb
              have hjs : j.ty.size = 1 := by rw [← hjok.cells, hjj.cells, hjT]; rfl
              have hzb : z0.cells.toList = [B8 0] := by
                have h5 := e5 g
                have hjd : j.d = .int .u8 := by
                  unfold isByte at hb; rw [hj] at hb; dsimp only at hb
                  split at hb
                  · assumption
                  · cases hb
                rw [hjok.iz _ hjd] at h5
                exact h5.v_inv.2
              obtain ⟨cs', h1, h2, h3⟩ := setB_sound (fun x => ev_sound hF hg x) ps.toList (List.replicate n 0) l cd' (((List.replicate n (0 : UInt8)).map B8).toArray) hs hc (by simp) (by simp)
              have hrun := key cs' (fun cs hcs => by
                have : cs = ((List.replicate n (0 : UInt8)).map B8).toArray := by
                  apply Array.toList_inj.1; rw [hcs, hzb]
                  simp
                rw [this, hjs]; simp only [Nat.mul_one]; exact h1)
              obtain ⟨g', k1, k2, ⟨rr, k3, k4, k5, k6⟩, k7⟩ := fin cs' (by rw [h2, List.length_map, h3, hjs, Nat.mul_one]) (by rw [h2]; intro u hu; obtain ⟨x, _, rfl⟩ := List.mem_map.1 hu; rfl)
              refine ⟨g', _, ⟨k1.1, fun _ => k1.2⟩, k2, rfl, .inl ⟨.slice (some ⟨w.heap.size, 0, none⟩) n n, by simp [hrun], ?_⟩⟩
              have := RC.bs (g := g') (l := l) (tok := some st.rw.length) (A := some ⟨w.heap.size, 0, none⟩) (c := n) (by omega) hn63 (.inr ⟨w.heap.size, 0, rfl, fun k hk => k7 _ _ (by rw [h2, Nat.zero_add]; simp [hk])⟩)
                (fun q hq => by injection hq with hq; subst hq; exact ⟨rr, k3, by omega, fun _ => ⟨by rw [k5, h3], by rw [k6, h2]⟩⟩)
              rw [h3] at this
              exact this.rv1
            · cases h
          · split at h
            · rename_i l cd' hs
              obtain ⟨rfl, rfl, rfl⟩ := ER.inj h
              obtain ⟨cs', h1, h2⟩ := setE_sound (fun x => ev_sound hF hg x) ps.toList (List.replicate n j.zero) l cd' ((List.replicate n z0.cells.toList).flatten.toArray) hs hc (by simpa using (e5 g.base).chain_replicate n)
              have hrun := key cs' (fun cs hcs => by
                have : cs = (List.replicate n z0.cells.toList).flatten.toArray := by apply Array.toList_inj.1; rw [hcs]
                rw [this]; exact h1)
              have hll := h2.st_len
              obtain ⟨g', k1, k2, ⟨rr, k3, k4, k5, k6⟩, k7⟩ := fin cs' (by rw [h2.size, chain_size]) h2.one
              refine ⟨g', _, ⟨k1.1, fun _ => k1.2⟩, k2, rfl, .inl ⟨.slice (some ⟨w.heap.size, 0, none⟩) n n, by simp [hrun], ?_⟩⟩
              have hel : ∀ k (hk : k < l.length), RC g'.base j.ty l[k] ((cs'.toList.drop (k * j.ty.size)).take j.ty.size) := fun k hk => by
                obtain ⟨a', ha', pre, mid, post, hcs, hpre, hmid, _⟩ := (h2.mono k1.1.base).lens (chain_loc j.ty n k (by omega))
                have : l[k]? = some a' := by simpa [AV.loc, List.getElem?_eq_getElem hk] using ha'
                rw [List.getElem?_eq_getElem hk] at this; injection this with this; subst this
                rw [hcs, ← hpre, ← hmid.size]; simpa using hmid
              have := RC.sl (g := g') (T := j.ty) (es := l) (tok := some st.rw.length) (A := some ⟨w.heap.size, 0, none⟩) (c := n) (by omega) hn63 (fun k => (cs'.toList.drop (k * j.ty.size)).take j.ty.size)
                (.inr ⟨w.heap.size, 0, rfl, fun k hk q u hu => k7 _ _ (by
                  rw [List.getElem?_take] at hu
                  split at hu
                  · rw [List.getElem?_drop] at hu; rw [Nat.zero_add]; exact hu
                  · cases hu)⟩) hel
                (fun q hq => by injection hq with hq; subst hq; exact ⟨rr, k3, by omega, fun _ => ⟨by rw [k5, hll], by
                  rw [k6, hll]; exact chunks_all j.ty.size n cs'.toList (by rw [h2.size, chain_size])⟩⟩)
              rw [hll] at this
              exact this.rv1
            · cases h
        · cases h
    · cases h
end
end Go.Proofs.Ytpeefeioccglcaa
