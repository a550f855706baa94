/- Slices on their own, in regions that draw their order. -/
import Derived.Test.YtigmpdhnhkdeiaaFrz
import Derived.Test.YtigmpdhnhkdeiaaSk
import Derived.Test.YtigmpdhnhkdeiaaA2
import Derived.Lib.SliceRun
import Derived.Test.YtigmpdhnhkdeiaaA1
set_option linter.unusedSimpArgs false
set_option linter.unusedVariables false
namespace Go.Proofs.Ytigmpdhnhkdeiaa
open Go Go.RowKit
theorem nfX {P : Program} {w0 w : World} {N : Gh} {nt lo : Nat} {st s2 : St} {X : List XR} {a : Act} (H : RelX lo P w0 N nt st X a w) (h : st = s2 := by exact nfs) : RelX lo P w0 N nt s2 X a w := h ▸ H
theorem FrX.refl (lo : Nat) (w : World) (N : Gh) : FrX lo w N N w := .of ⟨Kept.refl _ _, fun i x hx hxo => .inr ⟨x, hx, hxo, rfl⟩, fun i r k hr hrk => .inr ⟨r, hr, hrk⟩, fun _ _ _ _ => rfl, Gh.le.refl _⟩ lo
theorem Xs.nil (lo : Nat) (N : Gh) (w : World) : Xs lo N w [] := ⟨fun x hx => (by cases hx), List.Pairwise.nil⟩
/-- A slice on its own that holds bytes. -/
def XB (x : XR) (l : List UInt8) : Prop := x.n = l.length ∧ x.tid = 5 ∧ x.k = l.length ∧ ∃ m, x.c = l.length + m ∧ x.cells = l.map B8 ++ (List.replicate m (zeroOf Try.prog 5)).flatten
def XL (X : List XR) (ls : List (List UInt8)) : Prop := X.length = ls.length ∧ ∀ i (h1 : i < X.length) (h2 : i < ls.length), XB X[i] ls[i]
theorem XL.snoc {X : List XR} {ls : List (List UInt8)} {x : XR} {l : List UInt8} (h : XL X ls) (hx : XB x l) : XL (X ++ [x]) (ls ++ [l]) := by
  refine ⟨by simp [h.1], fun i h1 h2 => ?_⟩
  rw [List.length_append, List.length_singleton] at h1 h2
  by_cases hi : i < X.length
  · rw [List.getElem_append_left hi, List.getElem_append_left (by rw [← h.1]; exact hi)]; exact h.2 i hi (by rw [← h.1]; exact hi)
  · have e1 : i = X.length := by omega
    have e2 : i = ls.length := by rw [← h.1]; exact e1
    rw [List.getElem_append_right (by omega), List.getElem_append_right (by omega)]
    simp only [List.getElem_singleton]
    exact hx
theorem XL.last {X : List XR} {ls : List (List UInt8)} {x : XR} {l : List UInt8} (h : XL (X ++ [x]) (ls ++ [l])) : XL X ls ∧ XB x l := by
  have hl : X.length = ls.length := by have := h.1; simpa using this
  refine ⟨⟨hl, fun i h1 h2 => ?_⟩, ?_⟩
  · have := h.2 i (by simp; omega) (by simp; omega)
    rwa [List.getElem_append_left h1, List.getElem_append_left h2] at this
  · have := h.2 X.length (by simp) (by simp [hl])
    rw [List.getElem_append_right (Nat.le_refl _), List.getElem_append_right (by omega)] at this
    simpa using this
theorem XL.nil : XL [] [] := ⟨rfl, fun i h => (by cases h)⟩
theorem XB.see {X : List XR} {x : XR} {l : List UInt8} (h : XB x l) (hx : x ∈ X) : SeeX X (.v x.v) (.bs l none) := by
  obtain ⟨h1, _, h3, m, _, h4⟩ := h
  refine .pub x l hx (by omega) h1 ?_
  rw [h4, List.take_append_of_le_length (by simp), List.take_of_length_le (by simp)]
theorem XB.w {x : XR} {l : List UInt8} (h : XB x l) : XW x := by
  obtain ⟨h1, _, _, m, h3, h4⟩ := h
  refine ⟨l, List.replicate m 0, ?_, h1, by rw [List.length_replicate]; exact h3⟩
  rw [h4, zero_u8, flat_z, List.map_append]
theorem VE.mono {P : Program} {f : FuncId} {args : List AV} {R R2 : List XR → List (Ty × AV) → List (TypeId × Nat) → AV → Prop} (h : VE P f args R) (hR : ∀ X bx rw res, R X bx rw res → R2 X bx rw res) : VE P f args R2 :=
  ⟨h.1, fun w N vs a b c => (h.2 w N vs a b c).mono fun e w' hp => by
    obtain ⟨X, bx', rw', res, g, v, h1, h2⟩ := hp
    exact ⟨X, bx', rw', res, g, v, hR _ _ _ _ h1, h2⟩⟩
theorem RelX.rel {P : Program} {w0 w : World} {N : Gh} {nt : Nat} {st : St} {X : List XR} {a : Act} (H : RelX w0.heap.size P w0 N nt st X a w) : Rel P w0 N nt st a w := by
  obtain ⟨g, HI, hB, hF, _⟩ := H
  exact ⟨g, ⟨HI.mem, hB.fr (Nat.le_refl _), HI.br, HI.fz, HI.wr, HI.wz⟩, hF⟩
section
variable {P : Program} {τ : Tab} {w0 w w1 w2 : World} {N N1 N2 : Gh} {g g1 gS : Gh} {st st' sq sq' : St} {nt : Nat} {a : Act} {lo : Nat} {X Y : List XR}
def RelXT (lo : Nat) (P : Program) (w0 : World) (N : Gh) (nt : Nat) (gS : Gh) (sq st : St) (X : List XR) (a : Act) (w : World) : Prop :=
  Mem gS w ∧ gS.rw = [] ∧ FR gS nt sq a ∧ BR gS sq.bx ∧ ∃ g, Inv P w g g st.bx st.fz st.rw w ∧ FrX lo w0 N g w ∧ FR g nt st a ∧ gS.le g ∧ Bs gS g ∧ Xs lo g w X
theorem RelXT.open_ (H : RelXT lo P w0 N nt gS sq st X a w) : ∃ N1, FrX lo w0 N N1 w ∧ Xs lo N1 w X ∧ RelT P w N1 nt gS sq st a w ∧ N1.bx.length = st.bx.length ∧ N1.rw.length = st.rw.length := by
  obtain ⟨hM, hrw, hFq, hBq, g, HI, hB, hF, hle, hbs, hX⟩ := H
  exact ⟨g, hB, hX, ⟨hM, hrw, hFq, hBq, g, HI, hF, hle, hbs⟩, HI.br.len, by rw [← HI.wr, List.length_map]⟩
theorem RelXT.close (hB : FrX lo w0 N N1 w1) (hX : Xs lo N1 w1 X) (H : RelT P w1 N1 nt gS sq st a w) : RelXT lo P w0 N nt gS sq st X a w := by
  obtain ⟨hM, hrw, hFq, hBq, g, HI, hF, hle, hbs⟩ := H
  exact ⟨hM, hrw, hFq, hBq, g, HI.self, hB.trans (.of HI.fr lo), hF, hle, hbs, hX.step HI⟩
theorem nfXT {s2 sq2 : St} (H : RelXT lo P w0 N nt gS sq st X a w) (h : st = s2 := by exact nfs) (h2 : sq = sq2 := by exact nfs) : RelXT lo P w0 N nt gS sq2 s2 X a w := h ▸ h2 ▸ H
theorem cut_keep {i k : Nat} (hrw : gS.rw = []) (hle : gS.le g) (hbs : Bs gS g) (hn : gS.bx.length ≤ i) : gS.le (g.cut i k) ∧ Bs gS (g.cut i k) := by
  have get : ∀ {j : Nat} {x y : Bx}, gS.bx[j]? = some x → g.bx[j]? = some y → (g.cut i k).bx[j]? = some y := fun {j x y} h1 h2 => by
    show (g.bx.take i)[j]? = _
    rw [List.getElem?_take, if_pos (Nat.lt_of_lt_of_le (List.getElem?_eq_some_iff.1 h1).1 hn)]; exact h2
  refine ⟨⟨hle.ro, fun j x hx => ?_, fun j r hr => by rw [hrw] at hr; simp at hr⟩, fun j x hx => ?_⟩
  · obtain ⟨y, h1, h2⟩ := hle.bx j x hx
    exact ⟨y, get hx h1, h2⟩
  · obtain ⟨y, h1, h2⟩ := hbs j x hx
    exact ⟨y, get hx h1, h2⟩
theorem v_pubT (H : RelXT lo P w0 N nt gS sq st X a w) (hlo : lo ≤ w0.heap.size) (ks : List Nat) (d k e : Nat) {l : List UInt8} (hk : st.rw.length = k + 1) (hNk : N.rw.length ≤ k) (hd : find d st.t = some (none, .bs l (some k))) (hrow : st.rw[k]? = some (e, l.length)) (hq : sq.bx.length ≤ st.bx.length)
    (h1 : keepT ks st.bx.length k st.t = true) (h2 : (st.bx.take st.bx.length).all (fun x => low st.bx.length k 4 x.2) = true) :
    ∃ x : XR, (x.n = l.length ∧ x.tid = e ∧ x.k = l.length ∧ ∃ m, x.c = l.length + m ∧ x.cells = l.map B8 ++ (List.replicate m (zeroOf P e)).flatten) ∧ RelXT lo P w0 N nt gS sq ⟨(d, none, .v x.v) :: st.t.filter (fun p => ks.contains p.1), st.bx.take st.bx.length, st.fz, st.rw.take k⟩ (X ++ [x]) a w := by
  obtain ⟨hM, hrw, hFq, hBq, g, HI, hB, hF, hle, hbs, hX⟩ := H
  obtain ⟨x, h, q1, q2, q3, q4⟩ := v_pub0 HI hB hF hX hlo ks d k e hk hNk hd hrow h1 h2
  obtain ⟨c1, c2⟩ := cut_keep (i := st.bx.length) (k := k) hrw hle hbs (by rw [hBq.len]; exact hq)
  exact ⟨x, h, hM, hrw, hFq, hBq, _, q1, q2, q3, c1, c2, q4⟩
/-- A call of a contract that hands out slices on their own, in such a region. -/
theorem v_callET {ops : Array Oper} {Q : Exit → Act → World → Prop} {rest : List Oper} {o : Oper} {f : FuncId} {xs : List Operand} {ats : Array TypeId} {args : List AV} {R : List XR → List (Ty × AV) → List (TypeId × Nat) → AV → Prop} {L A : List Nat} {q : Nat}
    (hc : VE P f args R) (hB : FrX lo w0 N N1 w1) (hlo : lo ≤ w0.heap.size) (hX : Xs lo N1 w1 X) (H : RelT P w1 N1 nt gS sq st a w)
    (hRu : ∀ Y bx' rw' res, R Y bx' rw' res → uses some 4 res = true ∧ bx'.all (fun x => uses some 4 x.2) = true)
    (k : ∀ Y bx' rw' res a w, R Y bx' rw' res → RelXT lo P w0 N nt gS (sq.lose o.dst) ((⟨st.t, mergeL st.bx [] (renB [] [] st.bx.length st.rw.length bx'), st.fz, mergeL st.rw [] rw'⟩ : St).put o.dst none (ren (fun k => some (nth [] st.bx.length k)) (fun k => some (nth [] st.rw.length k)) 4 res)) (X ++ Y) a w → wpT P ops Q (Mem gS) L A rest (q + 1) a w)
    (hL : L.contains q = true := by rfl) (hgd : o.guard = none := by rfl) (ho : o.op = .call ⟨.value (.func f), xs.toArray, ats⟩ := by rfl) (hchk : (xs.all (fun x => argOk [] (st.ev none x)) && okDst nt none o.dst) = true := by rfl) (ha : allP (sub 4) (cargs st [] [] xs) args := by exact caX) : wpT P ops Q (Mem gS) L A (o :: rest) q a w := by
  obtain ⟨hfok, hcall⟩ := hc
  obtain ⟨hM, hrw, hFq, hBq, g, HI, hF, hle, hbs⟩ := H
  simp only [Bool.and_eq_true] at hchk
  obtain ⟨c5, c8⟩ := hchk
  obtain ⟨h1, h2⟩ := cargs_ok HI hF (js := []) (ks := []) (fun j hj => by cases hj) (fun j hj => by cases hj) c5 ha
  unfold wpT
  rw [if_pos (by simp [Region.wanted, hgd]), if_pos hL]
  unfold Oper.wp
  rw [run_callF hfok xs ats ho w, Oper.upon_enter]
  have HP : Inv P w (g.pick [] []) (g.pick [] []) [] [] [] w := HI.pick (bx2 := []) (fz2 := []) (rw2 := []) [] [] (fun j hj => by cases hj) (fun j hj => by cases hj) List.nodup_nil List.nodup_nil (fun j hj => by cases hj) trivial (fun i j hi => by simp at hi) rfl
    ⟨Kept.refl _ _, fun i x hx hxo => .inr ⟨x, hx, hxo, rfl⟩, fun i r k hr hrk => .inr ⟨r, hr, hrk⟩, fun _ _ _ _ => rfl, Gh.le.refl _⟩
  refine (hcall w (g.pick [] []) (xs.map a.eval) HP (by simp [h1]) h2).mono fun e w' hp => ?_
  obtain ⟨Y, bx', rw', res, g1, v, hRR, rfl, HI1, hv, hY⟩ := hp
  obtain ⟨c6, c7⟩ := hRu _ _ _ _ hRR
  obtain ⟨k1, k2, k3, k4⟩ := HI.call HI1 (fun j hj => by cases hj) (fun j hj => by cases hj) List.nodup_nil List.nodup_nil (fun x hx => List.all_eq_true.1 c7 x hx)
  have hv' := hv.ren_ (g1 := g1) (g2 := ⟨g1.ro, mergeL g.bx [] g1.bx, mergeL g.rw [] g1.rw⟩) (fb := fun k => some (nth [] st.bx.length k)) (fr := fun k => some (nth [] st.rw.length k)) (d := 3) rfl (fun i j x hij hx => by injection hij with hij; subst hij; exact k3 i x hx) (fun i j x hij hx => by injection hij with hij; subst hij; exact k4 i x hx) (uses_some c6)
  have hX' : Xs lo (⟨g1.ro, mergeL g.bx [] g1.bx, mergeL g.rw [] g1.rw⟩ : Gh) w' X := hX.step k2
  have hsz : w.heap.size ≤ w'.heap.size := HI1.fr.kept.size
  have hws : w1.heap.size ≤ w.heap.size := HI.fr.kept.size
  have hY' : ∀ y ∈ Y, XOk lo (⟨g1.ro, mergeL g.bx [] g1.bx, mergeL g.rw [] g1.rw⟩ : Gh) w' y := fun y hy => by
    have h := hY.ok y hy
    refine ⟨h.le, h.nil, fun b hb => ?_⟩
    obtain ⟨q1, q2, q3⟩ := h.own b hb
    refine ⟨fun hh => ?_, by have := hB.size; omega, q3⟩
    have hm : ∀ {α : Type} {l m : List α} {x : α}, x ∈ mergeL l [] m → x ∈ l ∨ x ∈ m := fun {α l m x} h => by
      unfold mergeL at h
      rw [show setAll l [] m = l by cases m <;> rfl] at h
      simpa using h
    rcases hh with ⟨z, hz, hzo, he⟩ | ⟨s, hs, he⟩
    · rcases hm hz with hz | hz
      · obtain ⟨i, hi⟩ := List.getElem?_of_mem hz
        have := (HI.mem.bx i z hi hzo).lt; omega
      · exact q1 (.inl ⟨z, hz, hzo, he⟩)
    · rcases hm hs with hs | hs
      · obtain ⟨i, hi⟩ := List.getElem?_of_mem hs
        have := (HI.mem.rw i s hi).lt he; omega
      · exact q1 (.inr ⟨s, hs, he⟩)
  have hun : XApart (X ++ Y) := by
    unfold XApart
    rw [List.pairwise_append]
    refine ⟨hX.un, hY.un, fun x hx y hy => ?_⟩
    cases hb : x.A with
    | none => exact .inl rfl
    | some b =>
      refine .inr fun e => ?_
      have h1 := (hX.ok x hx).lt hb
      have h2 := ((hY.ok y hy).own b e.symm).2.1
      omega
  have hbs' : Bs gS (⟨g1.ro, mergeL g.bx [] g1.bx, mergeL g.rw [] g1.rw⟩ : Gh) := fun i x hx => by
    obtain ⟨y, h3, h4⟩ := hbs i x hx
    exact ⟨y, merge_old (fun hm => by cases hm) h3, h4⟩
  have hM' := MemS (st := ⟨st.t, mergeL st.bx [] (renB [] [] st.bx.length st.rw.length bx'), st.fz ++ ([] : List Nat).map (nth [] st.bx.length), mergeL st.rw [] rw'⟩) hM hrw k2 (hle.trans k1) hbs'
  refine ⟨hM', k Y bx' rw' res _ _ hRR ⟨hM', hrw, hFq.lose v, by rw [lose_bx]; exact hBq, _, ?_, hB.trans (.of k2.fr lo), (hF.mono k1).put c8 (fun _ => hv') rfl (fun h => absurd trivial h), hle.trans k1, hbs', ⟨fun x hx => (List.mem_append.1 hx).elim (hX'.ok x) (hY' x), hun⟩⟩⟩
  have := k2.self
  cases o.dst <;> simpa [St.put] using this
/-- Bytes handed out with memory of their own. -/
theorem VE.ofC {f : FuncId} {args : List AV} {full l' : List UInt8} {n m : Nat} {fz : List Nat} (h : VX P f [] [] [] args [(.ba m, .ba l')] fz [] (.bc full n (some 0))) :
    VE P f args (fun X bx rw res => bx = [] ∧ rw = [] ∧ ∃ x : XR, X = [x] ∧ res = .v x.v ∧ x.n = n ∧ x.c = full.length ∧ x.k = full.length ∧ x.cells = full.map B8) := by
  refine ⟨h.1, fun w N vs hI hl hv => (h.2 w N vs hI hl hv).mono fun e w' hp => ?_⟩
  obtain ⟨g, v, rfl, HI, hr⟩ := hp
  have hNb : N.bx.length = 0 := hI.br.len
  have hNr : N.rw.length = 0 := by have := hI.wr; rw [List.map_eq_nil_iff] at this; rw [this]; rfl
  have hF : FR g 1 ⟨[(0, none, .bc full n (some 0))], [(.ba m, .ba l')], fz, []⟩ ⟨#[v], []⟩ :=
    ⟨rfl, rfl, fun p hp _ => by obtain rfl := List.mem_singleton.1 hp; exact hr, fun p hp hg => by obtain rfl := List.mem_singleton.1 hp; exact absurd trivial hg⟩
  obtain ⟨x, q, q1, q2, q3, q4⟩ := v_pubC0 (st := ⟨[(0, none, .bc full n (some 0))], [(.ba m, .ba l')], fz, []⟩) (X := []) HI.self (FrX.of HI.fr w.heap.size) hF (Xs.nil _ _ _) (Nat.le_refl _) [] 0 0 rfl (Nat.le_of_eq hNb) rfl rfl rfl rfl
  refine ⟨[x], [], [], .v x.v, _, v, ⟨rfl, rfl, x, rfl, rfl, q⟩, rfl, ⟨q1.mem, q2.fr (Nat.le_refl _), q1.br, fun i y hy => ?_, q1.wr, q1.wz⟩, ?_, by simpa using q4⟩
  · have := q1.br.len
    have hi := (List.getElem?_eq_some_iff.1 hy).1
    rw [this] at hi; simp at hi
  · exact q3.t _ List.mem_cons_self trivial
/-- What changes in the view alone keeps slices on their own. -/
theorem RelX.ghost (H : RelX w0.heap.size P w0 N nt st X a w) (hbl : st'.bx.length = st.bx.length) (hrw : st'.rw = st.rw)
    (k : ∀ g, Inv P w0 N g st.bx st.fz st.rw w → FR g nt st a → ∃ g', g.lex g' ∧ Inv P w0 N g' st'.bx st'.fz st'.rw w ∧ FR g' nt st' a) : RelX w0.heap.size P w0 N nt st' X a w := by
  obtain ⟨g, HI, hB, hF, hX⟩ := H
  obtain ⟨g', hl, I1, F1⟩ := k g ⟨HI.mem, hB.fr (Nat.le_refl _), HI.br, HI.fz, HI.wr, HI.wz⟩ hF
  refine ⟨g', I1.self, .of I1.fr _, F1, ⟨fun x hx => ?_, hX.un⟩⟩
  have h := hX.ok x hx
  refine ⟨h.le, h.nil, fun b hb => ?_⟩
  obtain ⟨h1, h2, h3, h4⟩ := h.own b hb
  refine ⟨fun hh => h1 ?_, h2, h3, fun o u ho hu => hl.1.ro _ _ _ (h4 o u ho hu)⟩
  rcases hh with ⟨y, hy, hyo, he⟩ | ⟨s, hs, he⟩
  · obtain ⟨i, hi⟩ := List.getElem?_of_mem hy
    have hil := (List.getElem?_eq_some_iff.1 hi).1
    rw [I1.br.len, hbl, ← HI.br.len] at hil
    obtain ⟨y', hy', q⟩ := hl.2 i g.bx[i] (List.getElem?_eq_getElem hil)
    rw [hi] at hy'; injection hy' with hy'; subst hy'
    exact .inl ⟨g.bx[i], List.getElem_mem hil, by first | exact q.2.2.2.1.symm.trans hyo | exact (q.2.2.2.1).trans hyo | simp_all, by first | exact q.1.symm.trans he | simp_all⟩
  · obtain ⟨i, hi⟩ := List.getElem?_of_mem hs
    have hw : g'.rw.map (fun r => (r.tid, r.n)) = g.rw.map (fun r => (r.tid, r.n)) := by rw [I1.wr, HI.wr, hrw]
    have hil := (List.getElem?_eq_some_iff.1 hi).1
    have hll : g'.rw.length = g.rw.length := by have := congrArg List.length hw; simpa using this
    rw [hll] at hil
    obtain ⟨r', hr', _, _, _, _, q⟩ := hl.1.rw i g.rw[i] (List.getElem?_eq_getElem hil)
    rw [hi] at hr'; injection hr' with hr'; subst hr'
    have hn := congrArg (fun l => l[i]?) hw
    simp only [List.getElem?_map, hi, List.getElem?_eq_getElem hil, Option.map_some, Option.some.injEq, Prod.mk.injEq] at hn
    have := q hn.2
    exact .inr ⟨g.rw[i], List.getElem_mem hil, by rw [← this]; exact he⟩
theorem RelX.frzB (H : RelX w0.heap.size P w0 N nt st X a w) (i j : Nat) (path : List Nat) {e γ n o : Nat} {T Tj : Ty} {x : AV} {es : List AV} (hN : N.bx.length ≤ i) (hb : st.bx[i]? = some (.vc e T, .vc γ es)) (hj : st.bx[j]? = some (Tj, x)) (hT : Tj.loc path = some (o, .sc)) (hx : x.loc path = some (.vw i γ n)) (hn : n ≤ es.length) :
    RelX w0.heap.size P w0 N nt ⟨st.t, st.bx.set j (Tj, x.put path (.sl T (es.take n) none)), i :: st.fz, st.rw⟩ X a w :=
  H.ghost (by simp) rfl fun g HI hF => v_frzB0 HI hF i j path hN hb hj hT hx hn
/-- Slots, boxes and rows are forgotten. -/
theorem RelX.to (H : RelX w0.heap.size P w0 N nt st X a w) (nb nr : Nat) (hM : N.bx.length ≤ nb ∧ N.rw.length ≤ nr) {t2 : List (Nat × Gd × AV)} {bx2 : List (Ty × AV)} {rw2 : List (TypeId × Nat)} {fz2 : List Nat} (hs : SubT t2 st.t) (hb : st.bx.take nb = bx2) (hr : st.rw.take nr = rw2) (hf : st.fz = fz2) (h1 : t2.all (fun p => low nb nr 4 p.2.2) = true) (h2 : bx2.all (fun x => low nb nr 4 x.2) = true) :
    RelX w0.heap.size P w0 N nt ⟨t2, bx2, fz2, rw2⟩ X a w := by
  subst hb hr hf
  obtain ⟨g, HI, hB, hF, hX⟩ := H
  have HI0 : Inv P w0 N g st.bx st.fz st.rw w := ⟨HI.mem, hB.fr (Nat.le_refl _), HI.br, HI.fz, HI.wr, HI.wz⟩
  have I1 := HI0.cut hM.1 hM.2 h2
  refine ⟨g.cut nb nr, I1.self, .of I1.fr _, ⟨hF.sz, hF.df, fun p hp hg => (hF.t p (hs.mem hp) hg).low_ (d := 3) (List.all_eq_true.1 h1 p hp), fun p hp hg => hF.u p (hs.mem hp) hg⟩, ⟨fun x hx => ?_, hX.un⟩⟩
  have h := hX.ok x hx
  refine ⟨h.le, h.nil, fun b hb => ⟨fun hh => (h.own b hb).1 ?_, (h.own b hb).2⟩⟩
  rcases hh with ⟨y, hy, h⟩ | ⟨s, hs, h⟩
  · exact .inl ⟨y, List.mem_of_mem_take hy, h⟩
  · exact .inr ⟨s, List.mem_of_mem_take hs, h⟩
end
end Go.Proofs.Ytigmpdhnhkdeiaa
/- Bytes that were lent are as they were. -/
namespace Go.Proofs.Ytigmpdhnhkdeiaa
open Go Go.RowKit
set_option maxRecDepth 20000 in
theorem kept_v (l : List UInt8) (hl : l.length ≤ 34359738000) : VC Try.prog 22 [.bc (lentOf l) l.length none, .bs l none] [] (.v (.bool true)) := by
  have hll := lent_len l
  have e1 := lent_v l hl
  have h5 : ((l.length : Int) + 5).toNat = l.length + 5 := by omega
  have hT : (lentOf l).take (l.length + 5) = lentOf l := List.take_of_length_le (by omega)
  refine mE Try.func22 ?_; intro N w0 a w hN hR H
  refine mW ?_; clear H; intro a w H
  have hX := And.intro @h5 (And.intro @hT (And.intro @strOf_list (@beq_self_eq_true.{0})))
  refine mS ?_; refine mD 0 [6] [0, 1, 2, 3, 4, 7, 8, 9] H ?_; clear H; intro gS H; refine mT ?_; clear H; intro a w H
  refine mCallT [] [] (e1) H ?_; clear H; intro a w H
  refine mT ?_; clear H; intro a w H
  refine v_drawNil H ?_; clear H; intro H
  refine mW ?_; clear H; intro a w H
  refine wp_ret ?_; exact mEnd [] [] [.tmp 4] [_] hN hR H
end Go.Proofs.Ytigmpdhnhkdeiaa
/- Lent bytes that are on their own. -/
namespace Go.Proofs.Ytigmpdhnhkdeiaa
open Go Go.RowKit
theorem lentX_see {X : List XR} {x : XR} {b : List UInt8} (hx : x ∈ X) (h : x.n = b.length ∧ x.c = (lentOf b).length ∧ x.k = (lentOf b).length ∧ x.cells = (lentOf b).map B8) : SeeX X (.v x.v) (.bs b none) := by
  obtain ⟨h1, _, h3, h4⟩ := h
  refine .pub x b hx (by rw [h3, lent_len]; omega) h1 ?_
  rw [h4, ← List.map_take, show (lentOf b).take b.length = b by simp [lentOf]]
theorem lentX_seeC {X : List XR} {x : XR} {b : List UInt8} (hx : x ∈ X) (h : x.n = b.length ∧ x.c = (lentOf b).length ∧ x.k = (lentOf b).length ∧ x.cells = (lentOf b).map B8) : SeeX X (.v x.v) (.bc (lentOf b) b.length none) := by
  obtain ⟨h1, h2, h3, h4⟩ := h
  have := SeeX.pubc (X := X) x (lentOf b) hx (by omega) h2 h4
  rwa [h1] at this
theorem lentX_w {x : XR} {b : List UInt8} (h : x.n = b.length ∧ x.c = (lentOf b).length ∧ x.k = (lentOf b).length ∧ x.cells = (lentOf b).map B8) : XW x := by
  obtain ⟨h1, h2, h3, h4⟩ := h
  refine ⟨b, marks b.length 5, by rw [h4]; rfl, h1, ?_⟩
  rw [h2]; unfold lentOf; rw [List.length_append]
/-- Lent bytes, on their own. -/
def XT (x : XR) (b : List UInt8) : Prop := x.n = b.length ∧ x.c = (lentOf b).length ∧ x.k = (lentOf b).length ∧ x.cells = (lentOf b).map B8
theorem lent_E (l : List UInt8) (hl : l.length ≤ 34359738000) : VE Try.prog 14 [.bs l none] (fun X bx rw res => bx = [] ∧ rw = [] ∧ ∃ x : XR, X = [x] ∧ res = .v x.v ∧ XT x l) := VE.ofC (lent_v l hl)
def XTL (X : List XR) (ls : List (List UInt8)) : Prop := X.length = ls.length ∧ ∀ i (h1 : i < X.length) (h2 : i < ls.length), XT X[i] ls[i]
theorem XTL.nil : XTL [] [] := ⟨rfl, fun i h => (by cases h)⟩
theorem XTL.snoc {X : List XR} {ls : List (List UInt8)} {x : XR} {l : List UInt8} (h : XTL X ls) (hx : XT x l) : XTL (X ++ [x]) (ls ++ [l]) := by
  refine ⟨by simp [h.1], fun i h1 h2 => ?_⟩
  rw [List.length_append, List.length_singleton] at h1 h2
  by_cases hi : i < X.length
  · rw [List.getElem_append_left hi, List.getElem_append_left (by rw [← h.1]; exact hi)]; exact h.2 i hi (by rw [← h.1]; exact hi)
  · have e1 : i = X.length := by omega
    have e2 : i = ls.length := by rw [← h.1]; exact e1
    rw [List.getElem_append_right (by omega), List.getElem_append_right (by omega)]
    simp only [List.getElem_singleton]
    exact hx
theorem XTL.see {X Y : List XR} {ls : List (List UInt8)} (h : XTL X ls) (hY : ∀ x ∈ X, x ∈ Y) {T : Ty} {tok : Option Nat} : SeeX Y (.sl T (vas (X.map XR.v)) tok) (.sl T (bss ls) none) := by
  refine .sl (by rw [vas_len, List.length_map, bss_len]; exact h.1) fun i h1 h2 => ?_
  rw [vas_len, List.length_map] at h1
  rw [bss_len] at h2
  have := lentX_see (hY _ (List.getElem_mem h1)) (h.2 i h1 h2)
  simpa [vas, bss] using this
end Go.Proofs.Ytigmpdhnhkdeiaa
/- A reader of a stretch: (*span.reader).place. -/
namespace Go.Proofs.Ytigmpdhnhkdeiaa
open Go Go.RowKit
theorem RS.wf.tail {b : Br} {rest : List Br} {ks ds sd : List (List UInt8)} {en : Nd} (h : RS.wf ⟨b :: rest, ks, ds, sd, en⟩) : RS.wf ⟨rest, ks, ds, sd, en⟩ := by
  obtain ⟨h1, h2, h3, h4, h5, h6, h7, h8⟩ := h
  dsimp only at *
  simp only [List.length_cons] at *
  exact ⟨fun b hb => h1 b (List.mem_cons_of_mem _ hb), h2, h3, h4, h5, by dsimp only; omega, by dsimp only; omega, by dsimp only; omega⟩

end Go.Proofs.Ytigmpdhnhkdeiaa
/- Keys as ways down: the document's functions. -/
namespace Go.Proofs.Ytigmpdhnhkdeiaa
open Go Go.RowKit
end Go.Proofs.Ytigmpdhnhkdeiaa
/- Digests of the empty place, of leaves, of inner nodes: the document's. -/
namespace Go.Proofs.Ytigmpdhnhkdeiaa
open Go Go.RowKit
end Go.Proofs.Ytigmpdhnhkdeiaa
/- A contract that says less: rows that nobody will make longer. -/
namespace Go.Proofs.Ytigmpdhnhkdeiaa
open Go Go.RowKit
theorem VC.lessT {P : Program} {f : FuncId} {args : List AV} {rws : List (TypeId × Nat)} {az az' : List AV} (h : VC P f args rws (.tup az)) (hs : allP (sub 4) az az') (hl : az'.all (low 0 0 3) = true) : VC P f args [] (.tup az') := by
  refine ⟨h.1, fun w N vs HI h1 h2 => (h.2 w N vs HI h1 h2).mono ?_⟩
  rintro e w' ⟨g, v, he, HI', hv⟩
  have hnb : N.bx.length ≤ 0 := by rw [HI.br.len]; exact Nat.le_refl _
  have hnr : N.rw.length ≤ 0 := by have := congrArg List.length HI.wr; rw [List.length_map] at this; rw [this]; exact Nat.le_refl _
  refine ⟨g.cut 0 0, v, he, Inv.cut (st := ⟨[], [], [], rws⟩) HI' hnb hnr rfl, ?_⟩
  refine RV.low_ (d := 3) (a := .tup az') ?_ (by simpa only [low] using hl)
  obtain ⟨us, e1, e2, e3⟩ := hv
  have key : ∀ (az az' : List AV), allP (sub 4) az az' → az.length = az'.length ∧ ∀ (i : Nat) b, az'[i]? = some b → ∃ a, az[i]? = some a ∧ sub 4 a b := by
    intro az
    induction az with
    | nil => intro az' h; cases az' with
      | nil => exact ⟨rfl, fun i b hb => by simp at hb⟩
      | cons _ _ => exact h.elim
    | cons a az ih => intro az' h; cases az' with
      | nil => exact h.elim
      | cons b az' =>
        obtain ⟨h1, h2⟩ := h
        obtain ⟨k1, k2⟩ := ih az' h2
        refine ⟨by simp [k1], fun i c hc => ?_⟩
        cases i with
        | zero => simp at hc; subst hc; exact ⟨a, rfl, h1⟩
        | succ i => simp at hc; obtain ⟨x, q1, q2⟩ := k2 i c hc; exact ⟨x, by simpa using q1, q2⟩
  obtain ⟨k1, k2⟩ := key az az' hs
  refine ⟨us, e1, e2.trans k1, fun i b u hb hu => ?_⟩
  obtain ⟨x, q1, q2⟩ := k2 i b hb
  exact (e3 i x u q1 hu).sub_ q2
end Go.Proofs.Ytigmpdhnhkdeiaa
/- Proofs as bytes: how they are read. -/
namespace Go.Proofs.Ytigmpdhnhkdeiaa
open Go Go.RowKit
/-- The sides that marks and bytes say, what is left, and whether bytes were lacking. -/
def runS : List Bool → List UInt8 → List (List UInt8) × List UInt8 × Bool
  | [], r => ([], r, false)
  | m :: ms, r => if m = true ∧ r.length < 32 then ([E0], r, true) else ((if m then r.take 32 else E0) :: (runS ms (if m then r.drop 32 else r)).1, (runS ms (if m then r.drop 32 else r)).2)
def marksOf (bits : List UInt8) (n : Nat) : List Bool := (List.range n).map fun i => bitAt (bits.getD (i / 8) 0) (i % 8)
def rdQ (l : List UInt8) : Pf × Bool :=
  if l.length < 2 then (⟨[], .zero⟩, false) else
  if 256 < num 0 (l.take 2) then (⟨[], .zero⟩, false) else
  if (l.drop 2).length < (num 0 (l.take 2) + 7) / 8 then (⟨[], .zero⟩, false) else
  let x := runS (marksOf ((l.drop 2).take ((num 0 (l.take 2) + 7) / 8)) (num 0 (l.take 2))) ((l.drop 2).drop ((num 0 (l.take 2) + 7) / 8))
  if x.2.2 then (⟨x.1, .zero⟩, false) else (⟨x.1, dec x.2.1⟩, decide (decOk x.2.1))
end Go.Proofs.Ytigmpdhnhkdeiaa
/- Proofs as bytes: read, and told again. -/
namespace Go.Proofs.Ytigmpdhnhkdeiaa
open Go Go.RowKit
theorem cmp_zero : ∀ x y : List UInt8, Lib.compareBytes x y = 0 ↔ x = y
  | [], [] => by simp [Lib.compareBytes]
  | [], _ :: _ => by simp [Lib.compareBytes]
  | _ :: _, [] => by simp [Lib.compareBytes]
  | x :: l, y :: m => by
    have ih := cmp_zero l m
    simp only [Lib.compareBytes]
    split
    · rename_i h; simp only [List.cons.injEq]; constructor
      · intro e; cases e
      · rintro ⟨rfl, _⟩; exact absurd h (by simp)
    · split
      · rename_i h; simp only [List.cons.injEq]; constructor
        · intro e; cases e
        · rintro ⟨rfl, _⟩; exact absurd h (by simp)
      · rename_i h1 h2
        have : x = y := by
          apply UInt8.toNat_inj.1
          have h1 := h1; have h2 := h2
          simp [UInt8.lt_iff_toNat_lt] at h1 h2
          omega
        subst this; simpa using ih
def Pf.zero : Pf := ⟨[], .zero⟩
def pOk (l : List UInt8) : Prop := (rdQ l).2 = true ∧ (rdQ l).1.chk = 0 ∧ (rdQ l).1.text = l
instance (l : List UInt8) : Decidable (pOk l) := inferInstanceAs (Decidable (_ ∧ _))
end Go.Proofs.Ytigmpdhnhkdeiaa
/- The digest at the top of a way: node.Up, and the document's. -/
namespace Go.Proofs.Ytigmpdhnhkdeiaa
open Go Go.RowKit
end Go.Proofs.Ytigmpdhnhkdeiaa
/- What a tree of digests says of a key (plain). -/
namespace Go.Proofs.Ytigmpdhnhkdeiaa
open Go Go.RowKit
end Go.Proofs.Ytigmpdhnhkdeiaa
/- slices.Reverse of digests, in memory that may be written. -/
namespace Go.Proofs.Ytigmpdhnhkdeiaa
open Go Go.RowKit
end Go.Proofs.Ytigmpdhnhkdeiaa
/- Proofs as bytes: the document's. -/
namespace Go.Proofs.Ytigmpdhnhkdeiaa
open Go Go.RowKit
end Go.Proofs.Ytigmpdhnhkdeiaa
/- A region at a function's end in which the named results are loaded and stored again: nothing changes. -/
namespace Go.Proofs.Ytigmpdhnhkdeiaa
open Go Go.RowKit
section
variable {P : Program} {τ : Tab} {w0 w : World} {N : Gh} {st : St} {nt : Nat} {a : Act}
theorem FR.anew {g : Gh} (hF : FR g nt st a) {d : Nat} {x : AV} {v : Value} (hd : d < nt) (hv : RV g x v) : FR g nt (st.put (some d) none x) (a.put (some d) v) :=
  hF.put (by simp [okDst, hd]) (fun _ => hv) rfl (fun h => absurd trivial h)
end
end Go.Proofs.Ytigmpdhnhkdeiaa
/- What bytes say to whoever knows the root: verify, and the document's. -/
namespace Go.Proofs.Ytigmpdhnhkdeiaa
open Go Go.RowKit
end Go.Proofs.Ytigmpdhnhkdeiaa
/- span.read: what is read of a span. -/
namespace Go.Proofs.Ytigmpdhnhkdeiaa
open Go Go.RowKit
/-- A span. -/
structure Sp where
  p : List Br
  v : List (List UInt8)
structure Sp.wf (s : Sp) : Prop where
  p : ∀ b ∈ s.p, b.wf
  lp : s.p.length ≤ 90000
  lv : s.v.length ≤ 90000
  v : ∀ x ∈ s.v, x.length ≤ 34359730000
def Sp.av (s : Sp) : AV := .st [.sl brT (brs s.p) none, .sl .sc (bss s.v) none]
attribute [local irreducible] wpT
end Go.Proofs.Ytigmpdhnhkdeiaa
/- Entries. -/
namespace Go.Proofs.Ytigmpdhnhkdeiaa
open Go Go.RowKit
end Go.Proofs.Ytigmpdhnhkdeiaa
/- span.Check, Root, Single. -/
namespace Go.Proofs.Ytigmpdhnhkdeiaa
open Go Go.RowKit
attribute [local irreducible] wpT
end Go.Proofs.Ytigmpdhnhkdeiaa
/- A span that is lent, its values on their own: law24.Lent. -/
namespace Go.Proofs.Ytigmpdhnhkdeiaa
open Go Go.RowKit
abbrev spT0 : Ty := ti25.ty
attribute [local irreducible] wpT
set_option maxRecDepth 20000 in
set_option maxHeartbeats 8000000 in
theorem lentS_E (s : Sp) (hs : s.wf) : VE Try.prog 13 [s.av] (fun X bx' rw' res => bx' = [] ∧ rw' = [] ∧ res = .st [.sl brT (brs s.p) none, .sl .sc (vas (X.map XR.v)) none] ∧ XTL X s.v) := by
  have hpl := brs_len s.p
  have hvl := bss_len s.v
  obtain ⟨p, v⟩ := s
  obtain ⟨w1, w2, w3, w4⟩ := id hs
  dsimp only at w1 w2 w3 w4 hpl hvl ⊢
  refine v_enterE Try.func13 rfl (by kernel_rfl) (by show 1 ≤ 29; decide) ?_
  intro N w0 a w hN hR H
  have hM : N.bx.length ≤ 0 ∧ N.rw.length ≤ 0 := ⟨hN, hR⟩
  simp only [Sp.av] at H
  refine mS ?_
  have hX := And.intro @hpl (@hvl)
  (try refine wp_region_lit ?_); refine mN 2 hN H ?_; clear H; intro a w H
  refine wpList_nil ?_
  refine mS ?_
  (try refine wp_region_lit ?_); refine mN 4 hN H ?_; clear H; intro a w H
  simp only [List.replicate_zero, List.nil_append] at H
  replace H := v_sub H 8 (x := .sl brT (brs p) (some 0)) (y := .sl brT (brs p) none) ⟨rfl, rfl⟩ rfl (fun az h => by cases h) rfl
  simp only [nilT, reduceIte, Nat.reduceEqDiff] at H
  replace H := mK [1, 2, 8] 2 0 hN hR H
  refine mW ?_; clear H; intro a w H
  replace H := v_ref H 1 0 (Nat.le_trans hN (Nat.zero_le _)) rfl rfl rfl
  simp only [nilT, strip, List.map_cons, List.map_nil, reduceIte, Nat.reduceEqDiff] at H
  replace H := v_nilVB tab_ok H 2 [1] 26 (j := ti26) rfl (by decide) rfl rfl rfl
  simp only [List.set_cons_succ, List.set_cons_zero, List.length_cons, List.length_nil, Nat.reduceAdd, List.cons_append, List.nil_append, AV.put, List.getElem?_cons_succ, List.getElem?_cons_zero] at H
  refine v_loopI (fun k a w => ∃ X : List XR, XTL X (v.take k) ∧ RelX w0.heap.size Try.prog w0 N Try.f13.ntmps ⟨[(4, none, .v (.int .i64 (k : Int))), (3, none, .ptr 2 []), (2, none, .ptr 1 []), (1, none, .ref spT0 (.st [.sl brT (brs p) none, .sl .sc (bss v) none]))],
    [(spT0, .st [.sl brT (brs p) none, .sl .sc (bss v) none]), (spT0, .st [.v (.slice none 0 0), .v (.slice none 0 0)]), (spT0, .st [.sl brT (brs p) none, .vw 3 k k]), (.vc 26 .sc, .vc k (vas (X.map XR.v)))], [0], []⟩ X a w)
    (fun k => k ≤ v.length) (fun k => v.length - k) 0 (Nat.zero_le _) ⟨[], XTL.nil, Rel.toX (by exact H.to 4 0 ⟨Nat.le_trans hN (Nat.zero_le _), Nat.le_trans hR (Nat.zero_le _)⟩ ⟨rfl, rfl, rfl, rfl, trivial⟩ rfl rfl rfl rfl rfl) _⟩ ?_
  clear H hN hR
  rintro k a w1 hk ⟨X, hT, H⟩
  obtain ⟨N1, hB, hZ, H, hN1, hR1⟩ := H.open_
  have hN : N1.bx.length ≤ 4 := Nat.le_of_eq hN1
  have hR : N1.rw.length ≤ 0 := Nat.le_of_eq hR1
  clear hN1 hR1
  have hXl : X.length = k := by have := hT.1; rw [List.length_take] at this; omega
  have hval : (vas (X.map XR.v)).length = k := by rw [vas_len, List.length_map]; exact hXl
  clear hX; have hX := And.intro @hpl (And.intro @hvl (@hval))
  refine mW ?_; clear H; intro a w H
  refine mC H (fun hb => ?_) (fun hb => ?_)
  · have hlt : k < v.length := by rw [decide_eq_true_eq] at hb; omega
    clear hb
    have hg := bss_get v k hlt
    have hle := lent_E v[k] (by have := w4 _ (List.getElem_mem hlt); omega)
    have htk : v.take (k + 1) = v.take k ++ [v[k]] := List.take_succ_eq_append_getElem hlt
    generalize v[k] = u at *
    refine mS ?_
    clear hX; have hX := And.intro @hpl (And.intro @hvl (And.intro @hval (@hg)))
    replace H := mK [1, 2, 3, 4] 4 0 hN hR H
    repeat (first | refine wp_seq ?_ | refine wp_block ?_)
    refine v_drawZ 0 [0, 2, 3, 4, 5, 6, 1, 7, 8, 9, 10, 11] [1, 7, 8, 9, 11] [0, 2, 3, 4, 5, 6] [(1, 7), (1, 8), (1008, 7)] (by kernel_rfl) (by kernel_rfl) (by kernel_rfl) (by kernel_rfl) (by kernel_rfl) H (by rfl) ?_; clear H; intro gS H; try replace H := ntf H
    repeat' ((first | refine wpZ_q1 rfl rfl ?_ | refine wpZ_l1 rfl rfl rfl ?_ | refine wpZ_l2 rfl rfl rfl rfl rfl ?_ ?_ | refine wpZ_l3 rfl rfl rfl rfl rfl rfl rfl ?_ ?_ ?_ | refine wpZ_l4 rfl rfl rfl rfl rfl rfl rfl rfl rfl ?_ ?_ ?_ ?_) <;> ((first | (refine wpT_at 7 ?_; refine v_callET hle hB (Nat.le_refl _) hZ H (by rintro Y bx' rw' res ⟨rfl, rfl, x, rfl, rfl, _⟩; exact ⟨rfl, rfl⟩) ?_; clear H; rintro Y bx' rw' res a w ⟨rfl, rfl, x, rfl, rfl, hx⟩ H; replace H := nfXT H; clear hB hZ hN hR; obtain ⟨N2, hB, hZ, H, hN2, hR2⟩ := H.open_; have hN : N2.bx.length ≤ 4 := Nat.le_of_eq hN2; have hR : N2.rw.length ≤ 0 := Nat.le_of_eq hR2; clear hN2 hR2) | (refine v_someT 1 tab_ok hN H rfl ctX ?_; clear H; intro a w H; replace H := ntf H; simp only [List.drop_succ_cons, List.drop_zero, List.drop_nil])); refine wpT_nil ?_; try dsimp only))
    all_goals (refine wpZ_nil ?_; replace H := RelT.toRel H)
    all_goals
      have t1 : List.take k (vas (X.map XR.v)) ++ [.v x.v] = vas ((X ++ [x]).map XR.v) := by rw [List.take_of_length_le (by omega)]; simp [vas]
      rw [t1] at H
      refine mW ?_; clear H; intro a w H
      rw [show (k : Int) + 1 = ((k + 1 : Nat) : Int) by omega] at H
      exact ⟨k + 1, hlt, by omega, X ++ [x], by rw [htk]; exact hT.snoc hx, RelX.close hB hZ (by exact H.to 4 0 ⟨hN, hR⟩ ⟨rfl, rfl, rfl, rfl, trivial⟩ rfl rfl rfl rfl rfl)⟩
  · have hge : k = v.length := by rw [decide_eq_false_iff_not] at hb; omega
    subst hge
    clear hb hN hR
    rw [List.take_length] at hT
    replace H := RelX.close hB hZ H
    clear hB hZ
    replace H := H.frzB 3 2 [1] (Nat.le_trans hM.1 (Nat.zero_le _)) rfl rfl rfl rfl (by omega)
    simp only [AV.put, List.set_cons_succ, List.set_cons_zero, List.getElem?_cons_succ, List.getElem?_cons_zero, List.take_of_length_le (Nat.le_of_eq hval)] at H
    obtain ⟨N1, hB, hZ, H, hN1, hR1⟩ := H.open_
    have hN : N1.bx.length ≤ 4 := Nat.le_of_eq hN1
    have hR : N1.rw.length ≤ 0 := Nat.le_of_eq hR1
    clear hN1 hR1
    refine mW ?_; clear H; intro a w H
    replace H := nf H
    refine wp_ret ?_
    exact v_endE (bx' := []) (rs := [.cell 2 25]) (ress := [_]) (nb := 0) (nr := 0) [] [] tab_ok hM rfl (RelX.close hB hZ H) (by rfl) (by rfl) cbX (by rfl) ⟨sub_refl _ _, trivial⟩ rfl ⟨rfl, rfl, rfl, hT⟩
end Go.Proofs.Ytigmpdhnhkdeiaa
/- Spans that are the same, spans that are kept. -/
namespace Go.Proofs.Ytigmpdhnhkdeiaa
open Go Go.RowKit
theorem brs_get (l : List Br) (i : Nat) (h : i < l.length) : (brs l).getD i .any = l[i].av := by simp [brs, List.getD_eq_getElem?_getD, h]
attribute [local irreducible] wpT
set_option maxRecDepth 20000 in
set_option maxHeartbeats 4000000 in
theorem sameSp_v (s : Sp) (hs : s.wf) : VC Try.prog 20 [s.av, s.av] [] (.v (.bool true)) := by
  have hpl := brs_len s.p
  have hvl := bss_len s.v
  obtain ⟨p, v⟩ := s
  obtain ⟨w1, w2, w3, w4⟩ := id hs
  dsimp only at w1 w2 w3 w4 hpl hvl
  refine mE Try.func20 ?_; intro N w0 a w hN hR H
  simp only [Sp.av] at H
  have hX := And.intro @hpl (@hvl)
  refine mW ?_; clear H; intro a w H
  refine mC H (fun hb => ?_) (fun hb => ?_)
  · simp at hb
  · clear hb
    refine mS ?_
    replace H := mK [2, 3, 4] 2 0 hN hR H
    refine mW ?_; clear H; intro a w H
    refine v_loop (fun i : Nat => ⟨[(5, none, .v (.int .i64 (i : Int))), (4, none, .v (.bool false)), (3, none, .ptr 1 []), (2, none, .ptr 0 [])], [(spT0, .st [.sl brT (brs p) none, .sl .sc (bss v) none]), (spT0, .st [.sl brT (brs p) none, .sl .sc (bss v) none])], [], []⟩)
      (fun i => i ≤ p.length) (fun i => p.length - i) 0 (Nat.zero_le _) (H.to 2 0 ⟨Nat.le_trans hN (Nat.zero_le _), hR⟩ ⟨rfl, rfl, rfl, rfl, trivial⟩ rfl rfl rfl rfl rfl) ?_
    clear H
    intro i a w hi H
    refine mW ?_; clear H; intro a w H
    refine mC H (fun hb => ?_) (fun hb => ?_)
    · have hlt : i < p.length := by rw [decide_eq_true_eq] at hb; omega
      clear hb
      have hg := brs_get p i hlt
      obtain ⟨b1, b2, b3⟩ := w1 _ (List.getElem_mem hlt)
      generalize p[i] = b at *
      obtain ⟨bk, bkey, bv, bg⟩ := b
      simp only [Br.av] at hg
      dsimp only at b1 b2 b3
      clear hX; have hX := And.intro @hpl (And.intro @hvl (And.intro @hg (And.intro @b1 (And.intro @b2 (@b3)))))
      refine mS ?_; refine mD 2 [] [] H ?_; clear H; intro gS H
      refine mTN 4 hN H ?_; clear H; intro a w H; simp only [List.drop_succ_cons, List.drop_zero, List.drop_nil]
      refine mTN 5 hN H ?_; clear H; intro a w H; simp only [List.drop_succ_cons, List.drop_zero, List.drop_nil]
      refine mT ?_; clear H; intro a w H
      refine v_drawNil H ?_; clear H; intro H
      refine mC H (fun hb => ?_) (fun hb => ?_)
      · simp at hb
      · clear hb
        refine mS ?_
        replace H := mK [2, 3, 4, 5] 2 0 hN hR H
        refine mW ?_; clear H; intro a w H
        rw [show (i : Int) + 1 = ((i + 1 : Nat) : Int) by omega] at H
        exact ⟨i + 1, hlt, by omega, H.to 2 0 ⟨Nat.le_trans hN (Nat.zero_le _), hR⟩ ⟨rfl, rfl, rfl, rfl, trivial⟩ rfl rfl rfl rfl rfl⟩
    · clear hb
      refine mW ?_; clear H; intro a w H
      refine v_loop (fun i : Nat => ⟨[(6, none, .v (.int .i64 (i : Int))), (4, none, .v (.bool false)), (3, none, .ptr 1 []), (2, none, .ptr 0 [])], [(spT0, .st [.sl brT (brs p) none, .sl .sc (bss v) none]), (spT0, .st [.sl brT (brs p) none, .sl .sc (bss v) none])], [], []⟩)
        (fun i => i ≤ v.length) (fun i => v.length - i) 0 (Nat.zero_le _) (H.to 2 0 ⟨Nat.le_trans hN (Nat.zero_le _), hR⟩ ⟨rfl, rfl, rfl, rfl, trivial⟩ rfl rfl rfl rfl rfl) ?_
      clear H
      intro j a w hj H
      refine mW ?_; clear H; intro a w H
      refine mC H (fun hb => ?_) (fun hb => ?_)
      · have hlt : j < v.length := by rw [decide_eq_true_eq] at hb; omega
        clear hb
        have hg := bss_get v j hlt
        have hsm := same_v v[j] v[j]
        rw [beq_self_eq_true] at hsm
        generalize v[j] = u at *
        clear hX; have hX := And.intro @hpl (And.intro @hvl (@hg))
        refine mS ?_; refine mD 2 [10] [] H ?_; clear H; intro gS H
        refine mTN 4 hN H ?_; clear H; intro a w H; simp only [List.drop_succ_cons, List.drop_zero, List.drop_nil]
        refine mTN 5 hN H ?_; clear H; intro a w H; simp only [List.drop_succ_cons, List.drop_zero, List.drop_nil]
        refine mTN 1 hN H ?_; clear H; intro a w H; simp only [List.drop_succ_cons, List.drop_zero, List.drop_nil]
        refine mCallT [] [] (hsm) H ?_; clear H; intro a w H
        refine mT ?_; clear H; intro a w H
        refine v_drawNil H ?_; clear H; intro H
        refine mC H (fun hb => ?_) (fun hb => ?_)
        · exact absurd hb (by decide)
        · clear hb
          refine mS ?_
          replace H := mK [2, 3, 4, 6] 2 0 hN hR H
          refine mW ?_; clear H; intro a w H
          rw [show (j : Int) + 1 = ((j + 1 : Nat) : Int) by omega] at H
          exact ⟨j + 1, hlt, by omega, H.to 2 0 ⟨Nat.le_trans hN (Nat.zero_le _), hR⟩ ⟨rfl, rfl, rfl, rfl, trivial⟩ rfl rfl rfl rfl rfl⟩
      · clear hb
        refine mW ?_; clear H; intro a w H
        refine wp_ret ?_; exact mEnd [] [] [.tmp 4] [_] hN hR H
/-- Lent bytes in a list. -/
def bcs (l : List (List UInt8)) : List AV := l.map fun b => .bc (lentOf b) b.length none
theorem bcs_len (l : List (List UInt8)) : (bcs l).length = l.length := by simp [bcs]
theorem bcs_get (l : List (List UInt8)) (i : Nat) (h : i < l.length) : (bcs l).getD i .any = .bc (lentOf l[i]) l[i].length none := by simp [bcs, List.getD_eq_getElem?_getD, h]
theorem bcs_see (l : List (List UInt8)) {T : Ty} {tok : Option Nat} {X : List XR} : SeeX X (.sl T (bcs l) tok) (.sl T (bss l) none) := by
  refine .sl (by rw [bcs_len, bss_len]) fun i h1 h2 => ?_
  have : SeeX X (.bc (lentOf (l[i]'(by simpa [bcs_len] using h1))) (l[i]'(by simpa [bcs_len] using h1)).length none) (.bs (l[i]'(by simpa [bcs_len] using h1)) none) := .bc _ _ _ _ (by simp [lentOf])
  simpa [bcs, bss] using this
set_option maxRecDepth 20000 in
theorem keptSp_v (s : Sp) (hs : s.wf) : VC Try.prog 21 [.st [.sl brT (brs s.p) none, .sl .sc (bcs s.v) none], s.av] [] (.v (.bool true)) := by
  have hpl := brs_len s.p
  have hvl := bss_len s.v
  have hcl := bcs_len s.v
  have hsa := sameSp_v s hs
  have hse := bcs_see s.v (T := .sc) (tok := none) (X := [])
  obtain ⟨p, v⟩ := s
  obtain ⟨w1, w2, w3, w4⟩ := id hs
  dsimp only at w1 w2 w3 w4 hpl hvl hcl hse
  simp only [Sp.av] at hsa ⊢
  refine mE Try.func21 ?_; intro N w0 a w hN hR H
  have hX := And.intro @hpl (And.intro @hvl (@hcl))
  refine mW ?_; clear H; intro a w H
  refine v_loop (fun i : Nat => ⟨[(5, none, .v (.int .i64 (i : Int))), (4, none, .v (.bool false)), (3, none, .ptr 1 []), (2, none, .ptr 0 [])], [(spT0, .st [.sl brT (brs p) none, .sl .sc (bcs v) none]), (spT0, .st [.sl brT (brs p) none, .sl .sc (bss v) none])], [], []⟩)
    (fun i => i ≤ v.length) (fun i => v.length - i) 0 (Nat.zero_le _) (H.to 2 0 ⟨Nat.le_trans hN (Nat.zero_le _), hR⟩ ⟨rfl, rfl, rfl, rfl, trivial⟩ rfl rfl rfl rfl rfl) ?_
  clear H
  intro j a w hj H
  refine mW ?_; clear H; intro a w H
  refine mC H (fun hb => ?_) (fun hb => ?_)
  · have hlt : j < v.length := by
      cases hd : decide ((j : Int) < (v.length : Int))
      · rw [hd] at hb; cases hb
      · rw [decide_eq_true_eq] at hd; omega
    clear hb
    have hg := bss_get v j hlt
    have hg2 := bcs_get v j hlt
    have hkp := kept_v v[j] (by have := w4 _ (List.getElem_mem hlt); omega)
    generalize v[j] = u at *
    refine mS ?_
    clear hX; have hX := And.intro @hpl (And.intro @hvl (And.intro @hcl (And.intro @hg (@hg2))))
    replace H := mK [2, 3, 4, 5] 2 0 hN hR H
    refine mS ?_; refine mD 2 [10] [] H ?_; clear H; intro gS H
    refine mTN 4 hN H ?_; clear H; intro a w H; simp only [List.drop_succ_cons, List.drop_zero, List.drop_nil]
    refine mTN 5 hN H ?_; clear H; intro a w H; simp only [List.drop_succ_cons, List.drop_zero, List.drop_nil]
    refine mTN 1 hN H ?_; clear H; intro a w H; simp only [List.drop_succ_cons, List.drop_zero, List.drop_nil]
    refine mCallT [] [] (hkp) H ?_; clear H; intro a w H
    refine mT ?_; clear H; intro a w H
    refine v_drawNil H ?_; clear H; intro H
    refine mC H (fun hb => ?_) (fun hb => ?_)
    · exact absurd hb (by decide)
    · clear hb
      refine mS ?_
      replace H := mK [2, 3, 4, 5] 2 0 hN hR H
      refine mW ?_; clear H; intro a w H
      rw [show (j : Int) + 1 = ((j + 1 : Nat) : Int) by omega] at H
      exact ⟨j + 1, hlt, by omega, H.to 2 0 ⟨Nat.le_trans hN (Nat.zero_le _), hR⟩ ⟨rfl, rfl, rfl, rfl, trivial⟩ rfl rfl rfl rfl rfl⟩
  · clear hb
    refine mS ?_
    replace H := mK [2, 3, 4] 2 0 hN hR H
    refine mW ?_; clear H; intro a w H
    replace H := v_seeX (Xs.nil 0 N w0) H 32 (x := .st [.sl brT (brs p) none, .sl .sc (bcs v) none]) (.st [.sl brT (brs p) none, .sl .sc (bss v) none]) (.st rfl fun i h1 h2 => by
      match i, h1 with
      | 0, _ => exact .refl _
      | 1, _ => exact hse) rfl
    simp only [nilT, reduceIte, Nat.reduceEqDiff] at H
    refine mCall [] [] (hsa) H ?_; clear H; intro a w H; try refine wpList_nil ?_
    refine mW ?_; clear H; intro a w H
    refine wp_ret ?_; exact mEnd [] [] [.tmp 4] [_] hN hR H
end Go.Proofs.Ytigmpdhnhkdeiaa
/- mpack.Check. -/
namespace Go.Proofs.Ytigmpdhnhkdeiaa
open Go Go.RowKit
def dpA (d : Nat) : AV := .v (.int .i64 (d : Int))
/-- The depths still wanted, the next one last. -/
structure Stk (es : List AV) (s : List Nat) : Prop where
  e : es.take s.length = s.reverse.map dpA
  l : s.length ≤ es.length
theorem Stk.get {es : List AV} {d : Nat} {s : List Nat} (h : Stk es (d :: s)) : es.getD s.length .any = .v (.int .i64 (d : Int)) := by
  have h1 := congrArg (fun l => l[s.length]?) h.e
  have hl := h.l
  simp only [List.length_cons] at hl h1
  rw [List.getElem?_take, if_pos (Nat.lt_succ_self _)] at h1
  rw [List.getD_eq_getElem?_getD, h1]
  simp [dpA]
theorem Stk.pop {es : List AV} {d : Nat} {s : List Nat} (h : Stk es (d :: s)) : Stk es s := by
  have hl := h.l
  have h1 := congrArg (fun l => l.take s.length) h.e
  simp only [List.length_cons] at hl h1
  rw [List.take_take, Nat.min_eq_left (Nat.le_succ _)] at h1
  refine ⟨?_, by omega⟩
  rw [h1, List.reverse_cons, List.map_append, List.take_append_of_le_length (by simp), List.take_of_length_le (by simp)]
theorem Stk.push {es : List AV} {d : Nat} {s : List Nat} (h : Stk es (d :: s)) : Stk (es.take s.length ++ [.v (.int .i64 ((d + 1 : Nat) : Int)), .v (.int .i64 ((d + 1 : Nat) : Int))]) ((d + 1) :: (d + 1) :: s) := by
  have hp := h.pop
  have hl := hp.l
  have hlen : (es.take s.length).length = s.length := by rw [List.length_take]; omega
  refine ⟨?_, by simp; omega⟩
  rw [List.take_of_length_le (by simp; omega), hp.e]
  simp [dpA]
theorem Stk.init : Stk [.v (.int .i64 0)] [0] := ⟨rfl, Nat.le_refl _⟩
theorem runD_pre {s : List Nat} : ∀ (ms ks : List UInt8), runD s ks = none → runD s (ks ++ ms) = none
  | [], ks, h => by rw [List.append_nil]; exact h
  | m :: ms, ks, h => by
    rw [show ks ++ m :: ms = (ks ++ [m]) ++ ms by simp]
    exact runD_pre ms _ (by rw [runD_snoc, h]; rfl)
theorem okB_clean {p : List Br} {k : Nat} (h : k < p.length) (hc : p[k].clean = false) : okB p = false := by
  unfold okB
  rw [Bool.and_eq_false_iff]
  left
  rw [← Bool.not_eq_true, List.all_eq_true]
  intro q
  rw [q _ (List.getElem_mem h)] at hc; cases hc
theorem okB_take {p : List Br} {k : Nat} {s : List Nat} (h : k < p.length) (hs : runD [0] ((p.take k).map Br.k) = some s) (hc : (takeD s p[k].k).1 = false) : okB p = false := by
  unfold okB
  rw [Bool.and_eq_false_iff]
  right
  rw [decide_eq_false_iff_not, ← run_tr]
  have h1 : runD [0] ((p.take (k + 1)).map Br.k) = none := by
    rw [List.take_succ_eq_append_getElem h, List.map_append, List.map_singleton, runD_snoc, hs, Option.bind_some, if_neg (by rw [hc]; decide)]
  have h2 := runD_pre ((p.drop (k + 1)).map Br.k) _ h1
  rw [← List.map_append, List.take_append_drop] at h2
  rw [h2]; exact fun e => by cases e
theorem okB_end {p : List Br} {s : List Nat} (hc : ∀ b ∈ p, b.clean = true) (hs : runD [0] (p.map Br.k) = some s) : okB p = decide (s.length = 0) := by
  unfold okB
  rw [List.all_eq_true.2 hc, Bool.true_and, decide_eq_decide, ← run_tr, hs, Option.some.injEq, List.length_eq_zero_iff]
attribute [local irreducible] wpT
set_option maxRecDepth 20000 in
set_option maxHeartbeats 2000000 in
theorem mcheck_v (p : List Br) (hp : ∀ b ∈ p, b.wf) (hl : p.length ≤ 34359730000) : VC Try.prog 163 [.st [.sl brT (brs p) none]] [] (errv (chkB p)) := by
  have hpl := brs_len p
  refine mE Try.func163 ?_; intro N w0 a w hN hR H
  have hX := @hpl
  refine mW ?_; clear H; intro a w H
  refine mC H (fun hb => ?_) (fun hb => ?_)
  · rw [decide_eq_true_eq] at hb
    have e : chkB p = 4 := by unfold chkB; rw [if_pos (by omega)]
    rw [e]
    refine mW ?_; clear H; intro a w H
    refine wp_ret ?_; exact mEnd [] [] [.tmp 2] [_] hN hR H
  · rw [decide_eq_false_iff_not] at hb
    have hle : p.length ≤ 65536 := by omega
    have e : chkB p = if okB p = true then 0 else 2 := by unfold chkB; rw [if_neg (by omega)]
    rw [e]
    clear hb e
    refine mS ?_
    refine wp_region_lit ?_
    refine v_bsV (i := ti340) (j := ti3) (n := 1) (ps := [(0, .const (.int .i64 0))]) tab_ok rfl rfl rfl (by decide) (by decide) H rfl ⟨by trivial, trivial⟩ (by decide) ?_
    clear H; intro a w H; replace H := nf H
    refine mW ?_; clear H; intro a w H
    refine v_loop (fun i : Nat × Nat × List AV × List Nat => ⟨[(14, none, .v (.int .i64 (i.1 : Int))), (13, none, .v (.int .i64 (p.length : Int))), (12, none, .sl brT (brs p) none), (3, none, .ptr 2 []), (2, none, .v (.int .i64 0))], [(.cn .sc .nl, .st [.sl brT (brs p) none]), (dpT, .vc i.2.1 i.2.2.1), (.sc, .vw 1 i.2.1 i.2.2.2.length)], [], []⟩)
      (fun i => i.1 ≤ p.length ∧ Stk i.2.2.1 i.2.2.2 ∧ runD [0] ((p.take i.1).map Br.k) = some i.2.2.2 ∧ ∀ b ∈ p.take i.1, b.clean = true) (fun i => p.length - i.1) (0, 0, [.v (.int .i64 0)], [0]) ⟨Nat.zero_le _, Stk.init, rfl, fun b hb => by simp at hb⟩
      (H.to 3 0 ⟨Nat.le_trans hN (Nat.le_of_ble_eq_true rfl), Nat.le_trans hR (Nat.zero_le _)⟩ ⟨rfl, rfl, rfl, rfl, rfl, trivial⟩ rfl rfl rfl rfl rfl) ?_
    clear H
    rintro ⟨k, γ, es, s⟩ a w ⟨hk, hst, hrun, hcl⟩ H
    dsimp only at hk hst hrun hcl H
    have hsl : s.length ≤ 65537 := by
      have := runD_len _ _ _ hrun
      simp only [List.length_map, List.length_take, List.length_cons, List.length_nil] at this
      omega
    have hsd := runD_le _ _ _ (fun d hd => by rw [List.mem_singleton.1 hd]; omega) hrun
    refine mW ?_; clear H; intro a w H
    refine mC H (fun hb => ?_) (fun hb => ?_)
    · have hlt : k < p.length := by rw [decide_eq_true_eq] at hb; omega
      clear hb
      have hg := brs_get p k hlt
      have hw := hp _ (List.getElem_mem hlt)
      have hc := mclean_v p[k] hw
      have hokc := okB_clean hlt
      have hokt := okB_take hlt hrun
      have htk : p.take (k + 1) = p.take k ++ [p[k]] := List.take_succ_eq_append_getElem hlt
      generalize p[k] = b at *
      have hrun2 : (takeD s b.k).1 = true → runD [0] ((p.take (k + 1)).map Br.k) = some (takeD s b.k).2 := fun h => by
        rw [htk, List.map_append, List.map_singleton, runD_snoc, hrun, Option.bind_some, if_pos h]
      obtain ⟨v1, v2, v3⟩ := hw
      simp only [Br.av] at hg hc
      refine mS ?_
      clear hX; have hX := And.intro @hpl (And.intro @hg (And.intro @v1 (And.intro @v2 (@v3))))
      (try refine wp_region_lit ?_); refine mN 2 hN H ?_; clear H; intro a w H
      refine mW ?_; clear H; intro a w H
      refine mCall [] [] (hc) H ?_; clear H; intro a w H; try refine wpList_nil ?_
      cases hbc : b.clean with
      | false =>
        have e := hokc hbc
        rw [hbc] at H
        refine mW ?_; clear H; intro a w H
        refine mSk (.v (.bool true)) H ?_; clear H; intro a w H
        refine mW ?_; clear H; intro a w H
        refine mC H (fun hb => ?_) (fun hb => ?_)
        · clear hb
          rw [if_neg (by rw [e]; decide)]
          refine mW ?_; clear H; intro a w H
          refine wp_ret ?_; exact mEnd [] [] [.tmp 2] [_] hN hR H
        · exact absurd hb (by decide)
      | true =>
        rw [hbc] at H
        refine mW ?_; clear H; intro a w H
        replace H := v_known H 21 false rfl
        simp only [unG, gdEq, Nat.reduceBEq, cond_true, cond_false] at H
        refine mG H ?_
        have hcl2 : ∀ x ∈ p.take (k + 1), x.clean = true := fun x hx => by
          rw [htk, List.mem_append, List.mem_singleton] at hx
          rcases hx with hx | rfl
          · exact hcl x hx
          · exact hbc
        cases s with
        | nil =>
          have e := hokt rfl
          simp only [List.length_nil] at H
          refine mCall [2, 1] [] ((take_none γ es b.k)) H ?_; clear H; intro a w H; try refine wpList_nil ?_
          refine mW ?_; clear H; intro a w H
          refine mC H (fun hb => ?_) (fun hb => ?_)
          · clear hb
            rw [if_neg (by rw [e]; decide)]
            refine mW ?_; clear H; intro a w H
            refine wp_ret ?_; exact mEnd [] [] [.tmp 2] [_] hN hR H
          · exact absurd hb (by decide)
        | cons d s =>
          simp only [List.length_cons] at H hsl
          by_cases hk2 : b.k = 2
          · have hd6 := hsd d List.mem_cons_self
            have ht := take_in γ s.length d es hst.l hst.get (by omega) (by omega)
            rw [hk2] at H hokt hrun2
            rw [takeD_cons, if_pos rfl] at hokt hrun2
            refine mCall [2, 1] [] (ht) H ?_; clear H; intro a w H; try refine wpList_nil ?_
            by_cases hlt2 : d < 256
            · have hr2 := hrun2 (decide_eq_true hlt2)
              rw [decide_eq_true hlt2] at H
              refine mW ?_; clear H; intro a w H
              refine mC H (fun hb => ?_) (fun hb => ?_)
              · exact absurd hb (by decide)
              · clear hb
                refine mW ?_; clear H; intro a w H
                rw [show (k : Int) + 1 = ((k + 1 : Nat) : Int) by omega] at H
                exact ⟨(k + 1, γ + 1, es.take s.length ++ [.v (.int .i64 ((d + 1 : Nat) : Int)), .v (.int .i64 ((d + 1 : Nat) : Int))], (d + 1) :: (d + 1) :: s), ⟨hlt, hst.push, hr2, hcl2⟩, by dsimp only; omega, H.to 3 0 ⟨Nat.le_trans hN (Nat.le_of_ble_eq_true rfl), Nat.le_trans hR (Nat.zero_le _)⟩ ⟨rfl, rfl, rfl, rfl, rfl, trivial⟩ rfl rfl rfl rfl rfl⟩
            · have e := hokt (decide_eq_false hlt2)
              rw [decide_eq_false hlt2] at H
              refine mW ?_; clear H; intro a w H
              refine mC H (fun hb => ?_) (fun hb => ?_)
              · clear hb
                rw [if_neg (by rw [e]; decide)]
                refine mW ?_; clear H; intro a w H
                refine wp_ret ?_; exact mEnd [] [] [.tmp 2] [_] hN hR H
              · exact absurd hb (by decide)
          · rw [takeD_cons, if_neg hk2] at hokt hrun2
            have hr2 := hrun2 rfl
            refine mCall [2, 1] [] ((take_pop γ s.length d es b.k hk2 hst.l hst.get (by omega))) H ?_; clear H; intro a w H; try refine wpList_nil ?_
            refine mW ?_; clear H; intro a w H
            refine mC H (fun hb => ?_) (fun hb => ?_)
            · exact absurd hb (by decide)
            · clear hb
              refine mW ?_; clear H; intro a w H
              rw [show (k : Int) + 1 = ((k + 1 : Nat) : Int) by omega] at H
              exact ⟨(k + 1, γ, es, s), ⟨hlt, hst.pop, hr2, hcl2⟩, by dsimp only; omega, H.to 3 0 ⟨Nat.le_trans hN (Nat.le_of_ble_eq_true rfl), Nat.le_trans hR (Nat.zero_le _)⟩ ⟨rfl, rfl, rfl, rfl, rfl, trivial⟩ rfl rfl rfl rfl rfl⟩
    · have hge : k = p.length := by rw [decide_eq_false_iff_not] at hb; omega
      clear hb
      subst hge
      rw [List.take_length] at hrun hcl
      have e := okB_end hcl hrun
      refine mW ?_; clear H; intro a w H
      refine mC H (fun hb => ?_) (fun hb => ?_)
      · have e2 : okB p = false := by
          rw [e, decide_eq_false_iff_not]
          rw [decide_eq_true_eq] at hb; omega
        rw [if_neg (by rw [e2]; decide)]
        refine mW ?_; clear H; intro a w H
        refine wp_ret ?_; exact mEnd [] [] [.tmp 2] [_] hN hR H
      · have e2 : okB p = true := by
          rw [e, decide_eq_true_eq]
          rw [decide_eq_false_iff_not] at hb; omega
        rw [if_pos e2]
        refine mW ?_; clear H; intro a w H
        refine wp_ret ?_; exact mEnd [] [] [.tmp 2] [_] hN hR H
end Go.Proofs.Ytigmpdhnhkdeiaa
/- Bytes made in memory that may grow; and frozen. -/
namespace Go.Proofs.Ytigmpdhnhkdeiaa
open Go Go.RowKit
section
variable {P : Program} {τ : Tab} {w0 w : World} {N : Gh} {g : Gh} {st : St} {nt : Nat} {a : Act}
theorem v_mkVB {ops : Array Oper} {Q : Exit → Act → World → Prop} {rest : List Oper} {o : Oper} {t e : Nat} {i j : TI} {l k : Operand} {k1 k2 : IntKind} (m : Nat) (hτ : τ.ok P) (hi : Tab.get t τ = some i) (hid : i.d = .slc e) (hj : Tab.get e τ = some j) (hb : isByte τ e = true) (H : Rel P w0 N nt st a w)
    (h2 : (j.bytes : Int) * m ≤ 281474976710656) (h3 : m ≤ maxLen)
    (kk : ∀ a w, Rel P w0 N nt ((⟨st.t, st.bx ++ [(.vc e .sc, .vb 0 (List.replicate m 0))], st.fz, st.rw⟩ : St).put o.dst none (.vw st.bx.length 0 m)) a w → wpList P ops Q rest a w)
    (hgd : o.guard = none := by rfl) (ho : o.op = .makeSlice t l k := by rfl) (hd : okDst nt none o.dst = true := by rfl) (hl : st.ev none l = .v (.int k1 (m : Int)) := by rfl) (hk : st.ev none k = .v (.int k2 (m : Int)) := by rfl) : wpList P ops Q (o :: rest) a w := by
  obtain ⟨g, HI, hF⟩ := H
  have hd0 := (Tab.get_ok hτ hi).d
  rw [hid] at hd0
  have hjok := Tab.get_ok hτ hj
  obtain ⟨inf, z, e1, e2, e3, e4, e5⟩ := hjok.info
  obtain ⟨_, jj, hjj, hjT⟩ := isByte_ok hτ hb
  have hjs : j.ty.size = 1 := by rw [← hjok.cells, hjj.cells, hjT]; rfl
  have hzb : z.cells.toList = [B8 0] := by
    have h5 := e5 g
    have hjd : j.d = .int .u8 := by
      unfold isByte at hb; rw [hj] at hb; dsimp only at hb
      split at hb
      · assumption
      · cases hb
    rw [hjok.iz _ hjd] at h5
    exact h5.v_inv.2
  have hlv := ev_sound hF (c := none) trivial l
  rw [hl] at hlv
  have hlv := hlv.v_inv
  have hkv := ev_sound hF (c := none) trivial k
  rw [hk] at hkv
  have hkv := hkv.v_inv
  have hzs : z.cells.size = j.ty.size := by rw [← Array.length_toList]; exact (e5 ⟨fun _ _ => none, [], []⟩).size
  have hrun := run_make (P := P) w t e inf z hd0 e1 e4 k1 k2 (m : Int) (m : Int) (by omega) (by omega) (by rw [e3]; exact h2) (by simp only [maxLen] at h3; omega)
  have hcs : (madeCells z.cells (m * inf.size)).toList = (List.replicate m (0 : UInt8)).map B8 := by
    have := initCells z.cells m j.ty.size hzs
    rw [e2]; unfold madeCells; rw [this, hzb]
    simp
  obtain ⟨g', l1, I1, hx1⟩ := HI.boxG (x := ⟨w.heap.size, e, .vc e .sc, (List.replicate m (0 : UInt8)).map B8, false, 0, m, false, none⟩) (a := .vb 0 (List.replicate m 0)) (w' := w.alloc (.cells ((List.replicate m (0 : UInt8)).map B8).toArray e)) rfl (grown_alloc w _) (fun _ => ⟨rfl, .of rfl (Blk.new w e _)⟩) (fun e => by cases e) (fun e => by cases e)
    (.inr (.inr (.inl ⟨0, List.replicate m 0, [], ⟨_, rfl, rfl⟩, rfl, rfl, rfl, ⟨h3, fun e => (by cases e)⟩, by rw [List.append_nil], by simp⟩)))
  refine wpList_plain hgd fun K hK => ?_
  unfold Oper.wp
  have he : (execOp a.eval o).run P w = .ok (.value (.slice (some ⟨w.heap.size, 0, none⟩) m m)) (w.alloc (.cells ((List.replicate m (0 : UInt8)).map B8).toArray e)) := by
    obtain ⟨dst, op, ty, pos, after, gd⟩ := o
    dsimp only at ho
    subst ho
    have e9 : (madeCells z.cells (m * inf.size)) = ((List.replicate m (0 : UInt8)).map B8).toArray := by apply Array.toList_inj.1; rw [hcs]
    rw [← e9]
    simp only [execOp, hlv, hkv, Sem.run_bind, hrun, Result.andThen_ok, Sem.run_pure, Int.toNat_natCast]
  rw [he, Oper.upon_value]
  have hvw : RC g' .sc (.vw st.bx.length 0 m) [.slice (some ⟨w.heap.size, 0, none⟩) m m] := RC.vw (c := m) hx1 rfl (Nat.le_refl _) (Nat.le_refl _) h3 fun _ => ⟨rfl, .inr ⟨rfl, rfl⟩⟩
  refine hK _ _ (kk _ _ ⟨g', ?_, (hF.mono l1.1).put hd (fun _ => hvw.rv1) rfl (fun h => absurd trivial h)⟩)
  cases o.dst <;> exact I1
/-- Bytes that grow and are written no more: in a slot. -/
theorem v_frzVB (H : Rel P w0 N nt st a w) (d i : Nat) {e γ n : Nat} {l : List UInt8} (hN : N.bx.length ≤ i) (hb : st.bx[i]? = some (.vc e .sc, .vb γ l)) (hn : n ≤ l.length) (hd : find d st.t = some (none, .vw i γ n)) :
    Rel P w0 N nt ⟨nilT d (.bs (l.take n) none) st.t, st.bx, i :: st.fz, st.rw⟩ a w := by
  obtain ⟨g, HI, hF⟩ := H
  obtain ⟨y, hy, hyT, hbc⟩ := HI.br.at_ i _ _ hb
  obtain ⟨l2, ⟨e2, he2, htid⟩, hmp, hgen, hcm, hcs, hcl⟩ := hbc.vb_inv
  have hv := (hF.t _ (find_mem hd) trivial).vw_inv.vw_inv
  obtain ⟨_, y', e3, T3, A, c, hval, hy', hty', hle, hnc, hm, hxx⟩ := hv
  rw [hy] at hy'; injection hy' with hy'; subst hy'
  injection hval with hval
  obtain ⟨hcc, hA⟩ := hxx hgen
  have hval : a.tmps.getD d undef = .slice A n c := hval
  have htl : (l.take n).length = n := by rw [List.length_take]; omega
  rcases hA with ⟨ho, hA⟩ | ⟨ho, hA⟩
  · have hc0 : c = 0 := by rw [hcc]; exact hcm.2 ho
    refine ⟨g, ⟨HI.mem, HI.fr, HI.br, fun j x hj hf => List.mem_cons_of_mem _ (HI.fz j x hj hf), HI.wr, HI.wz⟩, hF.sz, hF.df, fun p hp' hg => ?_, fun p hp hg => by rcases nilT_mem hp with h | h; (subst h; exact absurd trivial hg); exact hF.u p h hg⟩
    rcases nilT_mem hp' with h | h
    · subst h
      show RV g (.bs (l.take n) none) (a.tmps.getD d undef)
      have hn0 : n = 0 := by omega
      rw [hval, hA, hn0, hc0]
      exact (RC.bs (l := []) (Nat.zero_le _) (Nat.zero_le _) (.inl rfl) (fun i hi => by cases hi)).rv1
    · exact hF.t p h hg
  · obtain ⟨g1, l1, I1, _, hro⟩ := HI.freeze hy ho hmp hN
    refine ⟨g1, I1, (hF.mono l1.1).sz, hF.df, fun p hp' hg => ?_, fun p hp hg => by rcases nilT_mem hp with h | h; (subst h; exact absurd trivial hg); exact hF.u p h hg⟩
    rcases nilT_mem hp' with h | h
    · subst h
      show RV g1 (.bs (l.take n) none) (a.tmps.getD d undef)
      rw [hval, hA]
      have := RC.bs (g := g1) (l := l.take n) (tok := none) (A := some ⟨y.blk, 0, none⟩) (c := c) (by omega) hm (.inr ⟨y.blk, 0, rfl, fun k hk => by
        rw [Nat.zero_add]
        refine hro _ _ ?_
        rw [hcs, List.getElem?_map, List.getElem_take, List.getElem?_append_left (by omega), List.getElem?_eq_getElem (by omega)]
        rfl⟩) (fun i hi => by cases hi)
      rw [htl] at this
      exact this.rv1
    · exact (hF.mono l1.1).t p h hg
end
end Go.Proofs.Ytigmpdhnhkdeiaa
/- Pointers whose raw value is known. -/
namespace Go.Proofs.Ytigmpdhnhkdeiaa
open Go Go.RowKit
/-- The raw value of a pointer into a box that was there. -/
def PtrU (N : Gh) (i : Nat) (path : List Nat) (u : Value) : Prop := ∃ (x : Bx) (o : Nat) (T : Ty), N.bx[i]? = some x ∧ x.ty.isVc = false ∧ x.ty.loc path = some (o, T) ∧ u = .pointer (some ⟨x.blk, o, none⟩)
section
variable {P : Program} {w0 w : World} {N g : Gh} {st : St} {nt : Nat} {a : Act} {i : Nat} {path : List Nat} {u : Value}
theorem PtrU.rc (hu : PtrU N i path u) (hl : N.le g) : RC g .sc (.ptr i path) [u] := by
  obtain ⟨x, o, T, h1, h2, h3, rfl⟩ := hu
  obtain ⟨x', h4, e1, _, e2⟩ := hl.bx i x h1
  rw [← (e2 (.inr h2)).1]
  exact .ptr h4 (by rw [e1]; exact h3)
end
end Go.Proofs.Ytigmpdhnhkdeiaa
/- Bits of bytes: the model's numbers and UInt8 (plain). -/
namespace Go.Proofs.Ytigmpdhnhkdeiaa
open Go Go.RowKit
theorem u8_ofInt (x : UInt8) : BitVec.ofInt 8 (x.toNat : Int) = x.toBitVec := by
  rw [BitVec.ofInt_natCast]; apply BitVec.eq_of_toNat_eq; simp
theorem u8_wrap (x : UInt8) : IntKind.u8.wrap (x.toNat : Int) = (x.toNat : Int) := by
  have := x.toNat_lt
  simp [IntKind.wrap, IntKind.bits, IntKind.signed]; omega
theorem u8_or (x y : UInt8) : bits .or .u8 (x.toNat : Int) (y.toNat : Int) = ((x ||| y).toNat : Int) := by
  show IntKind.u8.wrap ((BitVec.ofInt 8 (x.toNat : Int) ||| BitVec.ofInt 8 (y.toNat : Int)).toNat : Int) = _
  rw [u8_ofInt, u8_ofInt, show (x.toBitVec ||| y.toBitVec).toNat = (x ||| y).toNat from rfl, u8_wrap]
theorem u8_and (x y : UInt8) : bits .and .u8 (x.toNat : Int) (y.toNat : Int) = ((x &&& y).toNat : Int) := by
  show IntKind.u8.wrap ((BitVec.ofInt 8 (x.toNat : Int) &&& BitVec.ofInt 8 (y.toNat : Int)).toNat : Int) = _
  rw [u8_ofInt, u8_ofInt, show (x.toBitVec &&& y.toBitVec).toNat = (x &&& y).toNat from rfl, u8_wrap]
theorem u8_shl (k : UInt8) (s : Nat) (h : s < 8) : ((k.toNat : Int) * 2 ^ s) % 256 = ((k <<< UInt8.ofNat s).toNat : Int) := by
  rw [UInt8.toNat_shiftLeft, UInt8.toNat_ofNat', Nat.shiftLeft_eq, Nat.mod_eq_of_lt (show s % 2 ^ 8 < 8 by omega), Nat.mod_eq_of_lt (show s < 2 ^ 8 by omega), Int.natCast_emod, Int.natCast_mul, Int.natCast_pow]
  rfl
theorem u8_shr (k : UInt8) (s : Nat) (h : s < 8) : (k.toNat : Int) / 2 ^ s = ((k >>> UInt8.ofNat s).toNat : Int) := by
  rw [UInt8.toNat_shiftRight, UInt8.toNat_ofNat', Nat.shiftRight_eq_div_pow, Nat.mod_eq_of_lt (show s % 2 ^ 8 < 8 by omega), Nat.mod_eq_of_lt (show s < 2 ^ 8 by omega)]
  push_cast; rfl
theorem sh_of (i : Nat) : (if (6 - 2 * ((i : Int) % 4)).toNat ≤ 8 then (6 - 2 * ((i : Int) % 4)).toNat else 8) = 6 - 2 * (i % 4) := by
  rw [if_pos (by omega)]; omega
theorem or_shl (x k : UInt8) (i : Nat) : bits .or .u8 (x.toNat : Int) (((k.toNat : Int) * 2 ^ (if (6 - 2 * ((i : Int) % 4)).toNat ≤ 8 then (6 - 2 * ((i : Int) % 4)).toNat else 8)) % 256) = ((x ||| k <<< UInt8.ofNat (6 - 2 * (i % 4))).toNat : Int) := by
  rw [sh_of, u8_shl _ _ (by omega), u8_or]
theorem and_shr (x : UInt8) (i : Nat) : bits .and .u8 ((x.toNat : Int) / 2 ^ (if (6 - 2 * ((i : Int) % 4)).toNat ≤ 8 then (6 - 2 * ((i : Int) % 4)).toNat else 8)) 3 = (((x >>> UInt8.ofNat (6 - 2 * (i % 4))) &&& 3).toNat : Int) := by
  rw [sh_of, u8_shr _ _ (by omega)]
  exact u8_and _ 3
theorem div4 (i : Nat) : ((i : Int) / 4).toNat = i / 4 := by omega
end Go.Proofs.Ytigmpdhnhkdeiaa
/- A slice of a whole array in a box, as bytes: the box is frozen. -/
namespace Go.Proofs.Ytigmpdhnhkdeiaa
open Go Go.RowKit
section
variable {P : Program} {τ : Tab} {w0 w : World} {N : Gh} {g gS : Gh} {sq st : St} {nt : Nat} {a : Act}
theorem win_frz (HI : Inv P w0 N g st.bx st.fz st.rw w) {i m o : Nat} {path : List Nat} {T : Ty} {x : AV} {l : List UInt8} {u : Value} (hN : N.bx.length ≤ i) (hb : st.bx[i]? = some (T, x)) (hl : T.loc path = some (o, .ba m)) (hx : x.loc path = some (.ba l)) (hu : RV g (.win i path 0 m) u) :
    ∃ g', g.lex g' ∧ Inv P w0 N g' st.bx (i :: st.fz) st.rw w ∧ RV g' (.bs l none) u := by
  obtain ⟨_, y, o2, n2, c, A, hval, hy, hlo, hon, hc, hm, hA⟩ := hu.win_inv.win_inv
  injection hval with hval
  subst hval
  obtain ⟨y', hy', hty, hrc⟩ := HI.br.get hb
  obtain ⟨hyo, hym, hrc⟩ := hrc.rc (Ty.loc_grows hl)
  rw [hy] at hy'; injection hy' with hy'; subst hy'
  rw [hty, hl] at hlo
  simp only [Option.some.injEq, Prod.mk.injEq, Ty.ba.injEq] at hlo
  obtain ⟨rfl, rfl⟩ := hlo
  rw [Nat.zero_add] at hon
  subst hon
  obtain ⟨a', ha', pre, mid, post, hcs, hpre, hmid, _⟩ := hrc.lens hl
  rw [hx] at ha'; injection ha' with ha'; subst ha'
  obtain ⟨hml, rfl⟩ := hmid.ba_inv
  injection hml with hml
  obtain ⟨g', hle, I1, _, hro⟩ := HI.freeze hy hyo hym hN
  refine ⟨g', hle, I1, ?_⟩
  have hll : l.length = c := by first | exact hml | exact hml.symm
  have hA' : c = 0 ∨ A = some ⟨y.blk, o, none⟩ := hA
  have := RC.bs (g := g') (l := l) (tok := none) (A := A) (c := c) (by omega) hm (by
    rcases hA' with h | h
    · exact .inl (List.length_eq_zero_iff.1 (by omega))
    · refine .inr ⟨y.blk, o, h, fun k hk => ?_⟩
      refine hro _ _ ?_
      rw [hcs, ← hpre, List.append_assoc, List.getElem?_append_right (by omega), Nat.add_sub_cancel_left, List.getElem?_append_left (by simpa using hk), List.getElem?_map, List.getElem?_eq_getElem hk]
      rfl) (fun i hi => by cases hi)
  rw [hll] at this
  exact this.rv1
theorem v_winT (H : RelT P w0 N nt gS sq st a w) (d i m o : Nat) (path : List Nat) {T : Ty} {x : AV} {l : List UInt8} (hN : N.bx.length ≤ i) (hb : st.bx[i]? = some (T, x)) (hl : T.loc path = some (o, .ba m)) (hx : x.loc path = some (.ba l)) (hd : find d st.t = some (none, .win i path 0 m)) :
    RelT P w0 N nt gS sq ⟨nilT d (.bs l none) st.t, st.bx, i :: st.fz, st.rw⟩ a w := by
  obtain ⟨hM, hrw, hFq, hBq, g, HI, hF, hle, hbs⟩ := H
  obtain ⟨g1, l1, I1, hv⟩ := win_frz HI hN hb hl hx (hF.t _ (find_mem hd) trivial)
  have h9 := hF.mono l1.1
  refine ⟨hM, hrw, hFq, hBq, g1, I1, ⟨h9.sz, h9.df, fun p hp' hg => ?_, fun p hp hg => by rcases nilT_mem hp with h | h; (subst h; exact absurd trivial hg); exact h9.u p h hg⟩, hle.trans l1.1, hbs.trans l1.2⟩
  rcases nilT_mem hp' with h | h
  · subst h; exact hv
  · exact h9.t p h hg
end
end Go.Proofs.Ytigmpdhnhkdeiaa
/- mpack.encode, mpack.Encode. -/
namespace Go.Proofs.Ytigmpdhnhkdeiaa
open Go Go.RowKit
attribute [local irreducible] wpT
set_option maxRecDepth 20000 in
set_option maxHeartbeats 4000000 in
theorem mencode_v (p : List Br) (hp : ∀ b ∈ p, b.wf) (hl : p.length ≤ 65536) : VC Try.prog 164 [.st [.sl brT (brs p) none]] [] (.bs (encB p) none) := by
  have hpl := brs_len p
  refine mE Try.func164 ?_; intro N w0 a w hN hR H
  refine mS ?_
  have hX := @hpl
  (try refine wp_region_lit ?_); refine mN 2 hN H ?_; clear H; intro a w H
  refine wpList_nil ?_
  refine mS ?_
  (try refine wp_region_lit ?_); refine mN 3 hN H ?_; clear H; intro a w H
  (try refine wp_region_lit ?_); refine mN 3 hN H ?_; clear H; intro a w H
  rw [show ((p.length : Int) + 4 - 1) / 4 = (((p.length + 3) / 4 : Nat) : Int) by omega] at H
  refine v_mkVB (i := ti26) (j := ti5) ((p.length + 3) / 4) tab_ok rfl rfl rfl (by rfl) H (by show (1 : Int) * _ ≤ _; omega) (by unfold maxLen; omega) ?_
  clear H; intro a w H; replace H := nf H
  refine mW ?_; clear H; intro a w H
  refine v_loop (fun i : Nat => ⟨[(18, none, .v (.int .i64 (i : Int))), (17, none, .v (.int .i64 (p.length : Int))), (16, none, .sl brT (brs p) none), (3, none, .vw 1 0 ((p.length + 3) / 4)), (1, none, .ptr 0 []), (2, none, .v (.slice none 0 0))], [(.cn .sc .nl, .st [.sl brT (brs p) none]), (.vc 5 .sc, .vb 0 (packK p.length ((p.map Br.k).take i)))], [], []⟩)
    (fun i => i ≤ p.length) (fun i => p.length - i) 0 (Nat.zero_le _) (H.to 2 0 ⟨Nat.le_trans hN (Nat.le_of_ble_eq_true rfl), Nat.le_trans hR (Nat.zero_le _)⟩ ⟨rfl, rfl, rfl, rfl, rfl, rfl, trivial⟩ (by rw [List.take_zero, packK_nil]; rfl) rfl rfl rfl rfl) ?_
  clear H
  intro i a w hi H
  have hpk := packK_len p.length ((p.map Br.k).take i)
  clear hX; have hX := And.intro @hpl (@hpk)
  refine mW ?_; clear H; intro a w H
  refine mC H (fun hb => ?_) (fun hb => ?_)
  · have hlt : i < p.length := by rw [decide_eq_true_eq] at hb; omega
    clear hb
    have hg := brs_get p i hlt
    have hw := hp _ (List.getElem_mem hlt)
    have hst := packK_step (p.map Br.k) p.length i hlt
    have hgk : (p.map Br.k).getD i 0 = p[i].k := by rw [List.getD_eq_getElem?_getD, List.getElem?_map, List.getElem?_eq_getElem hlt]; rfl
    rw [hgk] at hst
    generalize packK p.length ((p.map Br.k).take i) = L at *
    generalize p[i] = b at *
    obtain ⟨v1, v2, v3⟩ := hw
    simp only [Br.av] at hg
    have hos := or_shl (L.getD (i / 4) 0) b.k i
    have hd4 := div4 i
    have hlt4 : i / 4 < (p.length + 3) / 4 := by omega
    have hr0 : 0 ≤ ((L.getD (i / 4) 0 ||| b.k <<< UInt8.ofNat (6 - 2 * (i % 4))).toNat : Int) := by omega
    have hr1 : ((L.getD (i / 4) 0 ||| b.k <<< UInt8.ofNat (6 - 2 * (i % 4))).toNat : Int) ≤ 255 := by
      have := (L.getD (i / 4) 0 ||| b.k <<< UInt8.ofNat (6 - 2 * (i % 4))).toNat_lt
      omega
    refine mS ?_
    clear hX; have hX := And.intro @hpl (And.intro @hpk (And.intro @hg (And.intro @v1 (And.intro @v2 (And.intro @v3 (And.intro @hd4 (And.intro @hos (And.intro @hlt4 (And.intro @hr0 (@hr1))))))))))
    (try refine wp_region_lit ?_); refine mN 3 hN H ?_; clear H; intro a w H
    refine mW ?_; clear H; intro a w H
    replace H := v_ref H 5 2 (Nat.le_trans hN (Nat.le_of_ble_eq_true rfl)) rfl rfl rfl
    simp only [nilT, strip, Nat.reduceEqDiff, reduceIte, List.map_cons, List.map_nil] at H
    replace H := mK [1, 2, 3, 4, 5, 16, 17, 18] 2 0 hN hR H
    repeat (first | refine wp_seq ?_ | refine wp_block ?_)
    refine v_drawZ 0 [0, 1, 2, 3, 4, 5, 6, 7, 8, 9, 10, 11, 12, 13, 14] [4, 14] [5, 6, 7, 8, 9, 10, 11] [] (by kernel_rfl) (by kernel_rfl) (by kernel_rfl) (by kernel_rfl) (by kernel_rfl) H (by rfl) ?_; clear H; intro gS H; try replace H := ntf H
    repeat' ((first | refine wpZ_q1 rfl rfl ?_ | refine wpZ_l1 rfl rfl rfl ?_ | refine wpZ_l2 rfl rfl rfl rfl rfl ?_ ?_ | refine wpZ_l3 rfl rfl rfl rfl rfl rfl rfl ?_ ?_ ?_ | refine wpZ_l4 rfl rfl rfl rfl rfl rfl rfl rfl rfl ?_ ?_ ?_ ?_) <;> ((first | (refine v_someT 1 tab_ok hN H rfl ctX ?_; clear H; intro a w H; replace H := ntf H; simp only [List.drop_succ_cons, List.drop_zero, List.drop_nil])); refine wpT_nil ?_; try dsimp only))
    all_goals (refine wpZ_nil ?_; replace H := RelT.toRel H)
    all_goals
      clear hr0 hr1
      replace H := mK [1, 2, 3, 16, 17, 18] 2 0 hN hR H
      replace H := v_fz H
      simp only [List.length_cons, List.length_nil, Nat.reduceAdd, List.filter_cons, List.filter_nil, Nat.reduceLT, Nat.lt_irrefl, decide_true, decide_false, if_true, if_false, Bool.false_eq_true] at H
      refine mW ?_; clear H; intro a w H
      rw [show (i : Int) + 1 = ((i + 1 : Nat) : Int) by omega] at H
      exact ⟨i + 1, hlt, by omega, H.to 2 0 ⟨Nat.le_trans hN (Nat.le_of_ble_eq_true rfl), Nat.le_trans hR (Nat.zero_le _)⟩ ⟨rfl, rfl, rfl, rfl, rfl, rfl, trivial⟩ (by dsimp only; rw [hst]; rfl) rfl rfl rfl rfl⟩
  · have hge : i = p.length := by rw [decide_eq_false_iff_not] at hb; omega
    clear hb
    subst hge
    rw [List.take_of_length_le (by simp)] at H hpk
    obtain ⟨E, hE⟩ : ∃ E : Nat → List UInt8, E = fun j => packK p.length (p.map Br.k) ++ ((p.take j).map Br.tail).flatten := ⟨_, rfl⟩
    have hE0 : packK p.length (p.map Br.k) = E 0 := by rw [hE]; simp
    have hEn : E p.length = encB p := by rw [hE]; unfold encB; dsimp only; rw [List.take_length]
    have hEs : ∀ j (h : j < p.length), E (j + 1) = E j ++ p[j].tail := fun j h => by
      rw [hE]; dsimp only; rw [List.take_succ_eq_append_getElem h, List.map_append, List.flatten_append, ← List.append_assoc]; simp
    have hEl : ∀ j, j ≤ p.length → (E j).length ≤ (p.length + 3) / 4 + 64 * j := fun j h => by
      induction j with
      | zero => rw [← hE0, packK_len]; omega
      | succ j ih =>
        have := ih (by omega)
        rw [hEs j (by omega), List.length_append]
        have h1 := hp _ (List.getElem_mem (show j < p.length by omega))
        have h2 : (p[j]'(by omega)).tail.length ≤ 64 := by
          unfold Br.tail
          split
          · rw [List.length_append, h1.key, h1.v]; omega
          · split
            · rw [h1.g]; omega
            · exact Nat.zero_le _
        omega
    have hE0l : (p.length + 3) / 4 = (E 0).length := by rw [← hE0, packK_len]
    rw [hE0, hE0l] at H
    clear hE hpk hE0 hE0l
    clear hX; have hX := @hpl
    refine mW ?_; clear H; intro a w H
    refine v_loop (fun i : Nat × Nat => ⟨[(41, none, .v (.int .i64 (i.1 : Int))), (40, none, .v (.int .i64 (p.length : Int))), (39, none, .sl brT (brs p) none), (3, none, .vw 1 i.2 (E i.1).length), (1, none, .ptr 0 []), (2, none, .v (.slice none 0 0))], [(.cn .sc .nl, .st [.sl brT (brs p) none]), (.vc 5 .sc, .vb i.2 (E i.1))], [], []⟩)
      (fun i => i.1 ≤ p.length) (fun i => p.length - i.1) (0, 0) (Nat.zero_le _) (H.to 2 0 ⟨Nat.le_trans hN (Nat.le_of_ble_eq_true rfl), Nat.le_trans hR (Nat.zero_le _)⟩ ⟨rfl, rfl, rfl, rfl, rfl, rfl, trivial⟩ rfl rfl rfl rfl rfl) ?_
    clear H
    rintro ⟨j, γ⟩ a w hj H
    dsimp only at hj H
    have hjl := hEl j hj
    have hEj := fun h => hEs j h
    refine mW ?_; clear H; intro a w H
    refine mC H (fun hb => ?_) (fun hb => ?_)
    · have hlt : j < p.length := by rw [decide_eq_true_eq] at hb; omega
      clear hb
      have hg := brs_get p j hlt
      have hw := hp _ (List.getElem_mem hlt)
      have hEj := hEj hlt
      generalize p[j] = b at *
      obtain ⟨v1, v2, v3⟩ := hw
      simp only [Br.av] at hg
      have k1 : decide ((b.k.toNat : Int) = 1) = decide (b.k = 1) := kz b.k 1 (by decide)
      have k3 : decide ((b.k.toNat : Int) = 3) = decide (b.k = 3) := kz b.k 3 (by decide)
      generalize hEg : E j = M at *
      have tk1 : List.take 32 b.key = b.key := List.take_of_length_le (by omega)
      have tkg : List.take 32 b.g = b.g := List.take_of_length_le (by omega)
      refine mS ?_
      clear hX; have hX := And.intro @hpl (And.intro @hg (And.intro @v1 (And.intro @v2 (@v3))))
      (try refine wp_region_lit ?_); refine mN 2 hN H ?_; clear H; intro a w H
      refine mW ?_; clear H; intro a w H
      replace H := mK [1, 2, 3, 7, 39, 40, 41, 46, 47] 3 0 hN hR H
      refine mC H (fun hb => ?_) (fun hb => ?_)
      · rw [k1, decide_eq_true_eq] at hb
        have ht : b.tail = b.key ++ b.v := by unfold Br.tail; rw [if_pos hb]
        rw [ht] at hEj
        clear hb
        refine mS ?_; refine mD 0 [3, 6] [4, 5] H ?_; clear H; intro gS H
        refine mTN 3 hN H ?_; clear H; intro a w H; simp only [List.drop_succ_cons, List.drop_zero, List.drop_nil]
        refine mTN 1 hN H ?_; clear H; intro a w H; simp only [List.drop_succ_cons, List.drop_zero, List.drop_nil]
        refine mTN 2 hN H ?_; clear H; intro a w H; simp only [List.drop_succ_cons, List.drop_zero, List.drop_nil]
        replace H := v_winT H 54 2 32 _ [2] (Nat.le_trans hN (Nat.le_of_ble_eq_true rfl)) rfl rfl rfl rfl
        simp only [nilT, Nat.reduceEqDiff, reduceIte] at H
        refine mT ?_; clear H; intro a w H
        refine v_drawNil H ?_; clear H; intro H
        rw [tk1, show List.take (M.length + b.key.length) (M ++ b.key) = M ++ b.key from List.take_of_length_le (by simp), List.append_assoc, ← hEj, show M.length + b.key.length + 32 = (E (j + 1)).length by rw [hEj, List.length_append, List.length_append, v2]; omega] at H
        replace H := mK [1, 2, 3, 39, 40, 41] 2 0 hN hR H
        replace H := v_fz H
        simp only [List.length_cons, List.length_nil, Nat.reduceAdd, List.filter_cons, List.filter_nil, Nat.reduceLT, Nat.lt_irrefl, decide_true, decide_false, if_true, if_false, Bool.false_eq_true] at H
        clear hX; have hX := @hpl
        refine mW ?_; clear H; intro a w H
        rw [show (j : Int) + 1 = ((j + 1 : Nat) : Int) by omega] at H
        exact ⟨(j + 1, γ + 1 + 1), hlt, by dsimp only; omega, H.to 2 0 ⟨Nat.le_trans hN (Nat.le_of_ble_eq_true rfl), Nat.le_trans hR (Nat.zero_le _)⟩ ⟨rfl, rfl, rfl, rfl, rfl, rfl, trivial⟩ rfl rfl rfl rfl rfl⟩
      · rw [k1, decide_eq_false_iff_not] at hb
        have hk1 := hb
        clear hb
        clear hX; have hX := @hpl
        refine mW ?_; clear H; intro a w H
        refine mC H (fun hb => ?_) (fun hb => ?_)
        · rw [k3, decide_eq_true_eq] at hb
          have ht : b.tail = b.g := by unfold Br.tail; rw [if_neg hk1, if_pos hb]
          rw [ht] at hEj
          clear hb
          refine mW ?_; clear H; intro a w H
          rw [tkg, ← hEj, show M.length + b.g.length = (E (j + 1)).length by rw [hEj, List.length_append]] at H
          replace H := mK [1, 2, 3, 39, 40, 41] 2 0 hN hR H
          replace H := v_fz H
          simp only [List.length_cons, List.length_nil, Nat.reduceAdd, List.filter_cons, List.filter_nil, Nat.reduceLT, Nat.lt_irrefl, decide_true, decide_false, if_true, if_false, Bool.false_eq_true] at H
          rw [show (j : Int) + 1 = ((j + 1 : Nat) : Int) by omega] at H
          exact ⟨(j + 1, γ + 1), hlt, by dsimp only; omega, H.to 2 0 ⟨Nat.le_trans hN (Nat.le_of_ble_eq_true rfl), Nat.le_trans hR (Nat.zero_le _)⟩ ⟨rfl, rfl, rfl, rfl, rfl, rfl, trivial⟩ rfl rfl rfl rfl rfl⟩
        · rw [k3, decide_eq_false_iff_not] at hb
          have ht : b.tail = [] := by unfold Br.tail; rw [if_neg hk1, if_neg hb]
          rw [ht, List.append_nil] at hEj
          clear hb
          rw [← hEj] at H
          replace H := mK [1, 2, 3, 39, 40, 41] 2 0 hN hR H
          replace H := v_fz H
          simp only [List.length_cons, List.length_nil, Nat.reduceAdd, List.filter_cons, List.filter_nil, Nat.reduceLT, Nat.lt_irrefl, decide_true, decide_false, if_true, if_false, Bool.false_eq_true] at H
          refine mW ?_; clear H; intro a w H
          rw [show (j : Int) + 1 = ((j + 1 : Nat) : Int) by omega] at H
          exact ⟨(j + 1, γ), hlt, by dsimp only; omega, H.to 2 0 ⟨Nat.le_trans hN (Nat.le_of_ble_eq_true rfl), Nat.le_trans hR (Nat.zero_le _)⟩ ⟨rfl, rfl, rfl, rfl, rfl, rfl, trivial⟩ rfl rfl rfl rfl rfl⟩
    · have hge : j = p.length := by rw [decide_eq_false_iff_not] at hb; omega
      clear hb
      subst hge
      rw [hEn] at H
      refine mW ?_; clear H; intro a w H
      replace H := v_frzVB H 2 1 (Nat.le_trans hN (Nat.le_of_ble_eq_true rfl)) rfl (Nat.le_refl _) rfl
      simp only [nilT, Nat.reduceEqDiff, reduceIte, List.take_length] at H
      refine wp_ret ?_; exact mEnd [] [] [.tmp 2] [_] hN hR H
set_option maxRecDepth 20000 in
theorem mpenc_v (p : List Br) (hp : ∀ b ∈ p, b.wf) (hl : p.length ≤ 34359730000) : VC Try.prog 99 [.st [.sl brT (brs p) none]] [] (.tup [if chkB p = 0 then .bs (encB p) none else .v (.slice none 0 0), errv (chkB p)]) := by
  have hpl := brs_len p
  have hc := mcheck_v p hp hl
  by_cases h0 : chkB p = 0
  · have hle : p.length ≤ 65536 := by
      by_cases h : p.length ≤ 65536
      · exact h
      · exfalso; unfold chkB at h0; rw [if_pos (by omega)] at h0; cases h0
    have he := mencode_v p hp hle
    rw [if_pos h0, h0]
    rw [h0] at hc
    refine mE Try.func99 ?_; intro N w0 a w hN hR H
    have hX := @hpl
    refine mW ?_; clear H; intro a w H
    refine mCall [] [] (hc) H ?_; clear H; intro a w H; try refine wpList_nil ?_
    refine mW ?_; clear H; intro a w H
    refine mC H (fun hb => ?_) (fun hb => ?_)
    · exact absurd hb (by decide)
    · clear hb
      refine mW ?_; clear H; intro a w H
      refine mCall [] [] (he) H ?_; clear H; intro a w H; try refine wpList_nil ?_
      refine mW ?_; clear H; intro a w H
      refine wp_ret ?_; exact mEnd [] [] [.tmp 2, .tmp 3] [_, _] hN hR H
  · rw [if_neg h0]
    have hd : decide (chkB p = 0) = false := decide_eq_false h0
    generalize chkB p = e at *
    refine mE Try.func99 ?_; intro N w0 a w hN hR H
    have hX := @hpl
    refine mW ?_; clear H; intro a w H
    refine mCall [] [] (hc) H ?_; clear H; intro a w H; try refine wpList_nil ?_
    refine mW ?_; clear H; intro a w H
    refine mC H (fun hb => ?_) (fun hb => ?_)
    · refine mW ?_; clear H; intro a w H
      refine wp_ret ?_; exact mEnd [] [] [.tmp 2, .tmp 3] [_, _] hN hR H
    · rw [hd] at hb; cases hb
end Go.Proofs.Ytigmpdhnhkdeiaa
/- A span as bytes: span.Encode. -/
namespace Go.Proofs.Ytigmpdhnhkdeiaa
open Go Go.RowKit
def byt2 (n : Nat) : List UInt8 := [UInt8.ofNat (n / 256), UInt8.ofNat n]
def valT (x : List UInt8) : List UInt8 := byt2 x.length ++ x
def spEB (s : Sp) : List UInt8 := byt2 s.v.length ++ (s.v.map valT).flatten ++ encB s.p
/-- Why a span may not be written. -/
def spCE (s : Sp) : Int := if 256 < s.v.length then 4 else if s.v.all (fun x => decide (x.length ≤ 1024)) then chkB s.p else 4
theorem encB_le {p : List Br} (hp : ∀ b ∈ p, b.wf) : (encB p).length ≤ (p.length + 3) / 4 + 64 * p.length := by
  rw [encB_len]
  have : ((p.map Br.tail).flatten).length ≤ 64 * p.length := by
    induction p with
    | nil => simp
    | cons b p ih =>
      have h1 := ih fun x hx => hp x (List.mem_cons_of_mem _ hx)
      have h2 := hp b List.mem_cons_self
      have h3 : b.tail.length ≤ 64 := by
        unfold Br.tail
        split
        · rw [List.length_append, h2.key, h2.v]; omega
        · split
          · rw [h2.g]; omega
          · exact Nat.zero_le _
      simp only [List.map_cons, List.flatten_cons, List.length_append, List.length_cons]
      omega
  omega
attribute [local irreducible] wpT
set_option maxRecDepth 20000 in
set_option maxHeartbeats 2000000 in
theorem spenc_v (s : Sp) (hs : s.wf) : VC Try.prog 15 [.st [.sl brT (brs s.p) none, .sl .sc (bss s.v) none]] (if spCE s = 0 then [(5, (spEB s).length)] else [])
    (.tup [if spCE s = 0 then .bs (spEB s) (some 0) else .v (.slice none 0 0), errv (spCE s)]) := by
  obtain ⟨p, v⟩ := s
  obtain ⟨hp, lp, lv, hv⟩ := hs
  dsimp only at hp lp lv hv ⊢
  have hpl := brs_len p
  have hvl := bss_len v
  have hm := mpenc_v p hp (by omega)
  have hel := encB_le hp
  by_cases h256 : 256 < v.length
  · have e : spCE ⟨p, v⟩ = 4 := by unfold spCE; rw [if_pos h256]
    rw [e, if_neg (by decide), if_neg (by decide)]
    have hd : decide ((256 : Int) < (v.length : Int)) = true := decide_eq_true (by omega)
    refine mE Try.func15 ?_; intro N w0 a w hN hR H
    have hX := And.intro @hpl (@hvl)
    refine mW ?_; clear H; intro a w H
    refine mC H (fun hb => ?_) (fun hb => ?_)
    · refine mW ?_; clear H; intro a w H
      refine wp_ret ?_; exact mEnd [] [] [.tmp 2, .tmp 3] [_, _] hN hR H
    · rw [hd] at hb; cases hb
  · have hpt := put16_v v.length (by omega)
    have hsp0 : spCE ⟨p, v⟩ = if v.all (fun x => decide (x.length ≤ 1024)) then chkB p else 4 := by unfold spCE; rw [if_neg h256]
    have hlong : ∀ k (h : k < v.length), ¬ v[k].length ≤ 1024 → spCE ⟨p, v⟩ = 4 := fun k h h2 => by
      rw [hsp0, if_neg]
      intro h3
      rw [List.all_eq_true] at h3
      have := h3 _ (List.getElem_mem h)
      rw [decide_eq_true_eq] at this; exact h2 this
    have hd : decide ((256 : Int) < (v.length : Int)) = false := decide_eq_false (by omega)
    refine mE Try.func15 ?_; intro N w0 a w hN hR H
    have hX := And.intro @hpl (@hvl)
    refine mW ?_; clear H; intro a w H
    refine mC H (fun hb => ?_) (fun hb => ?_)
    · rw [hd] at hb; cases hb
    · clear hb
      refine mW ?_; clear H; intro a w H
      refine mCall [] [] (hpt) H ?_; clear H; intro a w H; try refine wpList_nil ?_
      refine mW ?_; clear H; intro a w H
      obtain ⟨E, hE⟩ : ∃ E : Nat → List UInt8, E = fun k => byt2 v.length ++ ((v.take k).map valT).flatten := ⟨_, rfl⟩
      have hE0 : [UInt8.ofNat (v.length / 256), UInt8.ofNat v.length] = E 0 := by rw [hE]; simp [byt2]
      have hEn : E v.length = byt2 v.length ++ (v.map valT).flatten := by rw [hE]; dsimp only; rw [List.take_length]
      have hEs : ∀ k (h : k < v.length), E (k + 1) = E k ++ byt2 v[k].length ++ v[k] := fun k h => by
        rw [hE]; dsimp only; rw [List.take_succ_eq_append_getElem h, List.map_append, List.flatten_append]
        simp [valT]
      have hEl : ∀ k, k ≤ v.length → (∀ x ∈ v.take k, x.length ≤ 1024) → (E k).length ≤ 2 + 1026 * k := fun k h h2 => by
        induction k with
        | zero => rw [← hE0]; simp
        | succ k ih =>
          have h3 : v.take (k + 1) = v.take k ++ [v[k]] := List.take_succ_eq_append_getElem h
          have := ih (by omega) fun x hx => h2 x (by rw [h3]; exact List.mem_append_left _ hx)
          have h4 := h2 v[k] (by rw [h3]; exact List.mem_append_right _ (List.mem_singleton.2 rfl))
          rw [hEs k h, List.length_append, List.length_append, show (byt2 v[k].length).length = 2 from rfl]
          omega
      rw [hE0] at H
      have hE0l : (E 0).length = 2 := by rw [← hE0]; rfl
      clear hE hE0
      refine v_loop (fun k : Nat => ⟨[(26, none, .v (.int .i64 (k : Int))), (25, none, .v (.int .i64 (v.length : Int))), (24, none, .sl .sc (bss v) none), (4, none, .bs (E k) (some 0)), (1, none, .ptr 0 []), (2, none, .v (.slice none 0 0)), (3, none, .v (.int .i64 0))], [(.cn .sc (.cn .sc .nl), .st [.sl brT (brs p) none, .sl .sc (bss v) none])], [], [(5, (E k).length)]⟩)
        (fun k => k ≤ v.length ∧ ∀ x ∈ v.take k, x.length ≤ 1024) (fun k => v.length - k) 0 ⟨Nat.zero_le _, fun x hx => by simp at hx⟩ (H.to 1 1 ⟨Nat.le_trans hN (Nat.zero_le _), Nat.le_trans hR (Nat.zero_le _)⟩ ⟨rfl, rfl, rfl, rfl, rfl, rfl, rfl, trivial⟩ rfl (by rw [hE0l]; rfl) rfl rfl rfl) ?_
      clear H
      rintro k a w ⟨hk, hal⟩ H
      have hEk := hEl k hk hal
      refine mW ?_; clear H; intro a w H
      refine mC H (fun hb => ?_) (fun hb => ?_)
      · have hlt : k < v.length := by rw [decide_eq_true_eq] at hb; omega
        clear hb
        have hg := bss_get v k hlt
        have hlong := hlong k hlt
        have hEs := hEs k hlt
        have htk : v.take (k + 1) = v.take k ++ [v[k]] := List.take_succ_eq_append_getElem hlt
        have hvk := hv _ (List.getElem_mem hlt)
        generalize v[k] = x at *
        refine mS ?_
        clear hX; have hX := And.intro @hpl (And.intro @hvl (@hg))
        (try refine wp_region_lit ?_); refine mN 2 hN H ?_; clear H; intro a w H
        refine mW ?_; clear H; intro a w H
        refine mC H (fun hb => ?_) (fun hb => ?_)
        · rw [decide_eq_true_eq] at hb
          have e := hlong (by omega)
          rw [e, if_neg (by decide), if_neg (by decide)]
          clear hb hvk
          refine mW ?_; clear H; intro a w H
          refine wp_ret ?_; exact mEnd [] [] [.tmp 2, .tmp 3] [_, _] hN hR H
        · rw [decide_eq_false_iff_not] at hb
          have hx : x.length ≤ 1024 := by omega
          have hpx := put16_v x.length (by omega)
          clear hb hlong
          refine mW ?_; clear H; intro a w H
          refine mCall [] [] (hpx) H ?_; clear H; intro a w H; try refine wpList_nil ?_
          refine mW ?_; clear H; intro a w H
          rw [show E k ++ [UInt8.ofNat (x.length / 256), UInt8.ofNat x.length] ++ x = E (k + 1) from hEs.symm] at H
          rw [show (E k).length + 2 + x.length = (E (k + 1)).length by rw [hEs, List.length_append, List.length_append]; rfl, show (k : Int) + 1 = ((k + 1 : Nat) : Int) by omega] at H
          exact ⟨k + 1, ⟨hlt, fun y hy => by
            rw [htk, List.mem_append, List.mem_singleton] at hy
            rcases hy with hy | rfl
            · exact hal y hy
            · exact hx⟩, by omega, H.to 1 1 ⟨Nat.le_trans hN (Nat.zero_le _), Nat.le_trans hR (Nat.zero_le _)⟩ ⟨rfl, rfl, rfl, rfl, rfl, rfl, rfl, trivial⟩ rfl rfl rfl rfl rfl⟩
      · have hge : k = v.length := by rw [decide_eq_false_iff_not] at hb; omega
        clear hb
        subst hge
        rw [List.take_length] at hal
        have hsp : spCE ⟨p, v⟩ = chkB p := by
          rw [hsp0, if_pos]
          rw [List.all_eq_true]; intro x hx; rw [decide_eq_true_eq]; exact hal x hx
        rw [hsp]
        by_cases h0 : chkB p = 0
        · rw [h0, if_pos rfl] at hm
          rw [h0, if_pos rfl, if_pos rfl]
          have hEB : spEB ⟨p, v⟩ = E v.length ++ encB p := by rw [hEn]; rfl
          rw [hEB, List.length_append]
          refine mW ?_; clear H; intro a w H
          refine mCall [] [] (hm) H ?_; clear H; intro a w H; try refine wpList_nil ?_
          refine mW ?_; clear H; intro a w H
          refine mC H (fun hb => ?_) (fun hb => ?_)
          · exact absurd hb (by decide)
          · clear hb
            refine mW ?_; clear H; intro a w H
            refine wp_ret ?_; exact mEnd [] [0] [.tmp 2, .tmp 3] [_, _] hN hR H
        · rw [if_neg h0] at hm
          rw [if_neg h0, if_neg h0]
          have hd0 : decide (chkB p = 0) = false := decide_eq_false h0
          generalize chkB p = e at *
          refine mW ?_; clear H; intro a w H
          refine mCall [] [] (hm) H ?_; clear H; intro a w H; try refine wpList_nil ?_
          refine mW ?_; clear H; intro a w H
          refine mC H (fun hb => ?_) (fun hb => ?_)
          · refine mW ?_; clear H; intro a w H
            refine wp_ret ?_; exact mEnd [] [] [.tmp 2, .tmp 3] [_, _] hN hR H
          · rw [hd0] at hb; cases hb
end Go.Proofs.Ytigmpdhnhkdeiaa
/- ref21.Tree, kinds, Check. -/
namespace Go.Proofs.Ytigmpdhnhkdeiaa
open Go Go.RowKit
/-- How far a tree of kinds goes. -/
def treeN (ks : List UInt8) (f d i : Nat) : Int := match trK f d (ks.drop i) with
  | none => -1
  | some r => ((ks.length - r.length : Nat) : Int)
theorem treeN_end (ks : List UInt8) (f d i : Nat) (h : ks.length ≤ i) : treeN ks f d i = -1 := by
  unfold treeN; rw [List.drop_eq_nil_of_le h]; cases f <;> rfl
theorem treeN_one (ks : List UInt8) (f d i : Nat) (h : i < ks.length) (hk : ks[i] ≠ 2) : treeN ks (f + 1) d i = ((i + 1 : Nat) : Int) := by
  unfold treeN
  rw [List.drop_eq_getElem_cons h, trK, if_neg hk]
  dsimp only
  rw [List.length_drop]; omega
theorem treeN_deep (ks : List UInt8) (f d i : Nat) (h : i < ks.length) (hk : ks[i] = 2) (hd : 256 ≤ d) : treeN ks (f + 1) d i = -1 := by
  unfold treeN
  rw [List.drop_eq_getElem_cons h, trK, if_pos hk, if_pos hd]
theorem treeN_no (ks : List UInt8) (f d i : Nat) (h : i < ks.length) (hk : ks[i] = 2) (hd : ¬ 256 ≤ d) (hn : treeN ks f (d + 1) (i + 1) < 0) : treeN ks (f + 1) d i = -1 := by
  unfold treeN at hn ⊢
  rw [List.drop_eq_getElem_cons h, trK, if_pos hk, if_neg hd]
  cases hq : trK f (d + 1) (ks.drop (i + 1)) with
  | none => rfl
  | some r => rw [hq] at hn; dsimp only at hn; omega
theorem treeN_two (ks : List UInt8) (f d i : Nat) (h : i < ks.length) (hk : ks[i] = 2) (hd : ¬ 256 ≤ d) (hn : 0 ≤ treeN ks f (d + 1) (i + 1)) : ∃ j : Nat, treeN ks f (d + 1) (i + 1) = (j : Int) ∧ i < j ∧ j ≤ ks.length ∧ treeN ks (f + 1) d i = treeN ks f (d + 1) j := by
  unfold treeN at hn ⊢
  rw [List.drop_eq_getElem_cons h, trK, if_pos hk, if_neg hd]
  cases hq : trK f (d + 1) (ks.drop (i + 1)) with
  | none => rw [hq] at hn; dsimp only at hn; omega
  | some r =>
    obtain ⟨n, h1, h2, h3⟩ := trK_drop _ _ _ _ hq
    rw [List.length_drop] at h2
    refine ⟨ks.length - r.length, rfl, by omega, by omega, ?_⟩
    have e : ks.drop (ks.length - r.length) = r := by
      rw [List.drop_drop] at h3
      rw [h3, List.length_drop]
      congr 1; omega
    rw [e]; rfl
set_option maxRecDepth 20000 in
theorem tree_v (ks : List UInt8) (hl : ks.length ≤ 1000000) : ∀ (f d i : Nat), f + d = 257 → i ≤ ks.length → VC Try.prog 220 [.bs ks none, .v (.int .i64 (i : Int)), .v (.int .i64 (d : Int))] [] (.v (.int .i64 (treeN ks f d i))) := by
  intro f
  induction f with
  | zero =>
    intro d i hfd hi
    have e : treeN ks 0 d i = -1 := by unfold treeN; rfl
    rw [e]
    have e2 : decide ((256 : Int) < (d : Int)) = true := decide_eq_true (by omega)
    by_cases hlt : i < ks.length
    · have e1 : decide ((ks.length : Int) ≤ (i : Int)) = false := decide_eq_false (by omega)
      refine mE Try.func220 ?_; intro N w0 a w hN hR H
      have hX := And.intro @e1 (@e2)
      refine mW ?_; clear H; intro a w H
      refine mC H (fun hb => ?_) (fun hb => ?_)
      · clear hb
        refine mW ?_; clear H; intro a w H
        refine wp_ret ?_; exact mEnd [] [] [.tmp 6] [_] hN hR H
      · exact absurd hb (by decide)
    · have e1 : decide ((ks.length : Int) ≤ (i : Int)) = true := decide_eq_true (by omega)
      refine mE Try.func220 ?_; intro N w0 a w hN hR H
      have hX := And.intro @e1 (@e2)
      refine mW ?_; clear H; intro a w H
      refine mC H (fun hb => ?_) (fun hb => ?_)
      · clear hb
        refine mW ?_; clear H; intro a w H
        refine wp_ret ?_; exact mEnd [] [] [.tmp 6] [_] hN hR H
      · exact absurd hb (by decide)
  | succ f ih =>
    intro d i hfd hi
    have e2 : decide ((256 : Int) < (d : Int)) = false := decide_eq_false (by omega)
    by_cases hlt : i < ks.length
    · have e1 : decide ((ks.length : Int) ≤ (i : Int)) = false := decide_eq_false (by omega)
      have hg : ks.getD i 0 = ks[i] := by rw [List.getD_eq_getElem?_getD, List.getElem?_eq_getElem hlt]; rfl
      have t1 := treeN_one ks f d i hlt
      have t2 := treeN_deep ks f d i hlt
      have t3 := treeN_no ks f d i hlt
      have t4 := treeN_two ks f d i hlt
      generalize ks[i] = k at *
      have k2 : decide ((k.toNat : Int) = 2) = decide (k = 2) := kz k 2 (by decide)
      by_cases hk : k = 2
      · subst hk
        by_cases hd : 256 ≤ d
        · rw [t2 rfl hd]
          have e3 : decide ((255 : Int) < (d : Int)) = true := decide_eq_true (by omega)
          refine mE Try.func220 ?_; intro N w0 a w hN hR H
          have hX := And.intro @e1 (And.intro @e2 (And.intro @e3 (@hg)))
          refine mW ?_; clear H; intro a w H
          refine mC H (fun hb => ?_) (fun hb => ?_)
          · clear hb
            refine mW ?_; clear H; intro a w H
            refine wp_ret ?_; exact mEnd [] [] [.tmp 6] [_] hN hR H
          · exact absurd hb (by decide)
        · have e3 : decide ((255 : Int) < (d : Int)) = false := decide_eq_false (by omega)
          have c1 := ih (d + 1) (i + 1) (by omega) (by omega)
          rw [show ((d + 1 : Nat) : Int) = (d : Int) + 1 by omega, show ((i + 1 : Nat) : Int) = (i : Int) + 1 by omega] at c1
          by_cases hn : treeN ks f (d + 1) (i + 1) < 0
          · have e4 : decide (treeN ks f (d + 1) (i + 1) < 0) = true := decide_eq_true hn
            rw [t3 rfl hd hn]
            clear hn t1 t2 t3 t4
            generalize treeN ks f (d + 1) (i + 1) = q at *
            refine mE Try.func220 ?_; intro N w0 a w hN hR H
            have hX := And.intro @e1 (And.intro @e2 (And.intro @e3 (@hg)))
            refine mW ?_; clear H; intro a w H
            refine mC H (fun hb => ?_) (fun hb => ?_)
            · exact absurd hb (by decide)
            · clear hb
              refine mW ?_; clear H; intro a w H
              refine mC H (fun hb => ?_) (fun hb => ?_)
              · exact absurd hb (by decide)
              · clear hb
                refine mW ?_; clear H; intro a w H
                refine mCall [] [] (c1) H ?_; clear H; intro a w H; try refine wpList_nil ?_
                refine mW ?_; clear H; intro a w H
                refine mC H (fun hb => ?_) (fun hb => ?_)
                · clear hb
                  refine mW ?_; clear H; intro a w H
                  refine wp_ret ?_; exact mEnd [] [] [.tmp 6] [_] hN hR H
                · rw [e4] at hb; cases hb
          · obtain ⟨j, j1, j2, j3, j4⟩ := t4 rfl hd (by omega)
            have c2 := ih (d + 1) j (by omega) j3
            rw [show ((d + 1 : Nat) : Int) = (d : Int) + 1 by omega] at c2
            rw [j4]
            rw [j1] at c1
            have e4 : decide ((j : Int) < 0) = false := decide_eq_false (by omega)
            clear hn t1 t2 t3 t4
            generalize treeN ks f (d + 1) j = q at *
            refine mE Try.func220 ?_; intro N w0 a w hN hR H
            have hX := And.intro @e1 (And.intro @e2 (And.intro @e3 (@hg)))
            refine mW ?_; clear H; intro a w H
            refine mC H (fun hb => ?_) (fun hb => ?_)
            · exact absurd hb (by decide)
            · clear hb
              refine mW ?_; clear H; intro a w H
              refine mC H (fun hb => ?_) (fun hb => ?_)
              · exact absurd hb (by decide)
              · clear hb
                refine mW ?_; clear H; intro a w H
                refine mCall [] [] (c1) H ?_; clear H; intro a w H; try refine wpList_nil ?_
                refine mW ?_; clear H; intro a w H
                refine mC H (fun hb => ?_) (fun hb => ?_)
                · rw [e4] at hb; cases hb
                · clear hb
                  refine mW ?_; clear H; intro a w H
                  refine mCall [] [] (c2) H ?_; clear H; intro a w H; try refine wpList_nil ?_
                  refine mW ?_; clear H; intro a w H
                  refine wp_ret ?_; exact mEnd [] [] [.tmp 6] [_] hN hR H
      · rw [t1 hk]
        have e3 : decide ((k.toNat : Int) = 2) = false := k2.trans (decide_eq_false hk)
        refine mE Try.func220 ?_; intro N w0 a w hN hR H
        have hX := And.intro @e1 (And.intro @e2 (And.intro @e3 (@hg)))
        refine mW ?_; clear H; intro a w H
        refine mC H (fun hb => ?_) (fun hb => ?_)
        · exact absurd hb (by decide)
        · clear hb
          refine mW ?_; clear H; intro a w H
          refine mC H (fun hb => ?_) (fun hb => ?_)
          · clear hb
            refine mW ?_; clear H; intro a w H
            rw [show (i : Int) + 1 = ((i + 1 : Nat) : Int) by omega] at H
            refine wp_ret ?_; exact mEnd [] [] [.tmp 6] [_] hN hR H
          · exact absurd hb (by decide)
    · rw [treeN_end ks _ _ _ (by omega)]
      have e1 : decide ((ks.length : Int) ≤ (i : Int)) = true := decide_eq_true (by omega)
      refine mE Try.func220 ?_; intro N w0 a w hN hR H
      have hX := And.intro @e1 (@e2)
      refine mW ?_; clear H; intro a w H
      refine mC H (fun hb => ?_) (fun hb => ?_)
      · clear hb
        refine mW ?_; clear H; intro a w H
        refine wp_ret ?_; exact mEnd [] [] [.tmp 6] [_] hN hR H
      · exact absurd hb (by decide)
end Go.Proofs.Ytigmpdhnhkdeiaa
/- ref21.kinds, ref21.Check. -/
namespace Go.Proofs.Ytigmpdhnhkdeiaa
open Go Go.RowKit
def kinds4 (x : UInt8) : List UInt8 := [kOf x 0, kOf x 1, kOf x 2, kOf x 3]
theorem kOf_mod (x : UInt8) (i r : Nat) (h : i % 4 = r % 4) : kOf x i = kOf x r := by unfold kOf; rw [h]
theorem kinds_snoc (b : List UInt8) (i : Nat) (h : i < b.length) : (kinds b).take (4 * (i + 1)) = (kinds b).take (4 * i) ++ kinds4 b[i] := by
  have hl := kinds_len b
  have g : ∀ r, r < 4 → ∃ h2 : 4 * i + r < (kinds b).length, (kinds b)[4 * i + r] = kOf b[i] r := fun r hr => by
    refine ⟨by omega, ?_⟩
    rw [kinds_get, show (4 * i + r) / 4 = i by omega, List.getD_eq_getElem?_getD, List.getElem?_eq_getElem h]
    exact kOf_mod _ _ _ (by omega)
  obtain ⟨p0, g0⟩ := g 0 (by omega)
  obtain ⟨p1, g1⟩ := g 1 (by omega)
  obtain ⟨p2, g2⟩ := g 2 (by omega)
  obtain ⟨p3, g3⟩ := g 3 (by omega)
  rw [show 4 * (i + 1) = 4 * i + 3 + 1 by omega, List.take_succ_eq_append_getElem p3, List.take_succ_eq_append_getElem p2, List.take_succ_eq_append_getElem p1, List.take_succ_eq_append_getElem (show 4 * i < _ from p0)]
  simp only [Nat.add_zero] at g0
  rw [g0, g1, g2, g3]
  simp [kinds4]
theorem k4_0 : ∀ x : UInt8, UInt8.ofNat (((x.toNat : Int) / 64) % 256).toNat = kOf x 0 := by
  have key : ∀ n : Fin 256, UInt8.ofNat ((((UInt8.ofNat n.val).toNat : Int) / 64) % 256).toNat = kOf (UInt8.ofNat n.val) 0 := by decide +kernel
  intro x; have := key ⟨x.toNat, x.toNat_lt⟩; simpa using this
theorem k4_1 : ∀ x : UInt8, UInt8.ofNat ((((x.toNat : Int) / 16) % 4) % 256).toNat = kOf x 1 := by
  have key : ∀ n : Fin 256, UInt8.ofNat (((((UInt8.ofNat n.val).toNat : Int) / 16) % 4) % 256).toNat = kOf (UInt8.ofNat n.val) 1 := by decide +kernel
  intro x; have := key ⟨x.toNat, x.toNat_lt⟩; simpa using this
theorem k4_2 : ∀ x : UInt8, UInt8.ofNat ((((x.toNat : Int) / 4) % 4) % 256).toNat = kOf x 2 := by
  have key : ∀ n : Fin 256, UInt8.ofNat (((((UInt8.ofNat n.val).toNat : Int) / 4) % 4) % 256).toNat = kOf (UInt8.ofNat n.val) 2 := by decide +kernel
  intro x; have := key ⟨x.toNat, x.toNat_lt⟩; simpa using this
theorem k4_3 : ∀ x : UInt8, UInt8.ofNat (((x.toNat : Int) % 4) % 256).toNat = kOf x 3 := by
  have key : ∀ n : Fin 256, UInt8.ofNat ((((UInt8.ofNat n.val).toNat : Int) % 4) % 256).toNat = kOf (UInt8.ofNat n.val) 3 := by decide +kernel
  intro x; have := key ⟨x.toNat, x.toNat_lt⟩; simpa using this
set_option maxRecDepth 20000 in
set_option maxHeartbeats 1000000 in
theorem kinds21_v (b : List UInt8) (hl : b.length ≤ 16000) : VC Try.prog 222 [.bs b none] [(51, 4 * b.length)] (.bs (kinds b) (some 0)) := by
  have hkl := kinds_len b
  have hkn : (kinds b).take (4 * b.length) = kinds b := List.take_of_length_le (by omega)
  refine mE Try.func222 ?_; intro N w0 a w hN hR H
  refine mS ?_
  (try refine wp_region_lit ?_); refine mN 1 hN H ?_; clear H; intro a w H
  refine mS ?_
  (try refine wp_region_lit ?_); refine mN 1 hN H ?_; clear H; intro a w H
  replace H := v_nilB tab_ok H 3 51 (j := ti51) rfl (by decide) rfl
  simp only [nilT, Nat.reduceEqDiff, reduceIte] at H
  refine mW ?_; clear H; intro a w H
  refine v_loop (fun i : Nat => ⟨[(4, none, .v (.int .i64 (i : Int))), (3, none, .bs ((kinds b).take (4 * i)) (some 0)), (0, none, .bs b none)], [], [], [(51, 4 * i)]⟩)
    (fun i => i ≤ b.length) (fun i => b.length - i) 0 (Nat.zero_le _) (H.to 0 1 ⟨hN, Nat.le_trans hR (Nat.zero_le _)⟩ ⟨rfl, rfl, rfl, trivial⟩ rfl rfl rfl rfl rfl) ?_
  clear H
  intro i a w hi H
  have htl : ((kinds b).take (4 * i)).length = 4 * i := by rw [List.length_take]; omega
  have hX := @htl
  refine mW ?_; clear H; intro a w H
  refine mC H (fun hb => ?_) (fun hb => ?_)
  · have hlt : i < b.length := by rw [decide_eq_true_eq] at hb; omega
    clear hb
    have hg : b.getD i 0 = b[i] := by rw [List.getD_eq_getElem?_getD, List.getElem?_eq_getElem hlt]; rfl
    have hs := kinds_snoc b i hlt
    generalize b[i] = x at *
    have hx : 0 ≤ (x.toNat : Int) ∧ (x.toNat : Int) ≤ 255 := by have := x.toNat_lt; omega
    clear hX; have hX := And.intro @htl (And.intro @hg (@hx))
    refine mW ?_; clear H; intro a w H
    simp only [k4_0, k4_1, k4_2, k4_3] at H
    rw [show [kOf x 0, kOf x 1, kOf x 2, kOf x 3] = kinds4 x from rfl, ← hs, show 4 * i + 4 = 4 * (i + 1) by omega, show (i : Int) + 1 = ((i + 1 : Nat) : Int) by omega] at H
    exact ⟨i + 1, hlt, by omega, H.to 0 1 ⟨hN, Nat.le_trans hR (Nat.zero_le _)⟩ ⟨rfl, rfl, rfl, trivial⟩ rfl rfl rfl rfl rfl⟩
  · have hge : i = b.length := by rw [decide_eq_false_iff_not] at hb; omega
    clear hb
    subst hge
    rw [hkn] at H
    clear hX; have hX := @hkl
    refine mW ?_; clear H; intro a w H
    refine wp_ret ?_; exact mEnd [] [0] [.tmp 2] [_] hN hR H
theorem treeN_all (ks : List UInt8) : treeN ks 257 0 0 = (ks.length : Int) ↔ trK 257 0 ks = some [] := by
  unfold treeN
  rw [List.drop_zero]
  cases h : trK 257 0 ks with
  | none => exact ⟨fun e => (by dsimp only at e; omega), fun e => by cases e⟩
  | some r =>
    obtain ⟨n, h1, h2, _⟩ := trK_drop _ _ _ _ h
    dsimp only
    constructor
    · intro e
      have : r = [] := List.length_eq_zero_iff.1 (by omega)
      rw [this]
    · intro e
      injection e with e
      subst e
      rw [List.length_nil, Nat.sub_zero]
set_option maxRecDepth 20000 in
set_option maxHeartbeats 1000000 in
theorem check21_v (p : List Br) (hp : ∀ b ∈ p, b.wf) (hl : p.length ≤ 34359730000) : VC Try.prog 165 [.st [.sl brT (brs p) none]] [] (.v (.int .i64 (chkB p))) := by
  have hpl := brs_len p
  refine mE Try.func165 ?_; intro N w0 a w hN hR H
  have hX := @hpl
  refine mW ?_; clear H; intro a w H
  refine mC H (fun hb => ?_) (fun hb => ?_)
  · rw [decide_eq_true_eq] at hb
    have e : chkB p = 4 := by unfold chkB; rw [if_pos (by omega)]
    rw [e]
    refine mW ?_; clear H; intro a w H
    refine wp_ret ?_; exact mEnd [] [] [.tmp 2] [_] hN hR H
  · rw [decide_eq_false_iff_not] at hb
    have hle : p.length ≤ 65536 := by omega
    have e : chkB p = if okB p = true then 0 else 2 := by unfold chkB; rw [if_neg (by omega)]
    rw [e]
    clear hb e
    refine mS ?_
    (try refine wp_region_lit ?_); refine mN 1 hN H ?_; clear H; intro a w H
    replace H := v_nilB tab_ok H 3 51 (j := ti51) rfl (by decide) rfl
    simp only [nilT, Nat.reduceEqDiff, reduceIte] at H
    refine mW ?_; clear H; intro a w H
    refine v_loop (fun i : Nat => ⟨[(4, none, .v (.int .i64 (i : Int))), (3, none, .bs ((p.take i).map Br.k) (some 0)), (1, none, .ptr 0 []), (2, none, .v (.int .i64 0))], [(.cn .sc .nl, .st [.sl brT (brs p) none])], [], [(51, i)]⟩)
      (fun i => i ≤ p.length ∧ ∀ b ∈ p.take i, b.clean = true) (fun i => p.length - i) 0 ⟨Nat.zero_le _, fun b hb => by simp at hb⟩ (H.to 1 1 ⟨Nat.le_trans hN (Nat.zero_le _), Nat.le_trans hR (Nat.zero_le _)⟩ ⟨rfl, rfl, rfl, rfl, trivial⟩ rfl rfl rfl rfl rfl) ?_
    clear H
    rintro i a w ⟨hi, hcl⟩ H
    have htl : ((p.take i).map Br.k).length = i := by rw [List.length_map, List.length_take]; omega
    clear hX; have hX := And.intro @hpl (@htl)
    refine mW ?_; clear H; intro a w H
    refine mC H (fun hb => ?_) (fun hb => ?_)
    · have hlt : i < p.length := by rw [decide_eq_true_eq] at hb; omega
      clear hb
      have hg := brs_get p i hlt
      have hw := hp _ (List.getElem_mem hlt)
      have hc := cleanR21_v p[i] hw
      have hokc := okB_clean hlt
      have htk : p.take (i + 1) = p.take i ++ [p[i]] := List.take_succ_eq_append_getElem hlt
      generalize p[i] = b at *
      obtain ⟨v1, v2, v3⟩ := hw
      have hkr : 0 ≤ (b.k.toNat : Int) ∧ (b.k.toNat : Int) ≤ 255 := by have := b.k.toNat_lt; omega
      simp only [Br.av] at hg hc
      refine mS ?_
      clear hX; have hX := And.intro @hpl (And.intro @htl (And.intro @hg (And.intro @v1 (And.intro @v2 (And.intro @v3 (@hkr))))))
      (try refine wp_region_lit ?_); refine mN 4 hN H ?_; clear H; intro a w H
      refine mW ?_; clear H; intro a w H
      refine mCall [] [] (hc) H ?_; clear H; intro a w H; try refine wpList_nil ?_
      cases hbc : b.clean with
      | false =>
        have e := hokc hbc
        rw [hbc] at H
        refine mW ?_; clear H; intro a w H
        refine mC H (fun hb => ?_) (fun hb => ?_)
        · clear hb
          rw [if_neg (by rw [e]; decide)]
          refine mW ?_; clear H; intro a w H
          refine wp_ret ?_; exact mEnd [] [] [.tmp 2] [_] hN hR H
        · exact absurd hb (by decide)
      | true =>
        rw [hbc] at H
        refine mW ?_; clear H; intro a w H
        refine mC H (fun hb => ?_) (fun hb => ?_)
        · exact absurd hb (by decide)
        · clear hb
          refine mS ?_
          (try refine wp_region_lit ?_); refine mN 5 hN H ?_; clear H; intro a w H
          (try refine wp_region_lit ?_); refine mN 2 hN H ?_; clear H; intro a w H
          refine mW ?_; clear H; intro a w H
          rw [show List.map Br.k (p.take i) ++ [b.k] = (p.take (i + 1)).map Br.k by rw [htk, List.map_append]; rfl, show (i : Int) + 1 = ((i + 1 : Nat) : Int) by omega] at H
          have hcl2 : ∀ x ∈ p.take (i + 1), x.clean = true := fun x hx => by
            rw [htk, List.mem_append, List.mem_singleton] at hx
            rcases hx with hx | rfl
            · exact hcl x hx
            · exact hbc
          exact ⟨i + 1, ⟨hlt, hcl2⟩, by omega, H.to 1 1 ⟨Nat.le_trans hN (Nat.zero_le _), Nat.le_trans hR (Nat.zero_le _)⟩ ⟨rfl, rfl, rfl, rfl, trivial⟩ rfl rfl rfl rfl rfl⟩
    · have hge : i = p.length := by rw [decide_eq_false_iff_not] at hb; omega
      clear hb
      subst hge
      rw [List.take_length] at H hcl htl
      have hkl : (p.map Br.k).length ≤ 1000000 := by omega
      have hall := treeN_all (p.map Br.k)
      rw [List.length_map] at hall
      have hok : okB p = decide (trK 257 0 (p.map Br.k) = some []) := by unfold okB; rw [List.all_eq_true.2 hcl, Bool.true_and]
      have ht := tree_v (p.map Br.k) hkl 257 0 0 rfl (Nat.zero_le _)
      refine mW ?_; clear H; intro a w H
      refine mCall [] [] (ht) H ?_; clear H; intro a w H; try refine wpList_nil ?_
      by_cases hq : treeN (p.map Br.k) 257 0 0 = (p.length : Int)
      · have e : okB p = true := by rw [hok, decide_eq_true_eq]; exact hall.1 hq
        rw [if_pos e]
        rw [hq] at H
        refine mW ?_; clear H; intro a w H
        refine mC H (fun hb => ?_) (fun hb => ?_)
        · exact absurd hb (by simp)
        · refine mW ?_; clear H; intro a w H
          refine wp_ret ?_; exact mEnd [] [] [.tmp 2] [_] hN hR H
      · have e : okB p = false := by rw [hok, decide_eq_false_iff_not]; exact fun h => hq (hall.2 h)
        rw [if_neg (by rw [e]; decide)]
        have hd : decide (treeN (p.map Br.k) 257 0 0 = (p.length : Int)) = false := decide_eq_false hq
        clear hq hall
        generalize treeN (p.map Br.k) 257 0 0 = q at *
        refine mW ?_; clear H; intro a w H
        refine mC H (fun hb => ?_) (fun hb => ?_)
        · refine mW ?_; clear H; intro a w H
          refine wp_ret ?_; exact mEnd [] [] [.tmp 2] [_] hN hR H
        · rw [List.length_map, hd] at hb; cases hb
end Go.Proofs.Ytigmpdhnhkdeiaa
/- ref21.Encode. -/
namespace Go.Proofs.Ytigmpdhnhkdeiaa
open Go Go.RowKit
/-- The byte of four kinds as a number, up to the k-th. -/
def vK (ks : List UInt8) (i : Nat) : Nat → Nat
  | 0 => 0
  | k + 1 => 4 * vK ks i k + (ks.getD (i + k) 0).toNat
theorem packB_v (ks : List UInt8) (hk : ∀ x ∈ ks, x.toNat < 4) (m : Nat) : UInt8.ofNat (vK ks (4 * m) 4) = packB ks m := by
  have g : ∀ j, (ks.getD j 0).toNat < 4 := fun j => by
    rw [List.getD_eq_getElem?_getD]
    cases h : ks[j]? with
    | none => decide
    | some x => exact hk x (List.mem_of_getElem? h)
  unfold packB
  rw [byK_num _ _ _ _ (g _) (g _) (g _) (g _)]
  congr 1
  simp only [vK, Nat.add_zero]
  omega
theorem vK_lt (ks : List UInt8) (hk : ∀ x ∈ ks, x.toNat < 4) (i : Nat) : ∀ k, vK ks i k < 4 ^ k
  | 0 => Nat.one_pos
  | k + 1 => by
    have h1 := vK_lt ks hk i k
    have h2 : (ks.getD (i + k) 0).toNat < 4 := by
      rw [List.getD_eq_getElem?_getD]
      cases h : ks[i + k]? with
      | none => decide
      | some x => exact hk x (List.mem_of_getElem? h)
    rw [vK, Nat.pow_succ]; omega
theorem packK_pre (n : Nat) (ks : List UInt8) : ∀ m, m ≤ (n + 3) / 4 → (packK n ks).take m = (List.range m).map (packB ks) := fun m hm => by
  unfold packK
  rw [← List.map_take, List.take_range, Nat.min_eq_left hm]
theorem packK_snoc (n : Nat) (ks : List UInt8) (m : Nat) (hm : m < (n + 3) / 4) : (packK n ks).take (m + 1) = (packK n ks).take m ++ [packB ks m] := by
  rw [packK_pre n ks _ hm, packK_pre n ks m (by omega), List.range_succ, List.map_append]; rfl
theorem okB_kinds {p : List Br} (h : okB p = true) : ∀ x ∈ p.map Br.k, x.toNat < 4 := fun x hx => by
  obtain ⟨b, hb, rfl⟩ := List.mem_map.1 hx
  unfold okB at h
  rw [Bool.and_eq_true, List.all_eq_true] at h
  rcases Br.clean_k (h.1 b hb) with e | e | e | e <;> rw [e] <;> decide
attribute [local irreducible] wpT
set_option maxRecDepth 20000 in
set_option maxHeartbeats 2000000 in
theorem enc21_v (p : List Br) (hp : ∀ b ∈ p, b.wf) (hl : p.length ≤ 34359730000) : VC Try.prog 100 [.st [.sl brT (brs p) none]] (if chkB p = 0 then [(5, (encB p).length)] else [])
    (.tup [if chkB p = 0 then .bs (encB p) (some 0) else .v (.slice none 0 0), .v (.int .i64 (chkB p))]) := by
  have hpl := brs_len p
  have hc := check21_v p hp hl
  by_cases h0 : chkB p = 0
  · have hle : p.length ≤ 65536 := by
      by_cases h : p.length ≤ 65536
      · exact h
      · exfalso; unfold chkB at h0; rw [if_pos (by omega)] at h0; cases h0
    have hok : okB p = true := by
      unfold chkB at h0
      rw [if_neg (by omega)] at h0
      split at h0
      · assumption
      · cases h0
    have hks := okB_kinds hok
    rw [if_pos h0, if_pos h0, h0]
    rw [h0] at hc
    refine mE Try.func100 ?_; intro N w0 a w hN hR H
    have hX := @hpl
    refine mW ?_; clear H; intro a w H
    refine mCall [] [] (hc) H ?_; clear H; intro a w H; try refine wpList_nil ?_
    refine mW ?_; clear H; intro a w H
    refine mC H (fun hb => ?_) (fun hb => ?_)
    · exact absurd hb (by decide)
    · clear hb
      refine mS ?_
      (try refine wp_region_lit ?_); refine mN 1 hN H ?_; clear H; intro a w H
      replace H := v_nilB tab_ok H 5 5 (j := ti5) rfl (by decide) rfl
      simp only [nilT, Nat.reduceEqDiff, reduceIte] at H
      refine mW ?_; clear H; intro a w H
      refine v_loop (fun m : Nat => ⟨[(6, none, .v (.int .i64 ((4 * m : Nat) : Int))), (5, none, .bs ((packK p.length (p.map Br.k)).take m) (some 0)), (1, none, .ptr 0 []), (2, none, .v (.slice none 0 0)), (3, none, .v (.int .i64 0))], [(.cn .sc .nl, .st [.sl brT (brs p) none])], [], [(5, m)]⟩)
        (fun m => m ≤ (p.length + 3) / 4) (fun m => (p.length + 3) / 4 - m) 0 (Nat.zero_le _) (H.to 1 1 ⟨Nat.le_trans hN (Nat.zero_le _), Nat.le_trans hR (Nat.zero_le _)⟩ ⟨rfl, rfl, rfl, rfl, rfl, trivial⟩ rfl rfl rfl rfl rfl) ?_
      clear H
      intro m a w hm H
      have htl : ((packK p.length (p.map Br.k)).take m).length = m := by rw [List.length_take, packK_len]; omega
      clear hX; have hX := And.intro @hpl (@htl)
      refine mW ?_; clear H; intro a w H
      refine mC H (fun hb => ?_) (fun hb => ?_)
      · have hlt : m < (p.length + 3) / 4 := by rw [decide_eq_true_eq] at hb; omega
        clear hb
        have hsn := packK_snoc p.length (p.map Br.k) m hlt
        have hpb := packB_v (p.map Br.k) hks m
        have hvl := vK_lt (p.map Br.k) hks (4 * m)
        refine mW ?_; clear H; intro a w H
        refine v_loop (fun k : Nat => ⟨[(8, none, .v (.int .i64 (k : Int))), (7, none, .v (.int .i64 (vK (p.map Br.k) (4 * m) k : Int))), (6, none, .v (.int .i64 ((4 * m : Nat) : Int))), (5, none, .bs ((packK p.length (p.map Br.k)).take m) (some 0)), (1, none, .ptr 0 []), (2, none, .v (.slice none 0 0)), (3, none, .v (.int .i64 0))], [(.cn .sc .nl, .st [.sl brT (brs p) none])], [], [(5, m)]⟩)
          (fun k => k ≤ 4) (fun k => 4 - k) 0 (Nat.zero_le _) (H.to 1 1 ⟨Nat.le_trans hN (Nat.zero_le _), Nat.le_trans hR (Nat.zero_le _)⟩ ⟨rfl, rfl, rfl, rfl, rfl, rfl, rfl, trivial⟩ rfl rfl rfl rfl rfl) ?_
        clear H
        intro k a w hk H
        have hV : vK (p.map Br.k) (4 * m) k ≤ 256 := by
          have h1 := hvl k
          have h2 : 4 ^ k ≤ 4 ^ 4 := Nat.pow_le_pow_right (by omega) hk
          omega
        have hvs : vK (p.map Br.k) (4 * m) (k + 1) = 4 * vK (p.map Br.k) (4 * m) k + ((p.map Br.k).getD (4 * m + k) 0).toNat := rfl
        have hidx : (((4 * m : Nat) : Int) + (k : Int)).toNat = 4 * m + k := by omega
        generalize hVe : vK (p.map Br.k) (4 * m) k = V at *
        clear hX; have hX := And.intro @hpl (And.intro @htl (@hidx))
        refine mW ?_; clear H; intro a w H
        refine mC H (fun hb => ?_) (fun hb => ?_)
        · have hlt2 : k < 4 := by rw [decide_eq_true_eq] at hb; omega
          clear hb
          refine mW ?_; clear H; intro a w H
          refine mC H (fun hb => ?_) (fun hb => ?_)
          · have hin : 4 * m + k < p.length := by rw [decide_eq_true_eq] at hb; omega
            clear hb
            have hg := brs_get p (4 * m + k) hin
            have hkg : (p.map Br.k).getD (4 * m + k) 0 = p[4 * m + k].k := by rw [List.getD_eq_getElem?_getD, List.getElem?_map, List.getElem?_eq_getElem hin]; rfl
            have hw := hp _ (List.getElem_mem hin)
            rw [hkg] at hvs
            generalize p[4 * m + k] = b at *
            obtain ⟨v1, v2, v3⟩ := hw
            have hkr : 0 ≤ (b.k.toNat : Int) ∧ (b.k.toNat : Int) ≤ 255 := by have := b.k.toNat_lt; omega
            simp only [Br.av] at hg
            refine mS ?_
            clear hX; have hX := And.intro @hpl (And.intro @htl (And.intro @hidx (And.intro @hg (And.intro @v1 (And.intro @v2 (And.intro @v3 (@hkr)))))))
            (try refine wp_region_lit ?_); refine mN 5 hN H ?_; clear H; intro a w H
            (try refine wp_region_lit ?_); refine mN 2 hN H ?_; clear H; intro a w H
            refine mW ?_; clear H; intro a w H
            rw [show 4 * (V : Int) + (b.k.toNat : Int) = ((vK (p.map Br.k) (4 * m) (k + 1) : Nat) : Int) by rw [hvs]; omega, show (k : Int) + 1 = ((k + 1 : Nat) : Int) by omega] at H
            exact ⟨k + 1, hlt2, by omega, H.to 1 1 ⟨Nat.le_trans hN (Nat.zero_le _), Nat.le_trans hR (Nat.zero_le _)⟩ ⟨rfl, rfl, rfl, rfl, rfl, rfl, rfl, trivial⟩ (by rfl) rfl rfl rfl rfl⟩
          · have hin : p.length ≤ 4 * m + k := by rw [decide_eq_false_iff_not] at hb; omega
            clear hb
            have hkg : (p.map Br.k).getD (4 * m + k) 0 = 0 := by rw [List.getD_eq_getElem?_getD, List.getElem?_eq_none (by rw [List.length_map]; exact hin)]; rfl
            rw [hkg] at hvs
            refine mW ?_; clear H; intro a w H
            rw [show 4 * (V : Int) = ((vK (p.map Br.k) (4 * m) (k + 1) : Nat) : Int) by rw [hvs]; rfl, show (k : Int) + 1 = ((k + 1 : Nat) : Int) by omega] at H
            exact ⟨k + 1, hlt2, by omega, H.to 1 1 ⟨Nat.le_trans hN (Nat.zero_le _), Nat.le_trans hR (Nat.zero_le _)⟩ ⟨rfl, rfl, rfl, rfl, rfl, rfl, rfl, trivial⟩ (by rfl) rfl rfl rfl rfl⟩
        · have hk4 : k = 4 := by rw [decide_eq_false_iff_not] at hb; omega
          clear hb
          subst hk4
          rw [hVe] at hpb
          clear hvs
          clear hX; have hX := And.intro @hpl (@htl)
          refine mW ?_; clear H; intro a w H
          rw [u8m, hpb, ← hsn, show ((4 * m : Nat) : Int) + 4 = ((4 * (m + 1) : Nat) : Int) by omega] at H
          exact ⟨m + 1, hlt, by omega, H.to 1 1 ⟨Nat.le_trans hN (Nat.zero_le _), Nat.le_trans hR (Nat.zero_le _)⟩ ⟨rfl, rfl, rfl, rfl, rfl, trivial⟩ (by rfl) rfl rfl rfl rfl⟩
      · have hge : m = (p.length + 3) / 4 := by rw [decide_eq_false_iff_not] at hb; omega
        clear hb
        have htk : (packK p.length (p.map Br.k)).take m = packK p.length (p.map Br.k) := List.take_of_length_le (by rw [packK_len]; omega)
        rw [htk] at H htl
        obtain ⟨E, hE⟩ : ∃ E : Nat → List UInt8, E = fun j => packK p.length (p.map Br.k) ++ ((p.take j).map Br.tail).flatten := ⟨_, rfl⟩
        have hE0 : packK p.length (p.map Br.k) = E 0 := by rw [hE]; simp
        have hEn : E p.length = encB p := by rw [hE]; unfold encB; dsimp only; rw [List.take_length]
        have hEs : ∀ j (h : j < p.length), E (j + 1) = E j ++ p[j].tail := fun j h => by
          rw [hE]; dsimp only; rw [List.take_succ_eq_append_getElem h, List.map_append, List.flatten_append, ← List.append_assoc]; simp
        have hEl : ∀ j, j ≤ p.length → (E j).length ≤ (p.length + 3) / 4 + 64 * j := fun j h => by
          induction j with
          | zero => rw [← hE0, packK_len]; omega
          | succ j ih =>
            have := ih (by omega)
            rw [hEs j (by omega), List.length_append]
            have h1 := hp _ (List.getElem_mem (show j < p.length by omega))
            have h2 : (p[j]'(by omega)).tail.length ≤ 64 := by
              unfold Br.tail
              split
              · rw [List.length_append, h1.key, h1.v]; omega
              · split
                · rw [h1.g]; omega
                · exact Nat.zero_le _
            omega
        have hE0l : m = (E 0).length := by rw [← hE0, packK_len]; exact hge
        rw [hE0, hE0l] at H
        clear hE htl hE0 hE0l htk
        clear hX; have hX := @hpl
        refine mW ?_; clear H; intro a w H
        refine v_loop (fun j : Nat => ⟨[(9, none, .v (.int .i64 (j : Int))), (5, none, .bs (E j) (some 0)), (1, none, .ptr 0 []), (2, none, .v (.slice none 0 0)), (3, none, .v (.int .i64 0))], [(.cn .sc .nl, .st [.sl brT (brs p) none])], [], [(5, (E j).length)]⟩)
          (fun j => j ≤ p.length) (fun j => p.length - j) 0 (Nat.zero_le _) (H.to 1 1 ⟨Nat.le_trans hN (Nat.zero_le _), Nat.le_trans hR (Nat.zero_le _)⟩ ⟨rfl, rfl, rfl, rfl, rfl, trivial⟩ rfl rfl rfl rfl rfl) ?_
        clear H
        intro j a w hj H
        have hjl := hEl j hj
        have hEj := fun h => hEs j h
        refine mW ?_; clear H; intro a w H
        refine mC H (fun hb => ?_) (fun hb => ?_)
        · have hlt : j < p.length := by rw [decide_eq_true_eq] at hb; omega
          clear hb
          have hg := brs_get p j hlt
          have hw := hp _ (List.getElem_mem hlt)
          have hEj := hEj hlt
          generalize p[j] = b at *
          obtain ⟨v1, v2, v3⟩ := hw
          simp only [Br.av] at hg
          have k1 : decide ((b.k.toNat : Int) = 1) = decide (b.k = 1) := kz b.k 1 (by decide)
          have k3 : decide ((b.k.toNat : Int) = 3) = decide (b.k = 3) := kz b.k 3 (by decide)
          have tk1 : List.take 32 b.key = b.key := List.take_of_length_le (by omega)
          have tk2 : List.take 32 b.v = b.v := List.take_of_length_le (by omega)
          have tkg : List.take 32 b.g = b.g := List.take_of_length_le (by omega)
          generalize hEg : E j = M at *
          refine mS ?_
          clear hX; have hX := And.intro @hpl (And.intro @hg (And.intro @v1 (And.intro @v2 (And.intro @v3 (And.intro @tk1 (And.intro @tk2 (@tkg)))))))
          (try refine wp_region_lit ?_); refine mN 4 hN H ?_; clear H; intro a w H
          refine mW ?_; clear H; intro a w H
          refine mC H (fun hb => ?_) (fun hb => ?_)
          · rw [k1, decide_eq_true_eq] at hb
            have ht : b.tail = b.key ++ b.v := by unfold Br.tail; rw [if_pos hb]
            have hk3 : decide ((b.k.toNat : Int) = 3) = false := by rw [hb]; decide
            rw [ht] at hEj
            clear hb k3
            refine mW ?_; clear H; intro a w H
            refine mC H (fun hb => ?_) (fun hb => ?_)
            · rw [hk3] at hb; cases hb
            · clear hb
              replace H := mK [1, 2, 3, 5, 9] 1 1 hN hR H
              replace H := v_fz H
              simp only [List.length_cons, List.length_nil, Nat.reduceAdd, List.filter_cons, List.filter_nil, Nat.reduceLT, Nat.lt_irrefl, decide_true, decide_false, if_true, if_false, Bool.false_eq_true] at H
              rw [List.append_assoc, ← hEj, show M.length + 32 + 32 = (E (j + 1)).length by rw [hEj, List.length_append, List.length_append, v1, v2]] at H
              clear hX; have hX := @hpl
              refine mW ?_; clear H; intro a w H
              rw [show (j : Int) + 1 = ((j + 1 : Nat) : Int) by omega] at H
              exact ⟨j + 1, hlt, by omega, H.to 1 1 ⟨Nat.le_trans hN (Nat.zero_le _), Nat.le_trans hR (Nat.zero_le _)⟩ ⟨rfl, rfl, rfl, rfl, rfl, trivial⟩ rfl rfl rfl rfl rfl⟩
          · rw [k1, decide_eq_false_iff_not] at hb
            have hk1 := hb
            clear hb
            clear hX; have hX := @hpl
            refine mW ?_; clear H; intro a w H
            refine mC H (fun hb => ?_) (fun hb => ?_)
            · rw [k3, decide_eq_true_eq] at hb
              have ht : b.tail = b.g := by unfold Br.tail; rw [if_neg hk1, if_pos hb]
              rw [ht] at hEj
              clear hb
              refine mW ?_; clear H; intro a w H
              replace H := mK [1, 2, 3, 5, 9] 1 1 hN hR H
              replace H := v_fz H
              simp only [List.length_cons, List.length_nil, Nat.reduceAdd, List.filter_cons, List.filter_nil, Nat.reduceLT, Nat.lt_irrefl, decide_true, decide_false, if_true, if_false, Bool.false_eq_true] at H
              rw [tkg, ← hEj, show M.length + b.g.length = (E (j + 1)).length by rw [hEj, List.length_append]] at H
              rw [show (j : Int) + 1 = ((j + 1 : Nat) : Int) by omega] at H
              exact ⟨j + 1, hlt, by omega, H.to 1 1 ⟨Nat.le_trans hN (Nat.zero_le _), Nat.le_trans hR (Nat.zero_le _)⟩ ⟨rfl, rfl, rfl, rfl, rfl, trivial⟩ rfl rfl rfl rfl rfl⟩
            · rw [k3, decide_eq_false_iff_not] at hb
              have ht : b.tail = [] := by unfold Br.tail; rw [if_neg hk1, if_neg hb]
              rw [ht, List.append_nil] at hEj
              clear hb
              replace H := mK [1, 2, 3, 5, 9] 1 1 hN hR H
              replace H := v_fz H
              simp only [List.length_cons, List.length_nil, Nat.reduceAdd, List.filter_cons, List.filter_nil, Nat.reduceLT, Nat.lt_irrefl, decide_true, decide_false, if_true, if_false, Bool.false_eq_true] at H
              rw [← hEj] at H
              refine mW ?_; clear H; intro a w H
              rw [show (j : Int) + 1 = ((j + 1 : Nat) : Int) by omega] at H
              exact ⟨j + 1, hlt, by omega, H.to 1 1 ⟨Nat.le_trans hN (Nat.zero_le _), Nat.le_trans hR (Nat.zero_le _)⟩ ⟨rfl, rfl, rfl, rfl, rfl, trivial⟩ rfl rfl rfl rfl rfl⟩
        · have hge2 : j = p.length := by rw [decide_eq_false_iff_not] at hb; omega
          clear hb
          subst hge2
          rw [hEn] at H
          refine mW ?_; clear H; intro a w H
          refine wp_ret ?_; exact mEnd [] [0] [.tmp 2, .tmp 3] [_, _] hN hR H
  · rw [if_neg h0, if_neg h0]
    have hd : decide (chkB p = 0) = false := decide_eq_false h0
    generalize chkB p = e at *
    refine mE Try.func100 ?_; intro N w0 a w hN hR H
    have hX := @hpl
    refine mW ?_; clear H; intro a w H
    refine mCall [] [] (hc) H ?_; clear H; intro a w H; try refine wpList_nil ?_
    refine mW ?_; clear H; intro a w H
    refine mC H (fun hb => ?_) (fun hb => ?_)
    · refine mW ?_; clear H; intro a w H
      refine wp_ret ?_; exact mEnd [] [] [.tmp 2, .tmp 3] [_, _] hN hR H
    · rw [hd] at hb; cases hb
end Go.Proofs.Ytigmpdhnhkdeiaa
/- ref24.Encode. -/
namespace Go.Proofs.Ytigmpdhnhkdeiaa
open Go Go.RowKit
theorem u8mm (x : Nat) : UInt8.ofNat (((x : Int) % 256) % 256).toNat = UInt8.ofNat x := by rw [Int.emod_emod]; exact u8m x
theorem u8d (x : Nat) : UInt8.ofNat (((x : Int) / 256) % 256).toNat = UInt8.ofNat (x / 256) := u8n x 256
attribute [local irreducible] wpT
set_option maxRecDepth 20000 in
set_option maxHeartbeats 2000000 in
theorem enc24_v (s : Sp) (hs : s.wf) : VC Try.prog 16 [.st [.sl brT (brs s.p) none, .sl .sc (bss s.v) none]] (if spCE s = 0 then [(5, (spEB s).length)] else [])
    (.tup [if spCE s = 0 then .bs (spEB s) (some 0) else .v (.slice none 0 0), .v (.int .i64 (spCE s))]) := by
  obtain ⟨p, v⟩ := s
  obtain ⟨hp, lp, lv, hv⟩ := hs
  dsimp only at hp lp lv hv ⊢
  have hpl := brs_len p
  have hvl := bss_len v
  have hm := enc21_v p hp (by omega)
  have hel := encB_le hp
  by_cases h256 : 256 < v.length
  · have e : spCE ⟨p, v⟩ = 4 := by unfold spCE; rw [if_pos h256]
    rw [e, if_neg (by decide), if_neg (by decide)]
    have hd : decide ((256 : Int) < (v.length : Int)) = true := decide_eq_true (by omega)
    refine mE Try.func16 ?_; intro N w0 a w hN hR H
    have hX := And.intro @hpl (@hvl)
    refine mW ?_; clear H; intro a w H
    refine mC H (fun hb => ?_) (fun hb => ?_)
    · refine mW ?_; clear H; intro a w H
      refine wp_ret ?_; exact mEnd [] [] [.tmp 2, .tmp 3] [_, _] hN hR H
    · rw [hd] at hb; cases hb
  · have hpt := put16_v v.length (by omega)
    have hsp0 : spCE ⟨p, v⟩ = if v.all (fun x => decide (x.length ≤ 1024)) then chkB p else 4 := by unfold spCE; rw [if_neg h256]
    have hlong : ∀ k (h : k < v.length), ¬ v[k].length ≤ 1024 → spCE ⟨p, v⟩ = 4 := fun k h h2 => by
      rw [hsp0, if_neg]
      intro h3
      rw [List.all_eq_true] at h3
      have := h3 _ (List.getElem_mem h)
      rw [decide_eq_true_eq] at this; exact h2 this
    have hd : decide ((256 : Int) < (v.length : Int)) = false := decide_eq_false (by omega)
    refine mE Try.func16 ?_; intro N w0 a w hN hR H
    have hX := And.intro @hpl (@hvl)
    refine mW ?_; clear H; intro a w H
    refine mC H (fun hb => ?_) (fun hb => ?_)
    · rw [hd] at hb; cases hb
    · clear hb
      refine mW ?_; clear H; intro a w H
      simp only [u8d, u8mm] at H
      obtain ⟨E, hE⟩ : ∃ E : Nat → List UInt8, E = fun k => byt2 v.length ++ ((v.take k).map valT).flatten := ⟨_, rfl⟩
      have hE0 : [UInt8.ofNat (v.length / 256), UInt8.ofNat v.length] = E 0 := by rw [hE]; simp [byt2]
      have hEn : E v.length = byt2 v.length ++ (v.map valT).flatten := by rw [hE]; dsimp only; rw [List.take_length]
      have hEs : ∀ k (h : k < v.length), E (k + 1) = E k ++ byt2 v[k].length ++ v[k] := fun k h => by
        rw [hE]; dsimp only; rw [List.take_succ_eq_append_getElem h, List.map_append, List.flatten_append]
        simp [valT]
      have hEl : ∀ k, k ≤ v.length → (∀ x ∈ v.take k, x.length ≤ 1024) → (E k).length ≤ 2 + 1026 * k := fun k h h2 => by
        induction k with
        | zero => rw [← hE0]; simp
        | succ k ih =>
          have h3 : v.take (k + 1) = v.take k ++ [v[k]] := List.take_succ_eq_append_getElem h
          have := ih (by omega) fun x hx => h2 x (by rw [h3]; exact List.mem_append_left _ hx)
          have h4 := h2 v[k] (by rw [h3]; exact List.mem_append_right _ (List.mem_singleton.2 rfl))
          rw [hEs k h, List.length_append, List.length_append, show (byt2 v[k].length).length = 2 from rfl]
          omega
      rw [hE0] at H
      have hE0l : (E 0).length = 2 := by rw [← hE0]; rfl
      clear hE hE0
      refine v_loop (fun k : Nat => ⟨[(5, none, .v (.int .i64 (k : Int))), (4, none, .bs (E k) (some 0)), (1, none, .ptr 0 []), (2, none, .v (.slice none 0 0)), (3, none, .v (.int .i64 0))], [(.cn .sc (.cn .sc .nl), .st [.sl brT (brs p) none, .sl .sc (bss v) none])], [], [(5, (E k).length)]⟩)
        (fun k => k ≤ v.length ∧ ∀ x ∈ v.take k, x.length ≤ 1024) (fun k => v.length - k) 0 ⟨Nat.zero_le _, fun x hx => by simp at hx⟩ (H.to 1 1 ⟨Nat.le_trans hN (Nat.zero_le _), Nat.le_trans hR (Nat.zero_le _)⟩ ⟨rfl, rfl, rfl, rfl, rfl, trivial⟩ rfl (by rw [hE0l]; rfl) rfl rfl rfl) ?_
      clear H
      rintro k a w ⟨hk, hal⟩ H
      have hEk := hEl k hk hal
      refine mW ?_; clear H; intro a w H
      refine mC H (fun hb => ?_) (fun hb => ?_)
      · have hlt : k < v.length := by rw [decide_eq_true_eq] at hb; omega
        clear hb
        have hg := bss_get v k hlt
        have hlong := hlong k hlt
        have hEs := hEs k hlt
        have htk : v.take (k + 1) = v.take k ++ [v[k]] := List.take_succ_eq_append_getElem hlt
        have hvk := hv _ (List.getElem_mem hlt)
        generalize v[k] = x at *
        refine mS ?_
        clear hX; have hX := And.intro @hpl (And.intro @hvl (@hg))
        (try refine wp_region_lit ?_); refine mN 5 hN H ?_; clear H; intro a w H
        refine mW ?_; clear H; intro a w H
        refine mC H (fun hb => ?_) (fun hb => ?_)
        · rw [decide_eq_true_eq] at hb
          have e := hlong (by omega)
          rw [e, if_neg (by decide), if_neg (by decide)]
          clear hb hvk
          refine mW ?_; clear H; intro a w H
          refine wp_ret ?_; exact mEnd [] [] [.tmp 2, .tmp 3] [_, _] hN hR H
        · rw [decide_eq_false_iff_not] at hb
          have hx : x.length ≤ 1024 := by omega
          clear hb hlong
          refine mW ?_; clear H; intro a w H
          simp only [u8d, u8mm] at H
          rw [show E k ++ [UInt8.ofNat (x.length / 256), UInt8.ofNat x.length] ++ x = E (k + 1) from hEs.symm] at H
          rw [show (E k).length + 2 + x.length = (E (k + 1)).length by rw [hEs, List.length_append, List.length_append]; rfl, show (k : Int) + 1 = ((k + 1 : Nat) : Int) by omega] at H
          exact ⟨k + 1, ⟨hlt, fun y hy => by
            rw [htk, List.mem_append, List.mem_singleton] at hy
            rcases hy with hy | rfl
            · exact hal y hy
            · exact hx⟩, by omega, H.to 1 1 ⟨Nat.le_trans hN (Nat.zero_le _), Nat.le_trans hR (Nat.zero_le _)⟩ ⟨rfl, rfl, rfl, rfl, rfl, trivial⟩ rfl rfl rfl rfl rfl⟩
      · have hge : k = v.length := by rw [decide_eq_false_iff_not] at hb; omega
        clear hb
        subst hge
        rw [List.take_length] at hal
        have hsp : spCE ⟨p, v⟩ = chkB p := by
          rw [hsp0, if_pos]
          rw [List.all_eq_true]; intro x hx; rw [decide_eq_true_eq]; exact hal x hx
        rw [hsp]
        by_cases h0 : chkB p = 0
        · rw [h0, if_pos rfl, if_pos rfl] at hm
          rw [h0, if_pos rfl, if_pos rfl]
          have hEB : spEB ⟨p, v⟩ = E v.length ++ encB p := by rw [hEn]; rfl
          rw [hEB, List.length_append]
          refine mW ?_; clear H; intro a w H
          refine mCall [] [] (hm) H ?_; clear H; intro a w H; try refine wpList_nil ?_
          refine mW ?_; clear H; intro a w H
          refine mC H (fun hb => ?_) (fun hb => ?_)
          · exact absurd hb (by decide)
          · clear hb
            refine mW ?_; clear H; intro a w H
            refine wp_ret ?_; exact mEnd [] [0] [.tmp 2, .tmp 3] [_, _] hN hR H
        · rw [if_neg h0, if_neg h0] at hm
          rw [if_neg h0, if_neg h0]
          have hd0 : decide (chkB p = 0) = false := decide_eq_false h0
          generalize chkB p = e at *
          refine mW ?_; clear H; intro a w H
          refine mCall [] [] (hm) H ?_; clear H; intro a w H; try refine wpList_nil ?_
          refine mW ?_; clear H; intro a w H
          refine mC H (fun hb => ?_) (fun hb => ?_)
          · refine mW ?_; clear H; intro a w H
            refine wp_ret ?_; exact mEnd [] [] [.tmp 2, .tmp 3] [_, _] hN hR H
          · rw [hd0] at hb; cases hb
end Go.Proofs.Ytigmpdhnhkdeiaa
/- Boxes and rows of a frame chosen anew. -/
namespace Go.Proofs.Ytigmpdhnhkdeiaa
open Go Go.RowKit
section
variable {P : Program} {w0 w : World} {N : Gh} {g : Gh} {st : St} {nt : Nat} {a : Act}
theorem v_sel {nb nr : Nat} (js ks : List Nat) (hM : N.bx.length ≤ nb ∧ N.rw.length ≤ nr) (H : Rel P w0 N nt st a w)
    {bx' : List (Ty × AV)} {fz' : List Nat} {rw' : List (TypeId × Nat)} {t' : List (Nat × Gd × AV)}
    (hchk : (okSel js st.bx.length && okSel ks st.rw.length && usesB js st.bx && preOk js nb && preOk ks nr && st.t.all (fun p => argOk js p.2.2)) = true)
    (hf : fzOk js st.fz fz' 0 = true) (hb : bxs (pickB js ks st.bx) bx') (hw : ks.filterMap (st.rw[·]?) = rw')
    (ht : (st.t.map fun p => (p.1, p.2.1, ren (idx? js) (idx? ks) 4 p.2.2)) = t') : Rel P w0 N nt ⟨t', bx', fz', rw'⟩ a w := by
  subst ht
  obtain ⟨g, HI, hF⟩ := H
  simp only [Bool.and_eq_true] at hchk
  obtain ⟨⟨⟨⟨⟨c1, c2⟩, c3⟩, c4⟩, c5⟩, c6⟩ := hchk
  obtain ⟨hj, nj⟩ := okSel_ok c1
  obtain ⟨hk, nk⟩ := okSel_ok c2
  have hlr : g.rw.length = st.rw.length := by rw [← HI.wr, List.length_map]
  have hj' : ∀ j ∈ js, j < g.bx.length := fun j hm => by rw [HI.br.len]; exact hj j hm
  have hk' : ∀ k ∈ ks, k < g.rw.length := fun k hm => by rw [hlr]; exact hk k hm
  have p1 := fun j hj => preOk_ok c4 j (Nat.lt_of_lt_of_le hj hM.1)
  have p2 := fun j hj => preOk_ok c5 j (Nat.lt_of_lt_of_le hj hM.2)
  have hfr : Fr w0 N (g.pick js ks) w := by
    refine ⟨HI.fr.kept, fun i x hx hxo => ?_, fun i r k hr hrk => ?_, HI.fr.ro, ⟨HI.fr.le.ro, fun i x hx => ?_, fun i r hr => ?_⟩⟩
    · have hx' : (js.filterMap (g.bx[·]?))[i]? = some x := hx
      rw [pick_get hj'] at hx'
      obtain ⟨j, h1, h2⟩ := Option.bind_eq_some_iff.1 hx'
      rcases HI.fr.bx j x h2 hxo with h3 | ⟨y, h3, h4⟩
      · exact .inl h3
      · have := nodup_get nj h1 (p1 j (List.getElem?_eq_some_iff.1 h3).1); subst this
        exact .inr ⟨y, h3, h4⟩
    · have hx' : (ks.filterMap (g.rw[·]?))[i]? = some r := hr
      rw [pick_get hk'] at hx'
      obtain ⟨j, h1, h2⟩ := Option.bind_eq_some_iff.1 hx'
      rcases HI.fr.rw j r k h2 hrk with h3 | ⟨y, h3, h4⟩
      · exact .inl h3
      · have := nodup_get nk h1 (p2 j (List.getElem?_eq_some_iff.1 h3).1); subst this
        exact .inr ⟨y, h3, h4⟩
    · obtain ⟨x', h1, h2⟩ := HI.fr.le.bx i x hx
      refine ⟨x', ?_, h2⟩
      show (js.filterMap (g.bx[·]?))[i]? = _
      rw [pick_get hj', p1 i (List.getElem?_eq_some_iff.1 hx).1]; exact h1
    · obtain ⟨x', h1, h2⟩ := HI.fr.le.rw i r hr
      refine ⟨x', ?_, h2⟩
      show (ks.filterMap (g.rw[·]?))[i]? = _
      rw [pick_get hk', p2 i (List.getElem?_eq_some_iff.1 hr).1]; exact h1
  have HP : Inv P w0 N (g.pick js ks) bx' fz' rw' w := HI.pick js ks hj hk nj nk (usesB_ok c3) hb (fun i j hi hm => by simpa using fzOk_ok hf i j hi hm) hw hfr
  refine ⟨g.pick js ks, HP, hF.sz, hF.df, fun p hp hg => ?_, fun p hp hg => ?_⟩
  · obtain ⟨q, hq, rfl⟩ := List.mem_map.1 hp
    have hc := List.all_eq_true.1 c6 q hq
    simp only [argOk, Bool.and_eq_true, Bool.not_eq_true'] at hc
    have ht : ∀ az, q.2.2 ≠ .tup az := fun az e => by rw [e] at hc; simp at hc
    exact ((hF.t q hq hg).pick_ (d := 3) hj' hk' hc.1.1)
  · obtain ⟨q, hq, rfl⟩ := List.mem_map.1 hp
    exact hF.u q hq hg
theorem bxs_refl : ∀ l : List (Ty × AV), bxs l l
  | [] => trivial
  | x :: l => ⟨⟨rfl, sub_refl _ _⟩, bxs_refl l⟩
/-- The same, boxes as they are. -/
theorem v_selB {nb nr : Nat} (js ks : List Nat) (fz' : List Nat) (hM : N.bx.length ≤ nb ∧ N.rw.length ≤ nr) (H : Rel P w0 N nt st a w)
    (hchk : (okSel js st.bx.length && okSel ks st.rw.length && usesB js st.bx && preOk js nb && preOk ks nr && st.t.all (fun p => argOk js p.2.2)) = true := by rfl)
    (hf : fzOk js st.fz fz' 0 = true := by rfl) : Rel P w0 N nt ⟨st.t.map fun p => (p.1, p.2.1, ren (idx? js) (idx? ks) 4 p.2.2), pickB js ks st.bx, fz', ks.filterMap (st.rw[·]?)⟩ a w :=
  v_sel js ks hM H hchk hf (bxs_refl _) rfl rfl
end
end Go.Proofs.Ytigmpdhnhkdeiaa
