/- Keys as ways down: bits, how many are shared, what rises. In plain Lean. -/
import Derived.Test.YtigmpdhnhkdeiaaBits
import Derived.Lib.BitFns
import Derived.Lib.Bytealg
import Derived.Laws.BitsAllLaws
import Derived.Laws.Externs
import Derived.BigQuiet
import Derived.BigRegion
set_option linter.unusedSimpArgs false
set_option linter.unusedVariables false
namespace Go.Proofs.Ytigmpdhnhkdeiaa
open Go Go.RowKit
def bitN (p : List UInt8) (d : Nat) : Bool := bitAt (p.getD (d / 8) 0) (d % 8)
def pbit (p : List UInt8) (d : Int) : Int := if 0 ≤ d ∧ d < 256 then (if bitN p d.toNat then 1 else 0) else -1
def agree (d : Nat) (p q : List UInt8) : Prop := ∀ t, t < d → bitN p t = bitN q t
theorem agree.symm {d : Nat} {p q : List UInt8} (h : agree d p q) : agree d q p := fun t ht => (h t ht).symm
theorem agree.trans {d : Nat} {p q r : List UInt8} (h : agree d p q) (k : agree d q r) : agree d p r := fun t ht => (h t ht).trans (k t ht)
set_option maxRecDepth 100000 in
theorem bitAt_test8 : ∀ n : Fin 256, ∀ m : Fin 8, bitAt (UInt8.ofNat n.val) m.val = n.val.testBit (7 - m.val) := by decide +kernel
theorem bitAt_test (c : UInt8) (m : Nat) (hm : m < 8) : bitAt c m = c.toNat.testBit (7 - m) := by
  have := bitAt_test8 ⟨c.toNat, c.toNat_lt⟩ ⟨m, hm⟩
  simpa using this
/-- The lesser key, by bits. -/
def ltB (p q : List UInt8) : Prop := ∃ c, c < 256 ∧ agree c p q ∧ bitN p c = false ∧ bitN q c = true
theorem ltB.trans {p q r : List UInt8} (h : ltB p q) (k : ltB q r) : ltB p r := by
  obtain ⟨c, hc, h1, h2, h3⟩ := h
  obtain ⟨d, hd, k1, k2, k3⟩ := k
  rcases Nat.lt_trichotomy c d with hl | rfl | hg
  · exact ⟨c, hc, fun t ht => (h1 t ht).trans (k1 t (by omega)), h2, (k1 c hl) ▸ h3⟩
  · rw [h3] at k2; cases k2
  · exact ⟨d, hd, fun t ht => (h1 t (by omega)).trans (k1 t ht), (h1 d hg).trans k2, k3⟩
end Go.Proofs.Ytigmpdhnhkdeiaa
/- The marks of a walk: each is a theorem whose hypotheses are proved by tactics of their own. -/
namespace Go.Proofs.Ytigmpdhnhkdeiaa
open Go Go.RowKit
structure Bx9 (p : Prop) : Prop where
  out : p
theorem bx9k {p q : Act → World → Prop} {G2 : Prop} (k : Bx9 G2) {a : Act} {w : World} (H : p a w) (h : G2 = ∀ a w, p a w → q a w := by rfl) : q a w := (h ▸ k.out) a w H
section
variable {P : Program} {w0 w : World} {N gS : Gh} {nt : Nat} {st s2 sq q2 : St} {a : Act}
theorem nfs {s s2 : St} (h : s = s2 := by ((try simp only [List.nil_append, List.cons_append, pk, elemB, St.put, St.ev, St.tmp, St.keep, find, dropT, slots, AV.put, AV.loc, fitI, convI, IntKind.signed, IntKind.bits, strip, St.lose, mergeL, setAll, nth, renB, ren, idx?, sub, allP, low, bnd, Int.reduceEq, Int.reduceMul, Nat.reduceAdd, Nat.reduceLT, reduceIte, reduceCtorEq, Nat.reduceEqDiff, Nat.reduceLeDiff, Nat.reduceBEq, Int.reducePow, Int.reduceToNat]); (try (simp only [hX]; try simp only [List.nil_append, List.cons_append, pk, elemB, St.put, St.ev, St.tmp, St.keep, find, dropT, slots, AV.put, AV.loc, fitI, convI, IntKind.signed, IntKind.bits, strip, St.lose, mergeL, setAll, nth, renB, ren, idx?, sub, allP, low, bnd, Int.reduceEq, Int.reduceMul, Nat.reduceAdd, Nat.reduceLT, reduceIte, reduceCtorEq, Nat.reduceEqDiff, Nat.reduceLeDiff, Nat.reduceBEq, Int.reducePow, Int.reduceToNat])); rfl)) : s = s2 := h
theorem nf (H : Rel P w0 N nt st a w) (h : st = s2 := by exact nfs) : Rel P w0 N nt s2 a w := h ▸ H
theorem ntf (H : RelT P w0 N nt gS sq st a w) (h1 : sq = q2 := by exact nfs) (h : st = s2 := by exact nfs) : RelT P w0 N nt gS q2 s2 a w := h1 ▸ h ▸ H
theorem ctX {c : Prop} (h : c := by ((try simp only [hX]); (try simp only [hY]); (try simp only [List.nil_append, List.cons_append, pk, elemB, St.put, St.ev, St.tmp, St.keep, find, dropT, slots, AV.put, AV.loc, fitI, convI, IntKind.signed, IntKind.bits, strip, St.lose, mergeL, setAll, nth, renB, ren, idx?, sub, allP, low, bnd, Int.reduceEq, Int.reduceMul, Nat.reduceAdd, Nat.reduceLT, reduceIte, reduceCtorEq, Nat.reduceEqDiff, Nat.reduceLeDiff, Nat.reduceBEq, Int.reducePow, Int.reduceToNat, fit, gcond, ilo, ihi]); first | done | exact cd | exact cd2 | skip)) : c := h
theorem cbX {c : Prop} (h : c := by (first | (simp [pickB, bxs, ren, idx?, List.idxOf_cons, sub_refl, sub, allP, hX] <;> omega) | (simp [pickB, bxs, ren, idx?, List.idxOf_cons, sub_refl, sub, allP] <;> omega))) : c := h
theorem cwX {c : Prop} (h : c := by (first | rfl | (simp [hX] <;> omega) | (simp <;> omega))) : c := h
theorem caX {c : Prop} (h : c := by (first | exact trivial | exact ⟨sub_refl _ _, trivial⟩ | exact ⟨sub_refl _ _, sub_refl _ _, trivial⟩ | exact ⟨sub_refl _ _, sub_refl _ _, sub_refl _ _, trivial⟩ | exact ⟨⟨rfl, sub_refl _ _, trivial⟩, sub_refl _ _, trivial⟩ | (simp [cargs, cargsG, St.ev, St.tmp, find, ren, idx?, sub_refl, sub, allP, resv, resC, bss, hX] <;> omega) | (simp [cargs, cargsG, St.ev, St.tmp, find, ren, idx?, sub_refl, sub, allP, resv, resC, bss] <;> omega))) : c := h
theorem mS {G G2 : Prop} (g : G2) (f : Bx9 G2 → G := by (intro kk9; (repeat (first | refine wp_seq ?_ | refine wp_block ?_ | refine wp_skip ?_ | refine wp_exit ?_)); exact kk9.out)) : G := f ⟨g⟩
theorem mW {G G2 : Prop} (g : G2) (f : Bx9 G2 → G := by (intro kk9; (repeat (first | refine wp_seq ?_ | refine wp_block ?_ | refine wp_skip ?_ | refine wp_exit ?_ | ((first | refine v_some 5 tab_ok hN H (by rfl) ctX ?_ | refine v_more tab_ok hN H (by rfl) (by rfl) ctX ?_); intro a w H; replace H := nf H; (try simp only [List.drop_succ_cons, List.drop_zero, List.drop_nil]); try refine wpList_nil ?_) | refine wp_region_lit ?_)); exact bx9k kk9 H)) : G := f ⟨g⟩
theorem mT {G G2 : Prop} (g : G2) (f : Bx9 G2 → G := by (intro kk9; (repeat (refine v_someT 5 tab_ok hN H (by rfl) ctX ?_; intro a w H; replace H := ntf H; simp only [List.drop_succ_cons, List.drop_zero, List.drop_nil])); (refine v_moreT tab_ok hN H (by rfl) ctX ?_; intro a w H; try replace H := ntf H); exact bx9k kk9 H)) : G := f ⟨g⟩
theorem mN {ops : Array Oper} {Q : Exit → Act → World → Prop} {q : Nat} {l : List Oper} {c' : Prop} {st' : St} (n : Nat) (hN : N.bx.length ≤ q) (H : Rel Try.prog w0 N nt st a w) (g : ∀ a w, Rel Try.prog w0 N nt s2 a w → wpList Try.prog ops Q (l.drop n) a w)
    (h : vrun tab (some q) nt ops (l.take n) st True = (st', c', []) := by rfl) (hc : c' := by exact ctX) (hs : st' = s2 := by exact nfs) : wpList Try.prog ops Q l a w := v_steps n tab_ok hN H h hc fun a w H => g a w (hs ▸ H)
theorem mTN {ops : Array Oper} {Q : Exit → Act → World → Prop} {L A : List Nat} {q k k' : Nat} {o : Oper} {l : List Oper} {c' : Prop} {sq' st' : St} (n : Nat) (hN : N.bx.length ≤ q) (H : RelT Try.prog w0 N nt gS sq st a w) (g : ∀ a w, RelT Try.prog w0 N nt gS q2 s2 a w → wpT Try.prog ops Q (Mem gS) L A ((o :: l).drop n) k' a w)
    (h : vrunT tab (some q) nt ops L A ((o :: l).take n) k sq st True = (sq', st', c', [], k') := by rfl) (hc : c' := by exact ctX) (h1 : sq' = q2 := by exact nfs) (hs : st' = s2 := by exact nfs) : wpT Try.prog ops Q (Mem gS) L A (o :: l) k a w := v_someT n tab_ok hN H h hc fun a w H => g a w (h1 ▸ hs ▸ H)
theorem mC {Q : Exit → Act → World → Prop} {c : Operand} {x y : Code} {b : Bool} (H : Rel P w0 N nt st a w) (h1 : b = true → x.wp P Q a w) (h2 : b = false → y.wp P Q a w) (hc : st.ev none c = .v (.bool b) := by rfl) : (Code.cond c x y).wp P Q a w := v_cond H hc h1 h2
theorem mE {f : FuncId} {fn : Func} {c : Code} {bx bx' : List (Ty × AV)} {fz fz' : List Nat} {rw rws : List (TypeId × Nat)} {args : List AV} {res : AV} (hf : P.funcs[f]? = some fn) (h : ∀ (N : Gh) (w0 : World) (a : Act) (w : World), N.bx.length ≤ bx.length → N.rw.length ≤ rw.length → Rel P w0 N fn.ntmps ⟨slots 0 args, bx, fz, rw⟩ a w → c.wp P (bodyPost P fn (VPost P w0 N bx' fz' rws res)) a w)
    (hb : fn.body = some c := by rfl) (hnm : (fn.name == "runtime.NumGoroutine") = false := by kernel_rfl) (hn : args.length ≤ fn.ntmps := by exact Nat.le_of_ble_eq_true rfl) : VX P f bx fz rw args bx' fz' rws res := v_enter hf hb hnm hn h
theorem mK {p q : Nat} (ks : List Nat) (nb nr : Nat) (hN : N.bx.length ≤ p) (hR : N.rw.length ≤ q) (H : Rel P w0 N nt st a w) (h1 : p ≤ nb := by exact Nat.le_of_ble_eq_true rfl) (h2 : q ≤ nr := by exact Nat.le_of_ble_eq_true rfl) (h3 : keepT ks nb nr st.t = true := by rfl) (h4 : (st.bx.take nb).all (fun x => low nb nr 4 x.2) = true := by rfl)
    (hs : st.keep ks nb nr = s2 := by exact nfs) : Rel P w0 N nt s2 a w := hs ▸ H.keep ks nb nr ⟨Nat.le_trans hN h1, Nat.le_trans hR h2⟩ h3 h4
theorem mEnd {fn : Func} {nb nr : Nat} (js ks : List Nat) (rs : List ResultVar) (ress : List AV) (hN : N.bx.length ≤ nb) (hR : N.rw.length ≤ nr) (H : Rel Try.prog w0 N nt st a w) {bx' : List (Ty × AV)} {fz' : List Nat} {rw' : List (TypeId × Nat)} {res : AV} (ht : tupOf ress = res := by rfl) (hr : fn.results = rs.toArray := by rfl)
    (hchk : (okSel js st.bx.length && okSel ks st.rw.length && usesB js st.bx && preOk js nb && preOk ks nr && rs.all (fun x => argOk js (resv tab st x))) = true := by rfl) (hf : fzOk js st.fz fz' 0 = true := by rfl) (hb : bxs (pickB js ks st.bx) bx' := by exact cbX) (hw : ks.filterMap (st.rw[·]?) = rw' := by exact cwX)
    (he : allP (sub 4) (rs.map fun x => ren (idx? js) (idx? ks) 4 (resv tab st x)) ress := by exact caX) : a.defers = [] ∧ ∃ v, (results fn a.tmps).run Try.prog w = .ok v w ∧ VPost Try.prog w0 N bx' fz' rw' res (.returned v) w := v_end js ks tab_ok ⟨hN, hR⟩ hr H hchk hf hb hw he ht
theorem mCall {ops : Array Oper} {Q : Exit → Act → World → Prop} {rest : List Oper} {o : Oper} {f : FuncId} {xs : List Operand} {ats : Array TypeId} {bxc bx' : List (Ty × AV)} {fzc fz' : List Nat} {rwc rw' : List (TypeId × Nat)} {args : List AV} {res : AV} {s2 : St} (js ks : List Nat) (hc : VX P f bxc fzc rwc args bx' fz' rw' res) (H : Rel P w0 N nt st a w) (g : ∀ a w, Rel P w0 N nt s2 a w → wpList P ops Q rest a w)
    (hgd : o.guard = none := by rfl) (ho : o.op = .call ⟨.value (.func f), xs.toArray, ats⟩ := by rfl) (hchk : (okSel js st.bx.length && okSel ks st.rw.length && usesB js st.bx && fzOk js st.fz fzc 0 && xs.all (fun x => argOk js (st.ev none x)) && uses some 4 res && bx'.all (fun x => uses some 4 x.2) && okDst nt none o.dst) = true := by rfl) (hb : bxs (pickB js ks st.bx) bxc := by exact cbX) (hr : ks.filterMap (st.rw[·]?) = rwc := by exact cwX) (ha : allP (sub 4) (cargs st js ks xs) args := by exact caX)
    (hs : (⟨st.t, mergeL st.bx js (renB js ks st.bx.length st.rw.length bx'), st.fz ++ fz'.map (nth js st.bx.length), mergeL st.rw ks rw'⟩ : St).put o.dst none (ren (fun k => some (nth js st.bx.length k)) (fun k => some (nth ks st.rw.length k)) 4 res) = s2 := by exact nfs) : wpList P ops Q (o :: rest) a w := v_call js ks hc H hgd ho hchk hb hr ha fun a w H => g a w (hs ▸ H)
theorem mCallG {ops : Array Oper} {Q : Exit → Act → World → Prop} {rest : List Oper} {o : Oper} {f : FuncId} {xs : List Operand} {ats : Array TypeId} {bxc bx' : List (Ty × AV)} {fzc fz' : List Nat} {rwc rw' : List (TypeId × Nat)} {args : List AV} {res : AV} {s2 : St} {c : Gd} (js ks : List Nat) (hc : VX P f bxc fzc rwc args bx' fz' rw' res) (H : Rel P w0 N nt st a w) (g : ∀ a w, Rel P w0 N nt s2 a w → wpList P ops Q rest a w)
    (hgd : gdOf ops o = some c := by rfl) (ho : o.op = .call ⟨.value (.func f), xs.toArray, ats⟩ := by rfl) (hchk : (okSel js st.bx.length && okSel ks st.rw.length && usesB js st.bx && fzOk js st.fz fzc 0 && xs.all (fun x => argOk js (st.ev c x)) && uses some 4 res && bx'.all (fun x => uses some 4 x.2) && okDst nt c o.dst) = true := by rfl) (hb : bxs (pickB js ks st.bx) bxc := by exact cbX) (hr : ks.filterMap (st.rw[·]?) = rwc := by exact cwX) (ha : allP (sub 4) (cargsG st c js ks xs) args := by exact caX)
    (hmb : mergeL st.bx js (renB js ks st.bx.length st.rw.length bx') = st.bx := by rfl) (hmf : fz'.map (nth js st.bx.length) = [] := by rfl) (hmr : mergeL st.rw ks rw' = st.rw := by rfl)
    (hs : st.put o.dst c (ren (fun k => some (nth js st.bx.length k)) (fun k => some (nth ks st.rw.length k)) 4 res) = s2 := by exact nfs) : wpList P ops Q (o :: rest) a w := v_callG js ks hc H hgd ho hchk hb hr ha hmb hmf hmr fun a w H => g a w (hs ▸ H)
theorem mCallT {ops : Array Oper} {Q : Exit → Act → World → Prop} {rest : List Oper} {o : Oper} {f : FuncId} {xs : List Operand} {ats : Array TypeId} {bxc bx' : List (Ty × AV)} {fzc fz' : List Nat} {rwc rw' : List (TypeId × Nat)} {args : List AV} {res : AV} {s2 : St} {L A : List Nat} {k : Nat} (js ks : List Nat) (hc : VX P f bxc fzc rwc args bx' fz' rw' res) (H : RelT P w0 N nt gS sq st a w) (g : ∀ a w, RelT P w0 N nt gS q2 s2 a w → wpT P ops Q (Mem gS) L A rest (k + 1) a w) (hL : L.contains k = true := by rfl) (hjs : js.all (fun j => decide (sq.bx.length ≤ j)) = true := by rfl)
    (hgd : o.guard = none := by rfl) (ho : o.op = .call ⟨.value (.func f), xs.toArray, ats⟩ := by rfl) (hchk : (okSel js st.bx.length && okSel ks st.rw.length && usesB js st.bx && fzOk js st.fz fzc 0 && xs.all (fun x => argOk js (st.ev none x)) && uses some 4 res && bx'.all (fun x => uses some 4 x.2) && okDst nt none o.dst) = true := by rfl) (hb : bxs (pickB js ks st.bx) bxc := by exact cbX) (hr : ks.filterMap (st.rw[·]?) = rwc := by exact cwX) (ha : allP (sub 4) (cargs st js ks xs) args := by exact caX)
    (h1 : sq.lose o.dst = q2 := by exact nfs) (hs : (⟨st.t, mergeL st.bx js (renB js ks st.bx.length st.rw.length bx'), st.fz ++ fz'.map (nth js st.bx.length), mergeL st.rw ks rw'⟩ : St).put o.dst none (ren (fun k => some (nth js st.bx.length k)) (fun k => some (nth ks st.rw.length k)) 4 res) = s2 := by exact nfs) : wpT P ops Q (Mem gS) L A (o :: rest) k a w := v_callT js ks hc H hL hjs hgd ho hchk hb hr ha fun a w H => g a w (h1 ▸ hs ▸ H)
theorem mD {id : Nat} {Q : Exit → Act → World → Prop} {l : List Oper} (nb : Nat) (L A : List Nat) (H : Rel P w0 N nt st a w) (g : ∀ gS, RelT P w0 N nt gS q2 s2 a w.drew → wpT P l.toArray Q (Mem gS) L A l 0 a w.drew) (hm : P.follows .mixedOrders = true := by kernel_rfl) (hchk : chk l.toArray (Region.before l.toArray) L A = true := by kernel_rfl)
    (hb : (st.bx.take nb).all (fun x => low nb 0 4 x.2) = true := by rfl) (h1 : (⟨st.t.filter fun p => low nb 0 4 p.2.2, st.bx.take nb, st.fz, []⟩ : St) = q2 := by exact nfs) (h2 : st = s2 := by exact nfs) : (Code.region id l.toArray true).wp P Q a w := v_draw nb L A hm hchk H hb fun gS H => g gS (h1 ▸ h2 ▸ H)
theorem mSkT {ops : Array Oper} {Q : Exit → Act → World → Prop} {L A : List Nat} {i : Nat} {rest : List Oper} {o : Oper} {t : Nat} {b : Bool} (r : AV) (H : RelT P w0 N nt gS sq st a w) (g : ∀ a w, RelT P w0 N nt gS q2 s2 a w → wpT P ops Q (Mem gS) L A rest (i + 1) a w) (hgd : gdOf ops o = some (some (t, b)) := by rfl) (hk : st.tmp none t = .v (.bool (!b)) := by rfl) (hd : okDst nt (some (t, b)) o.dst = true := by rfl)
    (h1 : sq.lose o.dst = q2 := by exact nfs) (hs : st.put o.dst (some (t, b)) r = s2 := by exact nfs) : wpT P ops Q (Mem gS) L A (o :: rest) i a w := v_skipT r H hgd hk hd fun a w H => g a w (h1 ▸ hs ▸ H)
theorem mG {ops : Array Oper} {Q : Exit → Act → World → Prop} {rest : List Oper} {o : Oper} {t : Nat} {b : Bool} (H : Rel P w0 N nt st a w) (h : wpList P ops Q ({ o with guard := none } :: rest) a w) (hgd : gdOf ops o = some (some (t, b)) := by rfl) (hk : st.tmp none t = .v (.bool b) := by rfl) : wpList P ops Q (o :: rest) a w := v_guard H hgd hk h
end
end Go.Proofs.Ytigmpdhnhkdeiaa
/- Bytes put one behind the other. -/
namespace Go.Proofs.Ytigmpdhnhkdeiaa
open Go Go.RowKit
theorem bss_len (ls : List (List UInt8)) : (bss ls).length = ls.length := by simp [bss]
theorem bss_get (ls : List (List UInt8)) (k : Nat) (hk : k < ls.length) : (bss ls).getD k .any = .bs ls[k] none := by simp [bss, List.getD, hk]
theorem flat_take (ls : List (List UInt8)) (k : Nat) (hk : k < ls.length) : (ls.take (k + 1)).flatten = (ls.take k).flatten ++ ls[k] := by rw [List.take_succ_eq_append_getElem hk, List.flatten_append]; simp only [List.flatten_cons, List.flatten_nil, List.append_nil]
theorem flat_take_le (ls : List (List UInt8)) (k : Nat) : (ls.take k).flatten.length ≤ ls.flatten.length := by
  conv => rhs; rw [← List.take_append_drop k ls]
  rw [List.flatten_append, List.length_append]; omega
theorem join_v (ls : List (List UInt8)) (hb : ls.flatten.length ≤ 34359738368) (hl : ls.length ≤ 34359738368) :
    VC Try.prog 238 [.sl .sc (bss ls) none] [(5, ls.flatten.length)] (.bs ls.flatten (some 0)) := by
  have hbl := bss_len ls
  refine v_enter Try.func238 rfl (by kernel_rfl) (by show 1 ≤ 17; decide) ?_
  intro N w0 a w hN hR H
  refine mW ?_; clear H; intro a w H
  have H := v_nilB tab_ok H 3 5 (j := ti5) rfl (by decide) (by rfl)
  rw [hbl] at H
  refine v_loop (fun k : Nat => ⟨[(8, none, .v (.int .i64 (k : Int))), (3, none, .bs (ls.take k).flatten (some 0)), (7, none, .v (.int .i64 (ls.length : Int))), (6, none, .sl .sc (bss ls) none)], [], [], [(5, (ls.take k).flatten.length)]⟩) (fun k => k ≤ ls.length) (fun k => ls.length - k) 0 (Nat.zero_le _) (H.to 0 1 ⟨hN, Nat.le_trans hR (by decide)⟩ ⟨rfl, rfl, rfl, rfl, trivial⟩ rfl rfl rfl rfl rfl) ?_
  clear H
  intro k a w hk H
  refine mW ?_; clear H; intro a w H
  refine mC H (fun hb => ?_) (fun hb => ?_)
  · have hlt : k < ls.length := by simpa using hb
    have hf := flat_take_le ls (k + 1)
    rw [flat_take ls k hlt, List.length_append] at hf
    refine wp_skip ?_
    refine wp_seq ?_
    refine wp_block ?_
    refine wp_seq ?_
    (try refine wp_region_lit ?_); refine mN 2 hN H ?_; clear H; intro a w H
    rw [bss_get ls k hlt] at H
    refine mW ?_; clear H; intro a w H
    exact ⟨k + 1, hlt, by omega, H.to 0 1 ⟨hN, Nat.le_trans hR (by decide)⟩ ⟨rfl, by rw [flat_take ls k hlt]; rfl, rfl, rfl, trivial⟩ rfl (by rw [flat_take ls k hlt, List.length_append]; rfl) rfl rfl rfl⟩
  · have hge : k = ls.length := by simp at hb; omega
    subst hge
    refine mW ?_; clear H; intro a w H
    refine wp_ret ?_; exact mEnd [] [0] [.tmp 2] [_] hN hR H
end Go.Proofs.Ytigmpdhnhkdeiaa
/- The texts of the digests. -/
namespace Go.Proofs.Ytigmpdhnhkdeiaa
open Go Go.RowKit
set_option maxRecDepth 20000 in
theorem text_v (t : UInt8) (ls : List (List UInt8)) (hb : ls.flatten.length ≤ 34359738367) (hl : ls.length ≤ 34359738367) :
    VC Try.prog 191 [.v (B8 t), .sl .sc (bss ls) none] [(5, (t :: ls.flatten).length)] (.bs (t :: ls.flatten) (some 0)) := by
  have hbl := bss_len ls
  have ht := t.toNat_lt
  refine v_enter Try.func191 rfl (by kernel_rfl) (by show 2 ≤ 11; decide) ?_
  intro N w0 a w hN hR H
  refine mW ?_; clear H; intro a w H
  refine mCall [] [] (join_v ([t] :: ls) (by rw [List.flatten_cons, List.length_append]; simp only [List.length_cons, List.length_nil]; omega) (by simp only [List.length_cons]; omega)) H ?_; clear H; intro a w H; try refine wpList_nil ?_
  refine mW ?_; clear H; intro a w H
  refine wp_ret ?_; exact mEnd [] [2] [.tmp 4] [_] hN hR H
set_option maxRecDepth 20000 in
theorem leafText_v (k v : List UInt8) (hk : k.length = 32) (hv : v.length = 32) :
    VC Try.prog 186 [.ba k, .ba v] [(5, 65)] (.bs (1 :: (k ++ v)) (some 0)) := by
  refine v_enter Try.func186 rfl (by kernel_rfl) (by show 2 ≤ 9; decide) ?_
  intro N w0 a w hN hR H
  refine mW ?_; clear H; intro a w H
  have hX := And.intro (List.take_of_length_le (Nat.le_of_eq hk)) (List.take_of_length_le (Nat.le_of_eq hv))
  refine mS ?_; refine mD 2 [2, 3] [] H ?_; clear H; intro gS H; refine mT ?_; clear H; intro a w H
  refine mCallT [] [] (text_v 1 [k, v] (by simp; omega) (by simp)) H ?_; clear H; intro a w H
  refine mT ?_; clear H; intro a w H
  refine v_drawNil H ?_; clear H; intro H
  clear hX; have hX := And.intro @hk (@hv)
  refine wp_ret ?_; exact mEnd [] [1] [.tmp 4] [_] hN hR H
set_option maxRecDepth 20000 in
theorem innerText_v (k v : List UInt8) (hk : k.length = 32) (hv : v.length = 32) :
    VC Try.prog 123 [.ba k, .ba v] [(5, 65)] (.bs (2 :: (k ++ v)) (some 0)) := by
  refine v_enter Try.func123 rfl (by kernel_rfl) (by show 2 ≤ 9; decide) ?_
  intro N w0 a w hN hR H
  have hX := And.intro @hk (@hv)
  refine mW ?_; clear H; intro a w H
  clear hX; have hX := And.intro (List.take_of_length_le (Nat.le_of_eq hk)) (List.take_of_length_le (Nat.le_of_eq hv))
  refine mS ?_; refine mD 2 [2, 3] [] H ?_; clear H; intro gS H; refine mT ?_; clear H; intro a w H
  refine mCallT [] [] (text_v 2 [k, v] (by simp; omega) (by simp)) H ?_; clear H; intro a w H
  refine mT ?_; clear H; intro a w H
  refine v_drawNil H ?_; clear H; intro H
  clear hX; have hX := And.intro @hk (@hv)
  refine wp_ret ?_; exact mEnd [] [1] [.tmp 4] [_] hN hR H
set_option maxRecDepth 20000 in
theorem emptyText_v :
    VC Try.prog 187 [] [(5, 1)] (.bs [0] (some 0)) := by
  refine v_enter Try.func187 rfl (by kernel_rfl) (by decide) ?_
  intro N w0 a w hN hR H
  refine mW ?_; clear H; intro a w H
  refine mCall [] [] (text_v 0 [] (by simp) (by simp)) H ?_; clear H; intro a w H; try refine wpList_nil ?_
  refine mW ?_; clear H; intro a w H
  refine wp_ret ?_; exact mEnd [] [0] [.tmp 0] [_] hN hR H
end Go.Proofs.Ytigmpdhnhkdeiaa
/- The program's SHA-256, byte by byte. -/
namespace Go.Proofs.Ytigmpdhnhkdeiaa
open Go Go.RowKit
theorem ren_s8v (fb fr : Nat → Option Nat) (d : Nat) (s : S8) : ren fb fr (d + 1) (s8v s) = s8v s := by cases d <;> rfl
/-- A state of the program's. -/
def shv (s : S8) (b : List UInt8) (n all : Nat) : AV := .st [.v (.bool true), s8v s, .ba b, .v (.int .i64 (n : Int)), .v (.int .i64 (all : Int))]
theorem ren_shv (fb fr : Nat → Option Nat) (d : Nat) (s : S8) (b : List UInt8) (n all : Nat) : ren fb fr (d + 2) (shv s b n all) = shv s b n all := by cases d <;> rfl
theorem begin_v : VC Try.prog 239 [] [] (s8v h0) := by
  refine v_enter Try.func239 rfl (by kernel_rfl) (by decide) ?_
  intro N w0 a w hN hR H
  have hX := And.intro @ren_s8v (@ren_shv)
  have hY := And.intro @s8v.eq_1 (And.intro @shv.eq_1 (And.intro @W32.eq_1 (@h0.eq_1)))
  refine mW ?_; clear H; intro a w H
  refine wp_ret ?_; exact mEnd [] [] [.cell 0 357] [_] hN hR H
theorem new_v : VX Try.prog 188 [] [] [] [] [(ti361.ty, shv h0 (List.replicate 64 0) 0 0)] [] [] (.ptr 0 []) := by
  refine v_enter Try.func188 rfl (by kernel_rfl) (by decide) ?_
  intro N w0 a w hN hR H
  have hX := And.intro @ren_s8v (@ren_shv)
  have hY := And.intro @s8v.eq_1 (And.intro @shv.eq_1 (And.intro @W32.eq_1 (@h0.eq_1)))
  refine mW ?_; clear H; intro a w H
  refine mCall [] [] (begin_v) H ?_; clear H; intro a w H; try refine wpList_nil ?_
  refine mW ?_; clear H; intro a w H
  clear hX; have hX := And.intro @ren_s8v (And.intro @ren_shv (@shv.eq_1))
  refine wp_ret ?_; exact mEnd [0] [] [.tmp 0] [_] hN hR H
theorem none_v (s : S8) (b : List UInt8) (n all : Nat) : VX Try.prog 240 [(ti361.ty, shv s b n all)] [] [] [.ptr 0 []] [(ti361.ty, shv s b n all)] [] [] (.v (.bool false)) := by
  refine v_enter Try.func240 rfl (by kernel_rfl) (by show 1 ≤ 12; decide) ?_
  intro N w0 a w hN hR H
  have hX := And.intro @ren_s8v (@ren_shv)
  have hY := And.intro @s8v.eq_1 (And.intro @shv.eq_1 (And.intro @W32.eq_1 (@h0.eq_1)))
  refine mW ?_; clear H; intro a w H
  refine wp_ret ?_; exact mEnd [0] [] [.tmp 2] [_] hN hR H

/-- What a write makes of the state: a part of a block at a time. -/
def feed : Nat → S8 → List UInt8 → Nat → List UInt8 → S8 × List UInt8 × Nat
  | 0, s, b, n, _ => (s, b, n)
  | f + 1, s, b, n, l => if l = [] then (s, b, n) else
      let b' := b.take n ++ l.take (64 - n) ++ b.drop (n + (l.take (64 - n)).length)
      if n + (l.take (64 - n)).length = 64 then feed f (step s b') b' 0 (l.drop (l.take (64 - n)).length) else feed f s b' (n + (l.take (64 - n)).length) (l.drop (l.take (64 - n)).length)
set_option maxRecDepth 20000 in
theorem write_v (s : S8) (b : List UInt8) (n all : Nat) (l : List UInt8) (hb : b.length = 64) (hn : n < 64) (hl : l.length ≤ 34359738368) (ha : all ≤ 34359738368) :
    VX Try.prog 189 [(ti361.ty, shv s b n all)] [] [] [.ptr 0 [], .bs l none]
      [(ti361.ty, shv (feed l.length s b n l).1 (feed l.length s b n l).2.1 (feed l.length s b n l).2.2 (all + l.length))] [] [] (.v (.int .i64 (l.length : Int))) := by
  refine v_enter Try.func189 rfl (by kernel_rfl) (by show 2 ≤ 65; decide) ?_
  intro N w0 a w hN hR H
  have hX := And.intro @ren_s8v (@ren_shv)
  have hY := And.intro @s8v.eq_1 (And.intro @shv.eq_1 (And.intro @W32.eq_1 (@h0.eq_1)))
  refine mW ?_; clear H; intro a w H
  refine mCall [0] [] (none_v s b n all) H ?_; clear H; intro a w H; try refine wpList_nil ?_
  refine mC H (fun hb => ?_) (fun hb => ?_)
  · cases hb
  clear hX; have hX := And.intro @ren_s8v (And.intro @ren_shv (@shv.eq_1))
  refine mW ?_; clear H; intro a w H
  refine v_loop (fun i : S8 × List UInt8 × Nat × List UInt8 => ⟨[(0, none, .ptr 0 []), (1, none, .bs l none), (5, none, .bs i.2.2.2 none)], [(ti361.ty, .st [.v (.bool true), s8v i.1, .ba i.2.1, .v (.int .i64 (i.2.2.1 : Int)), .v (.int .i64 ((all : Int) + (l.length : Int)))])], [], []⟩)
    (fun i => i.2.1.length = 64 ∧ i.2.2.1 < 64 ∧ i.2.2.2.length ≤ l.length ∧ ∃ f, i.2.2.2.length ≤ f ∧ feed f i.1 i.2.1 i.2.2.1 i.2.2.2 = feed l.length s b n l) (fun i => i.2.2.2.length) (s, b, n, l) ⟨by assumption, hn, Nat.le_refl _, l.length, Nat.le_refl _, rfl⟩
    (H.to 1 0 ⟨hN, hR⟩ ⟨rfl, rfl, rfl, trivial⟩ rfl rfl rfl rfl rfl) ?_
  clear H
  rintro ⟨s', b', n', rest⟩ a w ⟨hb', hn', hr', f, hf, hfe⟩ H
  dsimp only at hb' hn' hr' hf hfe
  refine mW ?_; clear H; intro a w H
  refine mC H (fun hb => ?_) (fun hb => ?_)
  · have h0 : 0 < rest.length := by simpa using hb
    refine mW ?_; clear H; intro a w H
    refine mS ?_; refine mD 0 [9] [] H ?_; clear H; intro gS H; refine mT ?_; clear H; intro a w H
    refine v_drawNil H ?_; clear H; intro H
    obtain ⟨k, hk⟩ : ∃ k, k = (rest.take (64 - n')).length := ⟨_, rfl⟩
    rw [← hk] at H
    rw [List.length_take] at hk
    have hk1 : n' + k ≤ 64 ∧ 0 < k ∧ k ≤ rest.length := by omega
    have hk2 : (rest.take (64 - n')).length = k := by rw [List.length_take]; omega
    have hlb : (b'.take n' ++ rest.take (64 - n') ++ b'.drop (n' + k)).length = 64 := by simp only [List.length_append, List.length_take, List.length_drop]; omega
    obtain ⟨f, rfl⟩ : ∃ g, f = g + 1 := ⟨f - 1, by omega⟩
    have hne : rest ≠ [] := fun e => by subst e; simp at h0
    rw [feed, if_neg hne] at hfe
    dsimp only at hfe
    rw [hk2] at hfe
    have hdl : (rest.drop k).length = rest.length - k := List.length_drop
    refine mW ?_; clear H; intro a w H
    refine mC H (fun hb => ?_) (fun hb => ?_)
    · have he : n' + k = 64 := by simp at hb; omega
      rw [if_pos he] at hfe
      refine mW ?_; clear H; intro a w H
      refine mS ?_; refine mD 0 [10, 13, 16] [0, 1] H ?_; clear H; intro gS H; refine mT ?_; clear H; intro a w H
      refine mCallT [] [] (step_v s' (b'.take n' ++ rest.take (64 - n') ++ b'.drop (n' + k)) hlb) H ?_; clear H; intro a w H
      refine mT ?_; clear H; intro a w H
      refine v_drawNil H ?_; clear H; intro H
      refine mW ?_; clear H; intro a w H
      exact ⟨(_, _, 0, rest.drop k), ⟨hlb, by show 0 < 64; decide, by dsimp only; omega, f, by dsimp only; omega, hfe⟩, by dsimp only; omega, H.to 1 0 ⟨hN, hR⟩ ⟨rfl, rfl, rfl, trivial⟩ rfl rfl rfl rfl rfl⟩
    · have he : ¬ n' + k = 64 := by simp at hb; omega
      rw [if_neg he] at hfe
      refine mW ?_; clear H; intro a w H
      exact ⟨(s', _, n' + k, rest.drop k), ⟨hlb, by dsimp only; omega, by dsimp only; omega, f, by dsimp only; omega, hfe⟩, by dsimp only; omega, H.to 1 0 ⟨hN, hR⟩ ⟨rfl, rfl, rfl, trivial⟩ rfl rfl rfl rfl rfl⟩
  · have h0 : rest = [] := by simp at hb; exact hb
    subst h0
    have hfe2 : feed l.length s b n l = (s', b', n') := by
      rw [← hfe]; cases f with
      | zero => rfl
      | succ f => rw [feed, if_pos rfl]
    rw [hfe2]
    refine mW ?_; clear H; intro a w H
    refine wp_ret ?_; exact mEnd [0] [] [.tmp 4] [_] hN hR H
end Go.Proofs.Ytigmpdhnhkdeiaa
/- Numbers as bytes. -/
namespace Go.Proofs.Ytigmpdhnhkdeiaa
open Go Go.RowKit
def be4n (x : Nat) : List UInt8 := [UInt8.ofNat (x / 16777216), UInt8.ofNat (x / 65536), UInt8.ofNat (x / 256), UInt8.ofNat x]
set_option maxRecDepth 20000 in
theorem put32_v (x : Nat) (hx : x < 4294967296) : VC Try.prog 242 [.v (.int .i64 (x : Int))] [(5, 4)] (.tup [.bs (be4n x) (some 0), .v (.int .i64 0)]) := by
  refine v_enter Try.func242 rfl (by kernel_rfl) (by show 1 ≤ 22; decide) ?_
  intro N w0 a w hN hR H
  refine mW ?_; clear H; intro a w H
  refine mC H (fun hb => ?_) (fun hb => ?_)
  · simp at hb; omega
  refine mW ?_; clear H; intro a w H
  have e1 := u8n x 16777216; have e2 := u8n x 65536; have e3 := u8n x 256; have e4 := u8m x
  simp only [Int.cast_ofNat_Int] at e1 e2 e3
  rw [e1, e2, e3, e4] at H
  refine wp_ret ?_; exact mEnd [] [0] [.tmp 2, .tmp 3] [_, _] hN hR H

theorem be4n_len (x : Nat) : (be4n x).length = 4 := rfl
/-- The state after a text. -/
structure Good (l : List UInt8) (s : S8) (b : List UInt8) (n : Nat) : Prop where
  bl : b.length = 64
  nn : n = l.length % 64
  ss : s = steps h0 (l.length / 64) l
  bb : b.take n = l.drop (64 * (l.length / 64))
theorem Good.lt {l : List UInt8} {s : S8} {b : List UInt8} {n : Nat} (h : Good l s b n) : n < 64 := by rw [h.nn]; exact Nat.mod_lt _ (by decide)
theorem good_nil : Good [] h0 (List.replicate 64 0) 0 := ⟨by simp, rfl, by simp [steps_zero], rfl⟩
theorem feed_good : ∀ (f : Nat) (m l : List UInt8) (s : S8) (b : List UInt8) (n : Nat), m.length ≤ f → Good l s b n → Good (l ++ m) (feed f s b n m).1 (feed f s b n m).2.1 (feed f s b n m).2.2
  | 0, m, l, s, b, n, hm, h => by
    have : m = [] := List.length_eq_zero_iff.1 (by omega)
    subst this; simpa [feed] using h
  | f + 1, m, l, s, b, n, hm, h => by
    have hlt := h.lt
    by_cases hz : m = []
    · subst hz; rw [feed, if_pos rfl]; simpa using h
    · have hm0 : 0 < m.length := List.length_pos_iff.2 hz
      rw [feed, if_neg hz]
      dsimp only
      obtain ⟨k, hk⟩ : ∃ k, k = (m.take (64 - n)).length := ⟨_, rfl⟩
      rw [← hk]
      rw [List.length_take] at hk
      have hkm : m.take (64 - n) = m.take k := by
        rw [hk]
        rcases Nat.le_total (64 - n) m.length with h1 | h1
        · rw [Nat.min_eq_left h1]
        · rw [Nat.min_eq_right h1, List.take_length, List.take_of_length_le h1]
      rw [hkm]
      have hbl := h.bl
      have hlb : (b.take n ++ m.take k ++ b.drop (n + k)).length = 64 := by simp only [List.length_append, List.length_take, List.length_drop]; omega
      have hdl : (m.drop k).length ≤ f := by rw [List.length_drop]; omega
      have hn := h.nn
      have hll : (l ++ m.take k).length = l.length + k := by rw [List.length_append, List.length_take]; omega
      have hsplit : l ++ m = (l ++ m.take k) ++ m.drop k := by rw [List.append_assoc, List.take_append_drop]
      have htk : (b.take n ++ m.take k ++ b.drop (n + k)).take (n + k) = b.take n ++ m.take k := by
        rw [List.take_append_of_le_length (by simp only [List.length_append, List.length_take]; omega), List.take_of_length_le (by simp only [List.length_append, List.length_take]; omega)]
      have hdr : (l ++ m.take k).drop (64 * (l.length / 64)) = b.take n ++ m.take k := by
        rw [List.drop_append_of_le_length (by omega), h.bb]
      by_cases he : n + k = 64
      · rw [if_pos he, hsplit]
        refine feed_good f (m.drop k) (l ++ m.take k) _ _ 0 hdl ⟨hlb, by rw [hll]; omega, ?_, ?_⟩
        · have hq : (l ++ m.take k).length / 64 = l.length / 64 + 1 := by rw [hll]; omega
          have e1 : (b.take n ++ m.take k).take 64 = b.take n ++ m.take k := List.take_of_length_le (by simp only [List.length_append, List.length_take]; omega)
          rw [hq, steps_next, steps_append _ _ _ _ (by omega), ← h.ss, hdr, e1, he, List.drop_of_length_le (by omega), List.append_nil]
        · have : 64 * ((l ++ m.take k).length / 64) = (l ++ m.take k).length := by rw [hll]; omega
          rw [this, List.drop_length]; rfl
      · rw [if_neg he, hsplit]
        have hnk : n + k < 64 := by omega
        have hq : (l ++ m.take k).length / 64 = l.length / 64 := by rw [hll]; omega
        refine feed_good f (m.drop k) (l ++ m.take k) _ _ (n + k) hdl ⟨hlb, by rw [hll]; omega, ?_, ?_⟩
        · rw [hq, steps_append _ _ _ _ (by omega)]; exact h.ss
        · rw [hq, htk, hdr]
/-- A write, by texts. -/
theorem write_g (l m : List UInt8) (s : S8) (b : List UInt8) (n : Nat) (h : Good l s b n) (hl : m.length ≤ 34359738368) (all : Nat) (ha : all ≤ 34359738368) :
    ∃ s' b' n', Good (l ++ m) s' b' n' ∧ VX Try.prog 189 [(ti361.ty, shv s b n all)] [] [] [.ptr 0 [], .bs m none]
      [(ti361.ty, shv s' b' n' (all + m.length))] [] [] (.v (.int .i64 (m.length : Int))) :=
  ⟨_, _, _, feed_good m.length m l s b n (Nat.le_refl _) h, write_v s b n all m h.bl h.lt hl ha⟩
end Go.Proofs.Ytigmpdhnhkdeiaa
/- The program's SHA-256 of a text. -/
namespace Go.Proofs.Ytigmpdhnhkdeiaa
open Go Go.RowKit
def outK (s : S8) : Nat → List UInt8
  | 0 => List.replicate 32 0
  | k + 1 => (outK s k).take (4 * k) ++ (be4n (s.l.getD k 0).toNat).take (32 - 4 * k) ++ (outK s k).drop (4 * k + ((be4n (s.l.getD k 0).toNat).take (32 - 4 * k)).length)
theorem outK_end (s : S8) : outK s 8 = out s := by
  simp [outK, be4n, out, be4, S8.l, List.replicate]
theorem n32lt (y : BitVec 32) : y.toNat < 4294967296 := y.isLt
theorem be8 (v : Nat) (hv : v < 18446744073709551616) : be v 8 = be4n (v / 4294967296) ++ be4n (v % 4294967296) := by
  simp only [be, be4n, List.cons_append, List.nil_append]
  have h1 : ∀ a b : Nat, a % 256 = b % 256 → UInt8.ofNat a = UInt8.ofNat b := fun a b h => UInt8.toNat_inj.1 (by simpa using h)
  have e7 : UInt8.ofNat (v / 256 ^ 7) = UInt8.ofNat (v / 4294967296 / 16777216) := h1 _ _ (by first | rfl | (simp only [Nat.reducePow]; omega))
  have e6 : UInt8.ofNat (v / 256 ^ 6) = UInt8.ofNat (v / 4294967296 / 65536) := h1 _ _ (by first | rfl | (simp only [Nat.reducePow]; omega))
  have e5 : UInt8.ofNat (v / 256 ^ 5) = UInt8.ofNat (v / 4294967296 / 256) := h1 _ _ (by first | rfl | (simp only [Nat.reducePow]; omega))
  have e4 : UInt8.ofNat (v / 256 ^ 4) = UInt8.ofNat (v / 4294967296) := h1 _ _ (by first | rfl | (simp only [Nat.reducePow]; omega))
  have e3 : UInt8.ofNat (v / 256 ^ 3) = UInt8.ofNat (v % 4294967296 / 16777216) := h1 _ _ (by first | rfl | (simp only [Nat.reducePow]; omega))
  have e2 : UInt8.ofNat (v / 256 ^ 2) = UInt8.ofNat (v % 4294967296 / 65536) := h1 _ _ (by first | rfl | (simp only [Nat.reducePow]; omega))
  have e1 : UInt8.ofNat (v / 256 ^ 1) = UInt8.ofNat (v % 4294967296 / 256) := h1 _ _ (by first | rfl | (simp only [Nat.reducePow]; omega))
  have e0 : UInt8.ofNat (v / 256 ^ 0) = UInt8.ofNat (v % 4294967296) := h1 _ _ (by first | rfl | (simp only [Nat.reducePow]; omega))
  rw [e7, e6, e5, e4, e3, e2, e1, e0]
set_option maxRecDepth 20000 in
theorem sumS_v (l : List UInt8) (s : S8) (b : List UInt8) (n : Nat) (h : Good l s b n) (hl : l.length ≤ 34359738000) :
    VX Try.prog 190 [(ti361.ty, shv s b n l.length)] [] [] [.ptr 0 []] [(ti361.ty, shv s b n l.length)] [] [] (.ba (sum l)) := by
  have hbl := h.bl
  refine v_enter Try.func190 rfl (by kernel_rfl) (by show 1 ≤ 68; decide) ?_
  intro N w0 a w hN hR H
  have hX := And.intro @ren_s8v (And.intro @ren_shv (@shv.eq_1))
  have hY := And.intro @s8v.eq_1 (And.intro @shv.eq_1 (And.intro @W32.eq_1 (@h0.eq_1)))
  refine mW ?_; clear H; intro a w H
  refine mCall [0] [] (none_v s b n l.length) H ?_; clear H; intro a w H; try refine wpList_nil ?_
  refine mC H (fun hb => ?_) (fun hb => ?_)
  · cases hb
  refine mW ?_; clear H; intro a w H
  obtain ⟨s1, b1, n1, h1, hw1⟩ := write_g l [128] s b n h (by decide) l.length (by omega)
  refine mCall [2] [] (hw1) H ?_; clear H; intro a w H; try refine wpList_nil ?_
  refine mW ?_; clear H; intro a w H
  have e4 : (l.length : Int) * 8 % 18446744073709551616 = ((l.length * 8 : Nat) : Int) := by omega
  rw [e4] at H
  refine v_loop (fun i : S8 × List UInt8 × Nat × Nat => ⟨[(0, none, .ptr 0 []), (2, none, .ptr 1 []), (3, none, .ptr 2 []), (4, none, .v (.int .u64 ((l.length * 8 : Nat) : Int)))], [(ti361.ty, .st [.v (.bool true), s8v s, .ba b, .v (.int .i64 (n : Int)), .v (.int .i64 (l.length : Int))]), (.ba 32, .ba (List.replicate 32 0)), (ti361.ty, .st [.v (.bool true), s8v i.1, .ba i.2.1, .v (.int .i64 (i.2.2.1 : Int)), .v (.int .i64 ((l.length + 1 + i.2.2.2 : Nat) : Int))])], [], []⟩)
    (fun i => Good (l ++ [128] ++ List.replicate i.2.2.2 0) i.1 i.2.1 i.2.2.1 ∧ i.2.2.2 ≤ padN l.length) (fun i => padN l.length - i.2.2.2) (s1, b1, n1, 0) ⟨by simpa using h1, Nat.zero_le _⟩
    (H.to 3 0 ⟨Nat.le_trans hN (by show 1 ≤ 3; decide), hR⟩ ⟨rfl, rfl, rfl, rfl, trivial⟩ rfl rfl rfl rfl rfl) ?_
  clear H
  rintro ⟨s2, b2, n2, z⟩ a w ⟨h2, hz⟩ H
  dsimp only at h2 hz
  have hn2 := h2.nn
  have hlen2 : (l ++ [128] ++ List.replicate z 0).length = l.length + 1 + z := by simp; omega
  rw [hlen2] at hn2
  have hpd : padN l.length < 64 ∧ (l.length + 1 + padN l.length) % 64 = 56 := by unfold padN; omega
  have hbl2 := h2.bl
  refine mW ?_; clear H; intro a w H
  refine mC H (fun hb => ?_) (fun hb => ?_)
  · have hne : n2 ≠ 56 := fun e => by simp [e] at hb
    have hz1 : z + 1 ≤ padN l.length := by
      rcases Nat.lt_or_ge z (padN l.length) with h5 | h5
      · omega
      · have : z = padN l.length := by omega
        subst this; omega
    obtain ⟨s3, b3, n3, h3, hw3⟩ := write_g _ [0] s2 b2 n2 h2 (by decide) (l.length + 1 + z) (by omega)
    refine mW ?_; clear H; intro a w H
    refine mCall [2] [] (hw3) H ?_; clear H; intro a w H; try refine wpList_nil ?_
    refine mW ?_; clear H; intro a w H
    exact ⟨(s3, b3, n3, z + 1), ⟨by rw [List.append_assoc] at h3; simpa [← List.replicate_succ'] using h3, hz1⟩, by dsimp only; omega, H.to 3 0 ⟨Nat.le_trans hN (by show 1 ≤ 3; decide), hR⟩ ⟨rfl, rfl, rfl, rfl, trivial⟩ rfl rfl rfl rfl rfl⟩
  · have he : n2 = 56 := by simp at hb; omega
    have hz1 : z = padN l.length := by omega
    subst hz1
    subst he
    refine mW ?_; clear H; intro a w H
    have e5 : ((l.length * 8 : Nat) : Int) / 4294967296 = ((l.length * 8 / 4294967296 : Nat) : Int) := by omega
    rw [e5] at H
    have hand : bits .and .u64 ((l.length * 8 : Nat) : Int) 4294967295 = ((l.length * 8 % 4294967296 : Nat) : Int) := by
      have h5 := u64_and_nat (l.length * 8) 4294967295 (by omega) (by decide)
      rw [show (4294967295 : Nat) = 2 ^ 32 - 1 from rfl, Nat.and_two_pow_sub_one_eq_mod] at h5
      exact h5
    clear hX; have hX := And.intro @ren_s8v (And.intro @ren_shv (And.intro @shv.eq_1 (@hand)))
    clear hY; have hY := And.intro @s8v.eq_1 (And.intro @shv.eq_1 (And.intro @W32.eq_1 (And.intro @h0.eq_1 (@hand))))
    refine mCall [] [] (put32_v (l.length * 8 / 4294967296) (by omega)) H ?_; clear H; intro a w H; try refine wpList_nil ?_
    refine mW ?_; clear H; intro a w H
    refine mCall [] [] (put32_v (l.length * 8 % 4294967296) (by omega)) H ?_; clear H; intro a w H; try refine wpList_nil ?_
    refine mW ?_; clear H; intro a w H
    obtain ⟨s3, b3, n3, h3, hw3⟩ := write_g _ (be4n (l.length * 8 / 4294967296)) s2 b2 56 h2 (by rw [be4n_len]; decide) (l.length + 1 + padN l.length) (by omega)
    refine mCall [2] [] (hw3) H ?_; clear H; intro a w H; try refine wpList_nil ?_
    refine mW ?_; clear H; intro a w H
    obtain ⟨s4, b4, n4, h4, hw4⟩ := write_g _ (be4n (l.length * 8 % 4294967296)) s3 b3 n3 h3 (by rw [be4n_len]; decide) (l.length + 1 + padN l.length + 4) (by omega)
    clear hX; have hX := And.intro @ren_s8v (And.intro @ren_shv (And.intro @shv.eq_1 (And.intro @hand (@be4n_len))))
    refine mCall [2] [] (hw4) H ?_; clear H; intro a w H; try refine wpList_nil ?_
    refine mW ?_; clear H; intro a w H
    have hpad : l ++ [128] ++ List.replicate (padN l.length) 0 ++ be4n (l.length * 8 / 4294967296) ++ be4n (l.length * 8 % 4294967296) = pad l := by
      rw [pad_def, be8 _ (by omega), List.append_assoc _ (be4n _)]
    rw [hpad] at h4
    have hout : out s4 = sum l := by rw [sum_def, ← h4.ss]
    refine v_loop (fun k : Nat => ⟨[(2, none, .ptr 1 []), (9, none, .ptr 3 []), (50, none, s8v s4), (51, none, .v (.int .i64 (k : Int)))], [(ti361.ty, .st [.v (.bool true), s8v s, .ba b, .v (.int .i64 (n : Int)), .v (.int .i64 (l.length : Int))]), (.ba 32, .ba (List.replicate 32 0)), (ti361.ty, .st [.v (.bool true), s8v s4, .ba b4, .v (.int .i64 (n4 : Int)), .v (.int .i64 ((l.length + 1 + padN l.length + 4 + 4 : Nat) : Int))]), (.ba 32, .ba (outK s4 k))], [], []⟩)
      (fun k => k ≤ 8) (fun k => 8 - k) 0 (by decide) (H.to 4 0 ⟨Nat.le_trans hN (by show 1 ≤ 4; decide), hR⟩ ⟨rfl, rfl, rfl, rfl, trivial⟩ rfl rfl rfl rfl rfl) ?_
    clear H
    intro k a w hk H
    have hN0 := hN
    replace hN : N.bx.length ≤ 100 := Nat.le_trans hN (by show 1 ≤ 100; decide)
    refine mW ?_; clear H; intro a w H
    refine mC H (fun hb => ?_) (fun hb => ?_)
    · have hk8 : k < 8 := by simp at hb; omega
      have hs8 : k = 0 ∨ k = 1 ∨ k = 2 ∨ k = 3 ∨ k = 4 ∨ k = 5 ∨ k = 6 ∨ k = 7 := by omega
      have hol : ∀ k, k ≤ 8 → (outK s4 k).length = 32 := fun k hk => by
        induction k with
        | zero => simp [outK]
        | succ k ih => have := ih (by omega); simp only [outK, List.length_append, List.length_take, List.length_drop, be4n_len]; omega
      have q0 := n32_lo s4.a; have q1 := n32_lo s4.b; have q2 := n32_lo s4.c; have q3 := n32_lo s4.d; have q4 := n32_lo s4.e; have q5 := n32_lo s4.f; have q6 := n32_lo s4.g; have q7 := n32_lo s4.h
      have r0 := n32_hi s4.a; have r1 := n32_hi s4.b; have r2 := n32_hi s4.c; have r3 := n32_hi s4.d; have r4 := n32_hi s4.e; have r5 := n32_hi s4.f; have r6 := n32_hi s4.g; have r7 := n32_hi s4.h
      have o0 := hol 0 (by decide); have o1 := hol 1 (by decide); have o2 := hol 2 (by decide); have o3 := hol 3 (by decide); have o4 := hol 4 (by decide); have o5 := hol 5 (by decide); have o6 := hol 6 (by decide); have o7 := hol 7 (by decide)
      rcases hs8 with rfl | rfl | rfl | rfl | rfl | rfl | rfl | rfl
      all_goals
        refine mW ?_; clear H; intro a w H
        refine mCall [] [] (put32_v _ (n32lt _)) H ?_; clear H; intro a w H; try refine wpList_nil ?_
        refine mW ?_; clear H; intro a w H
        refine ⟨_ + 1, by decide, ?_, H.to 4 0 ⟨Nat.le_trans hN0 (by show 1 ≤ 4; decide), hR⟩ ⟨rfl, rfl, rfl, rfl, trivial⟩ rfl rfl rfl rfl rfl⟩
        decide
    · have he8 : k = 8 := by simp at hb; omega
      subst he8
      rw [outK_end, hout] at H
      have hsl := sum_length l
      refine mW ?_; clear H; intro a w H
      replace hN := hN0
      refine wp_ret ?_; exact mEnd [0] [] [.cell 2 50] [_] hN hR H
end Go.Proofs.Ytigmpdhnhkdeiaa
/- Digests: SHA-256 of a text; of a byte and parts. -/
namespace Go.Proofs.Ytigmpdhnhkdeiaa
open Go Go.RowKit
set_option maxRecDepth 20000 in
theorem sum_v (l : List UInt8) (hl : l.length ≤ 34359738000) : VC Try.prog 122 [.bs l none] [] (.ba (sum l)) := by
  have hsl := sum_length l
  refine v_enter Try.func122 rfl (by kernel_rfl) (by show 1 ≤ 10; decide) ?_
  intro N w0 a w hN hR H
  have hX := And.intro @ren_s8v (@ren_shv)
  have hY := And.intro @s8v.eq_1 (And.intro @shv.eq_1 (And.intro @W32.eq_1 (@h0.eq_1)))
  refine mW ?_; clear H; intro a w H
  refine mCall [] [] (new_v) H ?_; clear H; intro a w H; try refine wpList_nil ?_
  refine mW ?_; clear H; intro a w H
  obtain ⟨s1, b1, n1, h1, hw1⟩ := write_g [] l h0 (List.replicate 64 0) 0 good_nil (by omega) 0 (by decide)
  refine mCall [1] [] (hw1) H ?_; clear H; intro a w H; try refine wpList_nil ?_
  refine mW ?_; clear H; intro a w H
  rw [List.nil_append] at h1
  refine mCall [1] [] (sumS_v l s1 b1 n1 h1 hl) H ?_; clear H; intro a w H; try refine wpList_nil ?_
  refine mW ?_; clear H; intro a w H
  refine wp_ret ?_; exact mEnd [] [] [.cell 2 50] [_] hN hR H
end Go.Proofs.Ytigmpdhnhkdeiaa
/- Nodes of the program: checked, written, read; digests. -/
namespace Go.Proofs.Ytigmpdhnhkdeiaa
open Go Go.RowKit
structure Nd where
  k : UInt8
  key : List UInt8
  v : List UInt8
  l : List UInt8
  r : List UInt8
  deriving DecidableEq
def z32 : List UInt8 := List.replicate 32 0
theorem hz : List.replicate 32 (0 : UInt8) = z32 := rfl
structure Nd.wf (n : Nd) : Prop where
  key : n.key.length = 32
  v : n.v.length = 32
  l : n.l.length = 32
  r : n.r.length = 32
def Nd.av (n : Nd) : AV := .st [.v (B8 n.k), .ba n.key, .ba n.v, .ba n.l, .ba n.r]
def Nd.zero : Nd := ⟨0, z32, z32, z32, z32⟩
/-- What a node is but for what its kind does not bear. -/
def Nd.bare (n : Nd) : Nd := if n.k = 1 then ⟨1, n.key, n.v, z32, z32⟩ else if n.k = 2 then ⟨2, z32, z32, n.l, n.r⟩ else .zero
def Nd.ok (n : Nd) : Prop := n = n.bare
instance (n : Nd) : Decidable n.ok := inferInstanceAs (Decidable (n = n.bare))
def Nd.text (n : Nd) : List UInt8 := if n.k = 1 then 1 :: (n.key ++ n.v) else if n.k = 2 then 2 :: (n.l ++ n.r) else [0]
abbrev errv (n : Int) : AV := .v (.int .i64 n)
theorem same_v (l m : List UInt8) : VC Try.prog 19 [.bs l none, .bs m none] [] (.v (.bool (l == m))) := by
  refine v_enter Try.func19 rfl (by kernel_rfl) (by show 2 ≤ 10; decide) ?_
  intro N w0 a w hN hR H
  have hX := @strOf_list
  refine mW ?_; clear H; intro a w H
  refine wp_ret ?_; exact mEnd [] [] [.tmp 4] [_] hN hR H
theorem check_v (n : Nd) (hw : n.wf) : VC Try.prog 185 [n.av] [] (errv (if n.ok then 0 else 2)) := by
  obtain ⟨k, key, v, l, r⟩ := n
  obtain ⟨h1, h2, h3, h4⟩ := hw
  dsimp only at h1 h2 h3 h4
  refine mE Try.func185 ?_; intro N w0 a w hN hR H
  simp only [Nd.av] at H
  have hk0 : ((k.toNat : Int) = 0) ↔ k = 0 := ⟨fun h => UInt8.toNat_inj.1 (by simpa using h), fun h => by subst h; rfl⟩
  have hk1 : ((k.toNat : Int) = 1) ↔ k = 1 := ⟨fun h => UInt8.toNat_inj.1 (by simp; omega), fun h => by subst h; rfl⟩
  have hk2 : ((k.toNat : Int) = 2) ↔ k = 2 := ⟨fun h => UInt8.toNat_inj.1 (by simp; omega), fun h => by subst h; rfl⟩
  refine mW ?_; clear H; intro a w H
  refine mC H (fun hb => ?_) (fun hb => ?_)
  · refine mW ?_; clear H; intro a w H
    refine mC H (fun hb => ?_) (fun hb => ?_)
    · have hok : ¬ Nd.ok ⟨k, key, v, l, r⟩ := by clear H; simp only [Bool.not_eq_true', Bool.not_eq_false', Bool.and_eq_true, Bool.and_eq_false_imp, decide_eq_true_eq, decide_eq_false_iff_not] at hb; simp only [hz] at hb; simp_all [Nd.ok, Nd.bare, Nd.zero]
      rw [if_neg hok]
      refine mW ?_; clear H; intro a w H
      refine wp_ret ?_; exact mEnd [] [] [.tmp 2] [_] hN hR H
    · have hok : Nd.ok ⟨k, key, v, l, r⟩ := by clear H; simp only [Bool.not_eq_true', Bool.not_eq_false', Bool.and_eq_true, Bool.and_eq_false_imp, decide_eq_true_eq, decide_eq_false_iff_not] at hb; simp only [hz] at hb; simp_all [Nd.ok, Nd.bare, Nd.zero]
      rw [if_pos hok]
      refine mW ?_; clear H; intro a w H
      refine wp_ret ?_; exact mEnd [] [] [.tmp 2] [_] hN hR H
  · refine mW ?_; clear H; intro a w H
    refine mC H (fun hb => ?_) (fun hb => ?_)
    · refine mW ?_; clear H; intro a w H
      refine mC H (fun hb => ?_) (fun hb => ?_)
      · have hok : ¬ Nd.ok ⟨k, key, v, l, r⟩ := by clear H; simp only [Bool.not_eq_true', Bool.not_eq_false', Bool.and_eq_true, Bool.and_eq_false_imp, decide_eq_true_eq, decide_eq_false_iff_not] at hb; simp only [hz] at hb; simp_all [Nd.ok, Nd.bare, Nd.zero]
        rw [if_neg hok]
        refine mW ?_; clear H; intro a w H
        refine wp_ret ?_; exact mEnd [] [] [.tmp 2] [_] hN hR H
      · have hok : Nd.ok ⟨k, key, v, l, r⟩ := by clear H; simp only [Bool.not_eq_true', Bool.not_eq_false', Bool.and_eq_true, Bool.and_eq_false_imp, decide_eq_true_eq, decide_eq_false_iff_not] at hb; simp only [hz] at hb; simp_all [Nd.ok, Nd.bare, Nd.zero]
        rw [if_pos hok]
        refine mW ?_; clear H; intro a w H
        refine wp_ret ?_; exact mEnd [] [] [.tmp 2] [_] hN hR H
    · refine mW ?_; clear H; intro a w H
      refine mC H (fun hb => ?_) (fun hb => ?_)
      · refine mW ?_; clear H; intro a w H
        refine mC H (fun hb => ?_) (fun hb => ?_)
        · have hok : ¬ Nd.ok ⟨k, key, v, l, r⟩ := by clear H; simp only [Bool.not_eq_true', Bool.not_eq_false', Bool.and_eq_true, Bool.and_eq_false_imp, decide_eq_true_eq, decide_eq_false_iff_not] at hb; simp only [hz] at hb; simp_all [Nd.ok, Nd.bare, Nd.zero]
          rw [if_neg hok]
          refine mW ?_; clear H; intro a w H
          refine wp_ret ?_; exact mEnd [] [] [.tmp 2] [_] hN hR H
        · have hok : Nd.ok ⟨k, key, v, l, r⟩ := by clear H; simp only [Bool.not_eq_true', Bool.not_eq_false', Bool.and_eq_true, Bool.and_eq_false_imp, decide_eq_true_eq, decide_eq_false_iff_not] at hb; simp only [hz] at hb; simp_all [Nd.ok, Nd.bare, Nd.zero]
          rw [if_pos hok]
          refine mW ?_; clear H; intro a w H
          refine wp_ret ?_; exact mEnd [] [] [.tmp 2] [_] hN hR H
      · refine mW ?_; clear H; intro a w H
        refine mC H (fun hb => ?_) (fun hb => ?_)
        · have hok : ¬ Nd.ok ⟨k, key, v, l, r⟩ := by clear H; simp only [Bool.not_eq_true', Bool.not_eq_false', Bool.and_eq_true, Bool.and_eq_false_imp, decide_eq_true_eq, decide_eq_false_iff_not] at hb; simp only [hz] at hb; simp_all [Nd.ok, Nd.bare, Nd.zero]
          rw [if_neg hok]
          refine mW ?_; clear H; intro a w H
          refine wp_ret ?_; exact mEnd [] [] [.tmp 2] [_] hN hR H
        · have hok : Nd.ok ⟨k, key, v, l, r⟩ := by clear H; simp only [Bool.not_eq_true', Bool.not_eq_false', Bool.and_eq_true, Bool.and_eq_false_imp, decide_eq_true_eq, decide_eq_false_iff_not] at hb; simp only [hz] at hb; simp_all [Nd.ok, Nd.bare, Nd.zero]
          rw [if_pos hok]
          refine mW ?_; clear H; intro a w H
          refine wp_ret ?_; exact mEnd [] [] [.tmp 2] [_] hN hR H
theorem encode_ok (n : Nd) (hw : n.wf) (h : n.ok) : VC Try.prog 121 [n.av] [(5, n.text.length)] (.tup [.bs n.text (some 0), errv 0]) := by
  have hck := check_v n hw
  rw [if_pos h] at hck
  obtain ⟨k, key, v, l, r⟩ := n
  obtain ⟨h1, h2, h3, h4⟩ := hw
  dsimp only at h1 h2 h3 h4
  refine mE Try.func121 ?_; intro N w0 a w hN hR H
  have hk1 : ((k.toNat : Int) = 1) ↔ k = 1 := ⟨fun h => UInt8.toNat_inj.1 (by simp; omega), fun h => by subst h; rfl⟩
  have hk2 : ((k.toNat : Int) = 2) ↔ k = 2 := ⟨fun h => UInt8.toNat_inj.1 (by simp; omega), fun h => by subst h; rfl⟩
  simp only [Nd.av] at H hck
  refine mW ?_; clear H; intro a w H
  refine mCall [] [] (hck) H ?_; clear H; intro a w H; try refine wpList_nil ?_
  refine mW ?_; clear H; intro a w H
  refine mC H (fun hb => ?_) (fun hb => ?_)
  · simp at hb
  · refine mW ?_; clear H; intro a w H
    refine mC H (fun hb => ?_) (fun hb => ?_)
    · have hk : k = 1 := hk1.1 (by simpa using hb)
      subst hk
      refine mW ?_; clear H; intro a w H
      refine mCall [] [] (leafText_v key v h1 h2) H ?_; clear H; intro a w H; try refine wpList_nil ?_
      refine mW ?_; clear H; intro a w H
      have hX := @Nd.text.eq_1
      refine wp_ret ?_; exact mEnd [] [0] [.tmp 2, .tmp 3] [_, _] hN hR H
    · have hX := @Nd.text.eq_1
      refine mW ?_; clear H; intro a w H
      refine mC H (fun hb => ?_) (fun hb => ?_)
      · have hk : k = 2 := hk2.1 (by simpa using hb)
        subst hk
        refine mW ?_; clear H; intro a w H
        refine mCall [] [] (innerText_v l r h3 h4) H ?_; clear H; intro a w H; try refine wpList_nil ?_
        refine mW ?_; clear H; intro a w H
        refine wp_ret ?_; exact mEnd [] [0] [.tmp 2, .tmp 3] [_, _] hN hR H
      · have hk : k = 0 := by
          simp only [Nd.ok, Nd.bare, Nd.zero] at h
          simp_all
        subst hk
        refine mW ?_; clear H; intro a w H
        refine mCall [] [] (emptyText_v) H ?_; clear H; intro a w H; try refine wpList_nil ?_
        refine mW ?_; clear H; intro a w H
        refine wp_ret ?_; exact mEnd [] [0] [.tmp 2, .tmp 3] [_, _] hN hR H
end Go.Proofs.Ytigmpdhnhkdeiaa
/- octet.Compare: byte by byte. -/
namespace Go.Proofs.Ytigmpdhnhkdeiaa
open Go Go.RowKit
set_option maxHeartbeats 1000000 in
set_option maxRecDepth 100000 in
theorem cmp_any (a b : ByteArray) (w : World) : Calls Try.prog 221 #[.string a, .string b] w fun e w' => e = .returned (.int .i64 (Lib.compareBytes a.data.toList b.data.toList)) ∧ w' = w := by
  go_enter Try.func221, Try.ntmps221
  go_wp2
  rw [run_callFunc_extern Try.func272 (by kernel_rfl) (by kernel_rfl) (by kernel_rfl) (e := Extern.BytealgCompare.compare) (by kernel_rfl), Lib.run_compareString]
  simp only [Result.andThen]
  rw [Oper.upon_value]
  go_wp2
  go_ret
  exact ⟨rfl, rfl⟩
theorem cmpS_v (a b : ByteArray) : VC Try.prog 221 [.v (.string a), .v (.string b)] [] (.v (.int .i64 (Lib.compareBytes a.data.toList b.data.toList))) := by
  refine VC.ofA ⟨_, Try.func221, by kernel_rfl, by kernel_rfl⟩ fun w N vs hM hl hv => ?_
  obtain ⟨u, v, rfl, h1, h2⟩ := two (args := []) hl hv
  have e1 := h1.v_inv
  have e2 := h2.v_inv
  subst e1 e2
  refine (cmp_any a b w).mono fun e w' hp => ?_
  obtain ⟨rfl, rfl⟩ := hp
  exact ⟨_, rfl, Below.refl _ _, RV.v_of rfl⟩
end Go.Proofs.Ytigmpdhnhkdeiaa
/- The program's reader of bytes. -/
namespace Go.Proofs.Ytigmpdhnhkdeiaa
open Go Go.RowKit
def rdv (bad : Bool) (l : List UInt8) : AV := .st [.v (.bool true), .v (.bool bad), .bs l none]
abbrev rdT : Ty := .cn .sc (.cn .sc (.cn .sc .nl))
theorem newRd_v (l : List UInt8) (hl : l.length ≤ 34359738000) : VX Try.prog 101 [] [] [] [.bs l none] [(rdT, rdv false l)] [] [] (.ptr 0 []) := by
  refine mE Try.func101 ?_; intro N w0 a w hN hR H
  refine mW ?_; clear H; intro a w H
  have hX := @rdv.eq_1
  refine wp_ret ?_; exact mEnd [0] [] [.tmp 2] [_] hN hR H
theorem good_v (bad : Bool) (l : List UInt8) : VX Try.prog 167 [(rdT, rdv bad l)] [] [] [.ptr 0 []] [(rdT, rdv bad l)] [] [] (.v (.bool (!bad))) := by
  refine mE Try.func167 ?_; intro N w0 a w hN hR H
  simp only [rdv] at H
  refine mW ?_; clear H; intro a w H
  have hX := @rdv.eq_1
  refine wp_ret ?_; exact mEnd [0] [] [.tmp 2] [_] hN hR H
theorem bad_v (bad : Bool) (l : List UInt8) : VX Try.prog 103 [(rdT, rdv bad l)] [] [] [.ptr 0 []] [(rdT, rdv bad l)] [] [] (.v (.bool bad)) := by
  refine mE Try.func103 ?_; intro N w0 a w hN hR H
  simp only [rdv] at H
  refine mW ?_; clear H; intro a w H
  have hX := @rdv.eq_1
  refine wp_ret ?_; exact mEnd [0] [] [.tmp 2] [_] hN hR H
theorem left_v (bad : Bool) (l : List UInt8) : VX Try.prog 106 [(rdT, rdv bad l)] [] [] [.ptr 0 []] [(rdT, rdv bad l)] [] [] (.v (.int .i64 (if bad then 0 else (l.length : Int)))) := by
  have hg := good_v bad l
  refine mE Try.func106 ?_; intro N w0 a w hN hR H
  simp only [rdv] at H hg
  refine mW ?_; clear H; intro a w H
  refine mCall [0] [] (hg) H ?_; clear H; intro a w H; try refine wpList_nil ?_
  refine mW ?_; clear H; intro a w H
  cases bad
  · refine mC H (fun hb => ?_) (fun hb => ?_)
    · simp at hb
    · refine mW ?_; clear H; intro a w H
      have hX := @rdv.eq_1
      refine wp_ret ?_; exact mEnd [0] [] [.tmp 2] [_] hN hR H
  · refine mC H (fun hb => ?_) (fun hb => ?_)
    · refine mW ?_; clear H; intro a w H
      have hX := @rdv.eq_1
      refine wp_ret ?_; exact mEnd [0] [] [.tmp 2] [_] hN hR H
    · simp at hb
theorem take_ok (l : List UInt8) (n : Nat) (hn : n ≤ l.length) (hl : l.length ≤ 34359738000) : VX Try.prog 104 [(rdT, rdv false l)] [] [] [.ptr 0 [], .v (.int .i64 (n : Int))] [(rdT, rdv false (l.drop n))] [] [(5, n)] (.bs (l.take n) (some 0)) := by
  have hg := good_v false l
  have ht : (l.take n).length = n := by rw [List.length_take]; omega
  refine mE Try.func104 ?_; intro N w0 a w hN hR H
  simp only [rdv] at H hg
  refine mW ?_; clear H; intro a w H
  refine mCall [0] [] (hg) H ?_; clear H; intro a w H; try refine wpList_nil ?_
  refine mW ?_; clear H; intro a w H
  refine mC H (fun hb => ?_) (fun hb => ?_)
  · simp at hb
  · refine mW ?_; clear H; intro a w H
    refine mC H (fun hb => ?_) (fun hb => ?_)
    · exfalso; simp at hb; omega
    · have hX := @ht
      refine mW ?_; clear H; intro a w H
      clear hX; have hX := And.intro @rdv.eq_1 (@ht)
      refine wp_ret ?_; exact mEnd [0] [0] [.tmp 4] [_] hN hR H
theorem take_was (l : List UInt8) (n : Int) : VX Try.prog 104 [(rdT, rdv true l)] [] [] [.ptr 0 [], .v (.int .i64 n)] [(rdT, rdv true l)] [] [] (.v (.slice none 0 0)) := by
  have hg := good_v true l
  refine mE Try.func104 ?_; intro N w0 a w hN hR H
  simp only [rdv] at H hg
  refine mW ?_; clear H; intro a w H
  refine mCall [0] [] (hg) H ?_; clear H; intro a w H; try refine wpList_nil ?_
  refine mW ?_; clear H; intro a w H
  refine mC H (fun hb => ?_) (fun hb => ?_)
  · refine mW ?_; clear H; intro a w H
    have hX := @rdv.eq_1
    refine wp_ret ?_; exact mEnd [0] [] [.tmp 4] [_] hN hR H
  · simp at hb
theorem take_bad (l : List UInt8) (n : Nat) (hn : l.length < n) : VX Try.prog 104 [(rdT, rdv false l)] [] [] [.ptr 0 [], .v (.int .i64 (n : Int))] [(rdT, rdv true l)] [] [] (.v (.slice none 0 0)) := by
  have hg := good_v false l
  refine mE Try.func104 ?_; intro N w0 a w hN hR H
  simp only [rdv] at H hg
  refine mW ?_; clear H; intro a w H
  refine mCall [0] [] (hg) H ?_; clear H; intro a w H; try refine wpList_nil ?_
  refine mW ?_; clear H; intro a w H
  refine mC H (fun hb => ?_) (fun hb => ?_)
  · simp at hb
  · refine mW ?_; clear H; intro a w H
    refine mC H (fun hb => ?_) (fun hb => ?_)
    · refine mW ?_; clear H; intro a w H
      have hX := @rdv.eq_1
      refine wp_ret ?_; exact mEnd [0] [] [.tmp 4] [_] hN hR H
    · exfalso; simp at hb; omega
end Go.Proofs.Ytigmpdhnhkdeiaa
/- octet.Compare, numbers as two bytes. -/
namespace Go.Proofs.Ytigmpdhnhkdeiaa
open Go Go.RowKit
theorem cmpT_v (x y : ByteArray) : VC Try.prog 170 [.v (.string x), .v (.string y)] [] (.v (.int .i64 (Lib.compareBytes x.data.toList y.data.toList))) := by
  refine mE Try.func170 ?_; intro N w0 a w hN hR H
  refine mW ?_; clear H; intro a w H
  refine mCall [] [] (cmpS_v x y) H ?_; clear H; intro a w H; try refine wpList_nil ?_
  refine mW ?_; clear H; intro a w H
  refine wp_ret ?_; exact mEnd [] [] [.tmp 4] [_] hN hR H
theorem compare_v (x y : List UInt8) : VC Try.prog 107 [.bs x none, .bs y none] [] (.v (.int .i64 (Lib.compareBytes x y))) := by
  have h := cmpT_v (strOf x) (strOf y)
  have e1 : (strOf x).data.toList = x := rfl
  have e2 : (strOf y).data.toList = y := rfl
  rw [e1, e2] at h
  refine mE Try.func107 ?_; intro N w0 a w hN hR H
  refine mW ?_; clear H; intro a w H
  refine mCall [] [] (h) H ?_; clear H; intro a w H; try refine wpList_nil ?_
  refine mW ?_; clear H; intro a w H
  refine wp_ret ?_; exact mEnd [] [] [.tmp 4] [_] hN hR H
theorem put16_v (n : Nat) (hn : n ≤ 65535) : VC Try.prog 98 [.v (.int .i64 (n : Int))] [(5, 2)] (.tup [.bs [UInt8.ofNat (n / 256), UInt8.ofNat n] (some 0), errv 0]) := by
  have e3 := u8n n 256; have e4 := u8m n
  simp only [Int.cast_ofNat_Int] at e3 e4
  refine mE Try.func98 ?_; intro N w0 a w hN hR H
  refine mW ?_; clear H; intro a w H
  refine mC H (fun hb => ?_) (fun hb => ?_)
  · exfalso; simp at hb; omega
  · refine mW ?_; clear H; intro a w H
    rw [e3, e4] at H
    refine wp_ret ?_; exact mEnd [] [0] [.tmp 2, .tmp 3] [_, _] hN hR H
theorem or8 (x : Nat) (hx : x < 16777216) (c : Nat) (hc : c < 256) : bits .or .i64 (IntKind.i64.wrap ((x : Int) * 256)) (c : Int) = ((256 * x + c : Nat) : Int) := by
  have h1 : IntKind.i64.wrap ((x : Int) * 256) = ((256 * x : Nat) : Int) := by rw [IntKind.wrap_i64]; omega
  have o : 256 * x ||| c = 256 * x + c := by
    have := Nat.two_pow_add_eq_or_of_lt (i := 8) hc x
    simpa using this.symm
  have e : ∀ y : Nat, y < 4294967296 → (BitVec.ofInt 64 (y : Int)).toNat = y := fun y hy => by
    rw [BitVec.ofInt_natCast, BitVec.toNat_ofNat]; exact Nat.mod_eq_of_lt (by omega)
  rw [h1]
  show IntKind.i64.wrap ((BitVec.ofInt 64 ((256 * x : Nat) : Int) ||| BitVec.ofInt 64 (c : Int)).toNat : Int) = _
  rw [BitVec.toNat_or, e _ (by omega), e _ (by omega), o, IntKind.wrap_i64]
  omega
/-- A number, the highest byte first. -/
def num : Nat → List UInt8 → Nat
  | x, [] => x
  | x, b :: l => num (256 * x + b.toNat) l
theorem num_append (x : Nat) (l m : List UInt8) : num x (l ++ m) = num (num x l) m := by
  induction l generalizing x with
  | nil => rfl
  | cons b l ih => exact ih _
theorem num_lt : ∀ (l : List UInt8) (x : Nat), num x l < 256 ^ l.length * (x + 1)
  | [], x => by simp [num]
  | b :: l, x => by
    have h := num_lt l (256 * x + b.toNat)
    have hb := b.toNat_lt
    simp only [num, List.length_cons, Nat.pow_succ]
    refine Nat.lt_of_lt_of_le h ?_
    rw [Nat.mul_assoc]
    exact Nat.mul_le_mul_left _ (by omega)
theorem num2_lt (l : List UInt8) (h : l.length = 2) : num 0 l < 65536 := by
  match l, h with
  | [a, b], _ =>
    have := a.toNat_lt; have := b.toNat_lt
    simp only [num]; omega
theorem number_ok (l : List UInt8) (n : Nat) (hn : n ≤ l.length) (h4 : n ≤ 4) (hl : l.length ≤ 34359738000) : VX Try.prog 166 [(rdT, rdv false l)] [] [] [.ptr 0 [], .v (.int .i64 (n : Int))] [(rdT, rdv false (l.drop n))] [] [] (.v (.int .i64 ((num 0 (l.take n) : Nat) : Int))) := by
  have ht := take_ok l n hn hl
  have hln : (l.take n).length = n := by rw [List.length_take]; omega
  refine mE Try.func166 ?_; intro N w0 a w hN hR H
  simp only [rdv] at H ht
  refine mW ?_; clear H; intro a w H
  refine mCall [0] [] (ht) H ?_; clear H; intro a w H; try refine wpList_nil ?_
  refine mW ?_; clear H; intro a w H
  refine v_loop (fun k : Nat => ⟨[(12, none, .v (.int .i64 (k : Int))), (11, none, .v (.int .i64 (n : Int))), (10, none, .bs (l.take n) (some 0)), (5, none, .v (.int .i64 ((num 0 ((l.take n).take k) : Nat) : Int)))], [(rdT, .st [.v (.bool true), .v (.bool false), .bs (l.drop n) none])], [], [(5, n)]⟩) (fun k => k ≤ n) (fun k => n - k) 0 (Nat.zero_le _) (H.to 1 1 ⟨hN, Nat.le_trans hR (by decide)⟩ ⟨rfl, by rw [hln]; rfl, rfl, rfl, trivial⟩ rfl rfl rfl rfl rfl) ?_
  clear H
  intro k a w hk H
  refine mW ?_; clear H; intro a w H
  refine mC H (fun hb => ?_) (fun hb => ?_)
  · have hlt : k < n := by simpa using hb
    have hlt' : k < (l.take n).length := by omega
    have h8 := ((l.take n).getD k 0).toNat_lt
    refine mW ?_; clear H; intro a w H
    have hx : num 0 ((l.take n).take k) < 16777216 := by
      have h1 := num_lt ((l.take n).take k) 0
      rw [List.length_take, Nat.min_eq_left (by omega)] at h1
      have h2 : (256 : Nat) ^ k ≤ 256 ^ 3 := Nat.pow_le_pow_right (by decide) (by omega)
      omega
    have hnx : num 0 ((l.take n).take (k + 1)) = 256 * num 0 ((l.take n).take k) + ((l.take n).getD k 0).toNat := by
      rw [List.take_succ_eq_append_getElem hlt', num_append, ← List.getElem_eq_getD (h := hlt') 0]
      rfl
    rw [or8 _ hx _ h8, ← hnx] at H
    exact ⟨k + 1, hlt, by omega, H.to 1 1 ⟨hN, Nat.le_trans hR (by decide)⟩ ⟨rfl, rfl, rfl, rfl, trivial⟩ rfl rfl rfl rfl rfl⟩
  · have hge : k = n := by simp at hb; omega
    subst hge
    rw [List.take_take, Nat.min_self] at H
    refine mW ?_; clear H; intro a w H
    have hX := @rdv.eq_1
    refine wp_ret ?_; exact mEnd [0] [] [.tmp 4] [_] hN hR H
theorem number_bad (l : List UInt8) (n : Nat) (hn : l.length < n) : VX Try.prog 166 [(rdT, rdv false l)] [] [] [.ptr 0 [], .v (.int .i64 (n : Int))] [(rdT, rdv true l)] [] [] (.v (.int .i64 0)) := by
  have ht := take_bad l n hn
  refine mE Try.func166 ?_; intro N w0 a w hN hR H
  simp only [rdv] at H ht
  refine mW ?_; clear H; intro a w H
  refine mCall [0] [] (ht) H ?_; clear H; intro a w H; try refine wpList_nil ?_
  refine mW ?_; clear H; intro a w H
  refine v_loop (fun k : Nat => ⟨[(12, none, .v (.int .i64 (k : Int))), (11, none, .v (.int .i64 0)), (5, none, .v (.int .i64 0))], [(rdT, .st [.v (.bool true), .v (.bool true), .bs l none])], [], []⟩) (fun k => k = 0) (fun k => k) 0 rfl (H.to 1 0 ⟨hN, hR⟩ ⟨rfl, rfl, rfl, trivial⟩ rfl rfl rfl rfl rfl) ?_
  clear H
  intro k a w hk H
  subst hk
  refine mW ?_; clear H; intro a w H
  refine mC H (fun hb => ?_) (fun hb => ?_)
  · simp at hb
  · refine mW ?_; clear H; intro a w H
    have hX := @rdv.eq_1
    refine wp_ret ?_; exact mEnd [0] [] [.tmp 4] [_] hN hR H
theorem u16_ok (l : List UInt8) (hn : 2 ≤ l.length) (hl : l.length ≤ 34359738000) : VX Try.prog 102 [(rdT, rdv false l)] [] [] [.ptr 0 []] [(rdT, rdv false (l.drop 2))] [] [] (.v (.int .i64 ((num 0 (l.take 2) : Nat) : Int))) := by
  have hb := num2_lt (l.take 2) (by rw [List.length_take]; omega)
  have ht := number_ok l 2 hn (by decide) hl
  refine mE Try.func102 ?_; intro N w0 a w hN hR H
  simp only [rdv] at H ht
  refine mW ?_; clear H; intro a w H
  refine mCall [0] [] (ht) H ?_; clear H; intro a w H; try refine wpList_nil ?_
  refine mW ?_; clear H; intro a w H
  have hX := @rdv.eq_1
  refine wp_ret ?_; exact mEnd [0] [] [.tmp 2] [_] hN hR H
theorem u16_bad (l : List UInt8) (hn : l.length < 2) : VX Try.prog 102 [(rdT, rdv false l)] [] [] [.ptr 0 []] [(rdT, rdv true l)] [] [] (.v (.int .i64 0)) := by
  have ht := number_bad l 2 hn
  refine mE Try.func102 ?_; intro N w0 a w hN hR H
  simp only [rdv] at H ht
  refine mW ?_; clear H; intro a w H
  refine mCall [0] [] (ht) H ?_; clear H; intro a w H; try refine wpList_nil ?_
  refine mW ?_; clear H; intro a w H
  have hX := @rdv.eq_1
  refine wp_ret ?_; exact mEnd [0] [] [.tmp 2] [_] hN hR H
theorem bits_v (n : Nat) (hn : n ≤ 34359738000) : VC Try.prog 235 [.v (.int .i64 (n : Int))] [] (.v (.int .i64 (((n + 7) / 8 : Nat) : Int))) := by
  refine mE Try.func235 ?_; intro N w0 a w hN hR H
  refine mW ?_; clear H; intro a w H
  refine wp_ret ?_; exact mEnd [] [] [.tmp 2] [_] hN hR H
end Go.Proofs.Ytigmpdhnhkdeiaa
/- Keys as ways down: the program's and the document's functions. -/
namespace Go.Proofs.Ytigmpdhnhkdeiaa
open Go Go.RowKit
theorem e7w (d : Int) (h0 : 0 ≤ d) : (if (d % 8).toNat ≤ 8 then (d % 8).toNat else 8) = d.toNat % 8 := by split <;> omega
theorem e8w (d : Int) (h0 : 0 ≤ d) : (d / 8).toNat = d.toNat / 8 := by omega
theorem mask_v (d : Int) (h0 : 0 ≤ d) (h1 : d < 256) : VC Try.prog 151 [.v (.int .i64 d)] [] (.v (.int .u8 (128 / 2 ^ (d.toNat % 8)))) := by
  have e7 := e7w d h0
  refine mE Try.func151 ?_; intro N w0 a w hN hR H
  have hX := @e7
  have hY := @e7
  refine mW ?_; clear H; intro a w H
  refine wp_ret ?_; exact mEnd [] [] [.tmp 2] [_] hN hR H
set_option maxRecDepth 20000 in
theorem bit_v (p : List UInt8) (hp : p.length = 32) (d : Int) : VC Try.prog 81 [.ba p, .v (.int .i64 d)] [] (.v (.int .i64 (pbit p d))) := by
  refine mE Try.func81 ?_; intro N w0 a w hN hR H
  refine mW ?_; clear H; intro a w H
  by_cases h : 0 ≤ d ∧ d < 256
  · have hm := mask_v d h.1 h.2
    have e8 := e8w d h.1
    rw [pbit, if_pos h]
    have h1 := h.1; have h2 := h.2
    refine mC H (fun hb => ?_) (fun hb => ?_)
    · exfalso; simp at hb; omega
    · refine mS ?_; refine mD 1 [5] [0, 1, 2, 3] H ?_; clear H; intro gS H; refine mT ?_; clear H; intro a w H
      refine mCallT [] [] (hm) H ?_; clear H; intro a w H
      have hX := @e8
      have hY := @e8
      refine mT ?_; clear H; intro a w H
      refine v_drawNil H ?_; clear H; intro H
      rw [and_bit] at H
      have eb : bitAt (p.getD (d.toNat / 8) 0) (d.toNat % 8) = bitN p d.toNat := rfl
      rw [eb] at H
      refine mC H (fun hb => ?_) (fun hb => ?_)
      · rw [hb]
        refine mW ?_; clear H; intro a w H
        refine wp_ret ?_; exact mEnd [] [] [.tmp 4] [_] hN hR H
      · rw [hb]
        refine mW ?_; clear H; intro a w H
        refine wp_ret ?_; exact mEnd [] [] [.tmp 4] [_] hN hR H
  · rw [pbit, if_neg h]
    refine mC H (fun hb => ?_) (fun hb => ?_)
    · refine mW ?_; clear H; intro a w H
      refine wp_ret ?_; exact mEnd [] [] [.tmp 4] [_] hN hR H
    · exfalso; simp at hb; omega
end Go.Proofs.Ytigmpdhnhkdeiaa
/- Keys as ways down: the document's functions. -/
namespace Go.Proofs.Ytigmpdhnhkdeiaa
open Go Go.RowKit
theorem half_bit (c : UInt8) (m : Nat) (hm : m < 8) : c.toNat / 2 ^ (7 - m) % 2 = if bitAt c m then 1 else 0 := by
  rw [bitAt_test c m hm, Nat.testBit_eq_decide_div_mod_eq]
  have := Nat.mod_two_eq_zero_or_one (c.toNat / 2 ^ (7 - m))
  rcases this with h | h <;> rw [h] <;> rfl
set_option maxRecDepth 20000 in
theorem bitR_v (p : List UInt8) (hp : p.length = 32) (d : Int) : VC Try.prog 127 [.ba p, .v (.int .i64 d)] [] (.v (.int .i64 (pbit p d))) := by
  refine mE Try.func127 ?_; intro N w0 a w hN hR H
  refine mW ?_; clear H; intro a w H
  by_cases h : 0 ≤ d ∧ d < 256
  · have e8 := e8w d h.1
    skip
    refine mC H (fun hb => ?_) (fun hb => ?_)
    · exfalso; simp at hb; omega
    · obtain ⟨c, hc⟩ : ∃ c, c = p.getD (d.toNat / 8) 0 := ⟨_, rfl⟩
      have hc8 := c.toNat_lt
      have hX := And.intro @e8 (Eq.symm (hc))
      have hY := @e8
      refine mW ?_; clear H; intro a w H
      refine v_loop (fun k : Nat => ⟨[(6, none, .v (.int .i64 (k : Int))), (5, none, .v (.int .i64 ((c.toNat / 2 ^ k : Nat) : Int))), (1, none, .v (.int .i64 d))], [(.ba 32, .ba p)], [], []⟩) (fun k => k ≤ 7 - d.toNat % 8) (fun k => 8 - k) 0 (Nat.zero_le _) (H.to 1 0 ⟨Nat.le_trans hN (by decide), hR⟩ ⟨rfl, by rw [Nat.pow_zero, Nat.div_one]; rfl, rfl, trivial⟩ rfl rfl rfl rfl rfl) ?_
      clear H
      intro k a w hk H
      have hlt2 : c.toNat / 2 ^ k < 256 := Nat.lt_of_le_of_lt (Nat.div_le_self _ _) hc8
      obtain ⟨v, hv⟩ : ∃ v, v = c.toNat / 2 ^ k := ⟨_, rfl⟩
      rw [← hv] at H hlt2
      have hv' : PLift (v = c.toNat / 2 ^ k) := ⟨hv⟩
      clear hv
      clear hX
      clear hY
      refine mW ?_; clear H; intro a w H
      refine mC H (fun hb => ?_) (fun hb => ?_)
      · have hlt : k < 7 - d.toNat % 8 := by simp at hb; omega
        refine mW ?_; clear H; intro a w H
        have e2 : (v : Int) / 2 = ((c.toNat / 2 ^ (k + 1) : Nat) : Int) := by
          have hv : v = c.toNat / 2 ^ k := hv'.down
          rw [Nat.pow_succ, ← Nat.div_div_eq_div_mul, ← hv]; omega
        rw [e2] at H
        exact ⟨k + 1, hlt, by omega, H.to 1 0 ⟨Nat.le_trans hN (by decide), hR⟩ ⟨rfl, rfl, rfl, trivial⟩ rfl rfl rfl rfl rfl⟩
      · have hge : k = 7 - d.toNat % 8 := by simp at hb; omega
        subst hge
        have hb2 := half_bit c (d.toNat % 8) (by omega)
        have hv : v = c.toNat / 2 ^ (7 - d.toNat % 8) := hv'.down
        rw [← hv] at hb2
        clear hv
        have e3 : pbit p d = ((v % 2 : Nat) : Int) := by
          rw [pbit, if_pos h, hb2, hc]; unfold bitN; split <;> rfl
        rw [e3]
        refine mW ?_; clear H; intro a w H
        refine wp_ret ?_; exact mEnd [] [] [.tmp 4] [_] hN hR H
  · rw [pbit, if_neg h]
    refine mC H (fun hb => ?_) (fun hb => ?_)
    · refine mW ?_; clear H; intro a w H
      refine wp_ret ?_; exact mEnd [] [] [.tmp 4] [_] hN hR H
    · exfalso; simp at hb; omega
end Go.Proofs.Ytigmpdhnhkdeiaa
/- Digests of a byte and parts: the program's. -/
namespace Go.Proofs.Ytigmpdhnhkdeiaa
open Go Go.RowKit
theorem of_v (t : UInt8) (ls : List (List UInt8)) (hb : ls.flatten.length ≤ 34359737000) (hl : ls.length ≤ 34359737000) : VC Try.prog 136 [.v (B8 t), .sl .sc (bss ls) none] [] (.ba (sum (t :: ls.flatten))) := by
  have hbl := bss_len ls
  have ht := t.toNat_lt
  refine mE Try.func136 ?_; intro N w0 a w hN hR H
  have hX := And.intro @ren_s8v (@ren_shv)
  have hY := And.intro @s8v.eq_1 (And.intro @shv.eq_1 (And.intro @W32.eq_1 (@h0.eq_1)))
  refine mW ?_; clear H; intro a w H
  refine mCall [] [] (new_v) H ?_; clear H; intro a w H; try refine wpList_nil ?_
  refine mW ?_; clear H; intro a w H
  obtain ⟨s1, b1, n1, h1, hw1⟩ := write_g [] [t] h0 (List.replicate 64 0) 0 good_nil (by simp) 0 (by decide)
  refine mCall [1] [] (hw1) H ?_; clear H; intro a w H; try refine wpList_nil ?_
  refine mW ?_; clear H; intro a w H
  refine v_loop (fun i : S8 × List UInt8 × Nat × Nat => ⟨[(4, none, .ptr 0 []), (5, none, .ptr 1 []), (15, none, .v (.int .i64 (i.2.2.2 : Int))), (14, none, .v (.int .i64 (ls.length : Int))), (13, none, .sl .sc (bss ls) none)], [(.ba 32, .ba (List.replicate 32 0)), (ti361.ty, shv i.1 i.2.1 i.2.2.1 (1 + (ls.take i.2.2.2).flatten.length))], [], []⟩)
    (fun i => Good (t :: (ls.take i.2.2.2).flatten) i.1 i.2.1 i.2.2.1 ∧ i.2.2.2 ≤ ls.length) (fun i => ls.length - i.2.2.2) (s1, b1, n1, 0) ⟨by simpa using h1, Nat.zero_le _⟩
    (H.to 2 0 ⟨Nat.le_trans hN (by decide), hR⟩ ⟨rfl, rfl, rfl, by rw [hbl]; rfl, rfl, trivial⟩ rfl rfl rfl rfl rfl) ?_
  clear H
  rintro ⟨s2, b2, n2, k⟩ a w ⟨h2, hk⟩ H
  dsimp only at h2 hk H
  refine mW ?_; clear H; intro a w H
  refine mC H (fun hb => ?_) (fun hb => ?_)
  · have hlt : k < ls.length := by simpa using hb
    have hf := flat_take_le ls (k + 1)
    rw [flat_take ls k hlt, List.length_append] at hf
    refine wp_skip ?_
    refine wp_seq ?_
    refine wp_block ?_
    refine wp_seq ?_
    (try refine wp_region_lit ?_); refine mN 2 hN H ?_; clear H; intro a w H
    rw [bss_get ls k hlt] at H
    refine mW ?_; clear H; intro a w H
    obtain ⟨s3, b3, n3, h3, hw3⟩ := write_g _ ls[k] s2 b2 n2 h2 (by omega) (1 + (ls.take k).flatten.length) (by omega)
    refine mCall [1] [] (hw3) H ?_; clear H; intro a w H; try refine wpList_nil ?_
    refine mW ?_; clear H; intro a w H
    refine ⟨(s3, b3, n3, k + 1), ⟨by rw [flat_take ls k hlt]; simpa using h3, hlt⟩, by dsimp only; omega, H.to 2 0 ⟨Nat.le_trans hN (by decide), hR⟩ ⟨rfl, rfl, rfl, rfl, rfl, trivial⟩ (by rw [flat_take ls k hlt, List.length_append]; simp only [List.take_succ_cons, List.take_zero]; rw [Nat.add_assoc]) rfl rfl rfl rfl⟩
  · have hge : k = ls.length := by simp at hb; omega
    subst hge
    rw [List.take_length] at h2 H
    have hsl := sum_length (t :: ls.flatten)
    have h1l : (t :: ls.flatten).length = 1 + ls.flatten.length := by simp; omega
    have hsum := sumS_v (t :: ls.flatten) s2 b2 n2 h2 (by rw [h1l]; omega)
    rw [h1l] at hsum
    refine mW ?_; clear H; intro a w H
    refine mCall [1] [] (hsum) H ?_; clear H; intro a w H; try refine wpList_nil ?_
    refine mW ?_; clear H; intro a w H
    refine wp_ret ?_; exact mEnd [] [] [.cell 4 50] [_] hN hR H
theorem empty_v : VC Try.prog 178 [] [] (.ba (sum [0])) := by
  have hsl := sum_length [0]
  refine mE Try.func178 ?_; intro N w0 a w hN hR H
  have hX := And.intro @ren_s8v (@ren_shv)
  have hY := And.intro @s8v.eq_1 (And.intro @shv.eq_1 (And.intro @W32.eq_1 (@h0.eq_1)))
  refine mW ?_; clear H; intro a w H
  refine mCall [] [] (of_v 0 [] (by simp) (by simp)) H ?_; clear H; intro a w H; try refine wpList_nil ?_
  refine mW ?_; clear H; intro a w H
  refine wp_ret ?_; exact mEnd [] [] [.cell 0 50] [_] hN hR H
end Go.Proofs.Ytigmpdhnhkdeiaa
/- Nodes: what is read. -/
namespace Go.Proofs.Ytigmpdhnhkdeiaa
open Go Go.RowKit
def Nd.one (a b : List UInt8) : Nd := ⟨1, a, b, z32, z32⟩
def Nd.two (a b : List UInt8) : Nd := ⟨2, z32, z32, a, b⟩
theorem decode_zero : VC Try.prog 236 [.bs [0] none] [] (.tup [Nd.zero.av, errv 0]) := by
  refine mE Try.func236 ?_; intro N w0 a w hN hR H
  refine mW ?_; clear H; intro a w H
  refine mC H (fun hb => ?_) (fun hb => ?_)
  · refine mW ?_; clear H; intro a w H
    refine wp_ret ?_; exact mEnd [] [] [.cell 2 66, .tmp 3] [_, _] hN hR H
  · simp at hb
theorem decode_one (m : List UInt8) (hm : m.length = 64) : VC Try.prog 236 [.bs (1 :: m) none] [] (.tup [(Nd.one (m.take 32) (m.drop 32)).av, errv 0]) := by
  have e1 : (m.drop 32).take 32 = m.drop 32 := List.take_of_length_le (by simp; omega)
  refine mE Try.func236 ?_; intro N w0 a w hN hR H
  refine mW ?_; clear H; intro a w H
  refine mC H (fun hb => ?_) (fun hb => ?_)
  · simp [hm] at hb
  · refine mW ?_; clear H; intro a w H
    refine mC H (fun hb => ?_) (fun hb => ?_)
    · have hX := And.intro @List.take_take.{0} (And.intro @Nat.min_self (@e1))
      replace H := mK [0, 2, 3] 1 0 hN hR H
      refine mS ?_; refine mD 0 [9] [] H ?_; clear H; intro gS H; refine mT ?_; clear H; intro a w H
      refine v_drawNil H ?_; clear H; intro H
      refine mW ?_; clear H; intro a w H
      refine wp_ret ?_; exact mEnd [] [] [.cell 2 66, .tmp 3] [_, _] hN hR H
    · simp [hm] at hb
theorem decode_two (m : List UInt8) (hm : m.length = 64) : VC Try.prog 236 [.bs (2 :: m) none] [] (.tup [(Nd.two (m.take 32) (m.drop 32)).av, errv 0]) := by
  have e1 : (m.drop 32).take 32 = m.drop 32 := List.take_of_length_le (by simp; omega)
  refine mE Try.func236 ?_; intro N w0 a w hN hR H
  refine mW ?_; clear H; intro a w H
  refine mC H (fun hb => ?_) (fun hb => ?_)
  · simp [hm] at hb
  · refine mW ?_; clear H; intro a w H
    refine mC H (fun hb => ?_) (fun hb => ?_)
    · simp at hb
    · refine mW ?_; clear H; intro a w H
      refine mC H (fun hb => ?_) (fun hb => ?_)
      · have hX := And.intro @List.take_take.{0} (And.intro @Nat.min_self (@e1))
        replace H := mK [0, 2, 3] 1 0 hN hR H
        refine mS ?_; refine mD 0 [9] [] H ?_; clear H; intro gS H; refine mT ?_; clear H; intro a w H
        refine v_drawNil H ?_; clear H; intro H
        refine mW ?_; clear H; intro a w H
        refine wp_ret ?_; exact mEnd [] [] [.cell 2 66, .tmp 3] [_, _] hN hR H
      · simp [hm] at hb
theorem decode_bad (l : List UInt8) (h0 : l ≠ [0]) (h1 : ¬ (l.length = 65 ∧ (l.getD 0 0 = 1 ∨ l.getD 0 0 = 2))) : VC Try.prog 236 [.bs l none] [] (.tup [Nd.zero.av, errv 10]) := by
  have hx : ∀ k : Nat, k < 256 → ((((l.getD 0 0).toNat : Nat) : Int) = (k : Int) → l.getD 0 0 = UInt8.ofNat k) := fun k hk h => UInt8.toNat_inj.1 (by rw [UInt8.toNat_ofNat']; omega)
  refine mE Try.func236 ?_; intro N w0 a w hN hR H
  refine mW ?_; clear H; intro a w H
  refine mC H (fun hb => ?_) (fun hb => ?_)
  · exfalso; apply h0
    rcases l with _ | ⟨c, _ | ⟨d, l⟩⟩
    · simp at hb
    · have := hx 0 (by decide); simp at hb this; simp [this hb]
    · simp at hb; omega
  · refine mW ?_; clear H; intro a w H
    refine mC H (fun hb => ?_) (fun hb => ?_)
    · exfalso; apply h1
      have h2 := hx 1 (by decide)
      simp at hb h2
      exact ⟨by omega, .inl (by simpa using h2 hb.2)⟩
    · refine mW ?_; clear H; intro a w H
      refine mC H (fun hb => ?_) (fun hb => ?_)
      · exfalso; apply h1
        have h2 := hx 2 (by decide)
        simp at hb h2
        exact ⟨by omega, .inr (by simpa using h2 hb.2)⟩
      · refine mW ?_; clear H; intro a w H
        refine wp_ret ?_; exact mEnd [] [] [.cell 2 66, .tmp 3] [_, _] hN hR H
def decOk (l : List UInt8) : Prop := l = [0] ∨ (l.length = 65 ∧ (l.getD 0 0 = 1 ∨ l.getD 0 0 = 2))
instance (l : List UInt8) : Decidable (decOk l) := inferInstanceAs (Decidable (_ ∨ _))
def dec (l : List UInt8) : Nd := if l.length = 65 ∧ l.getD 0 0 = 1 then .one ((l.drop 1).take 32) (l.drop 33) else if l.length = 65 ∧ l.getD 0 0 = 2 then .two ((l.drop 1).take 32) (l.drop 33) else .zero
theorem z32_len : z32.length = 32 := by simp [z32]
theorem dec_one (m : List UInt8) (hm : m.length = 64) : dec (1 :: m) = .one (m.take 32) (m.drop 32) := by simp [dec, hm]
theorem dec_two (m : List UInt8) (hm : m.length = 64) : dec (2 :: m) = .two (m.take 32) (m.drop 32) := by simp [dec, hm]
theorem dec_zero : dec [0] = .zero := by simp [dec]
theorem decOk_cases {l : List UInt8} (h : decOk l) : l = [0] ∨ (∃ m, m.length = 64 ∧ l = 1 :: m) ∨ ∃ m, m.length = 64 ∧ l = 2 :: m := by
  rcases h with h | ⟨h1, h2⟩
  · exact .inl h
  · right
    cases l with
    | nil => simp at h1
    | cons c m =>
      simp at h1 h2
      rcases h2 with rfl | rfl
      · exact .inl ⟨m, h1, rfl⟩
      · exact .inr ⟨m, h1, rfl⟩
theorem dec_bad {l : List UInt8} (h : ¬ decOk l) : dec l = .zero := by
  unfold decOk at h; unfold dec
  rw [if_neg (fun e => h (.inr ⟨e.1, .inl e.2⟩)), if_neg (fun e => h (.inr ⟨e.1, .inr e.2⟩))]
theorem decode_v (l : List UInt8) : VC Try.prog 236 [.bs l none] [] (.tup [(dec l).av, errv (if decOk l then 0 else 10)]) := by
  by_cases h : decOk l
  · rw [if_pos h]
    rcases decOk_cases h with rfl | ⟨m, hm, rfl⟩ | ⟨m, hm, rfl⟩
    · rw [dec_zero]; exact decode_zero
    · rw [dec_one m hm]; exact decode_one m hm
    · rw [dec_two m hm]; exact decode_two m hm
  · rw [if_neg h, dec_bad h]
    exact decode_bad l (fun e => h (.inl e)) (fun e => h (.inr e))
theorem zero_wf : Nd.zero.wf := ⟨z32_len, z32_len, z32_len, z32_len⟩
theorem dec_wf (l : List UInt8) : (dec l).wf := by
  by_cases h : decOk l
  · rcases decOk_cases h with rfl | ⟨m, hm, rfl⟩ | ⟨m, hm, rfl⟩
    · rw [dec_zero]; exact zero_wf
    · rw [dec_one m hm]; exact ⟨by simp [Nd.one]; omega, by simp [Nd.one]; omega, z32_len, z32_len⟩
    · rw [dec_two m hm]; exact ⟨z32_len, z32_len, by simp [Nd.two]; omega, by simp [Nd.two]; omega⟩
  · rw [dec_bad h]; exact zero_wf
theorem Nd.ok_cases {n : Nd} (h : n.ok) : n = .zero ∨ (∃ a b, n = .one a b) ∨ ∃ a b, n = .two a b := by
  unfold Nd.ok Nd.bare at h
  split at h
  · exact .inr (.inl ⟨_, _, h⟩)
  · split at h
    · exact .inr (.inr ⟨_, _, h⟩)
    · exact .inl h
theorem text_len {n : Nd} (hw : n.wf) : n.text.length ≤ 65 := by
  obtain ⟨h1, h2, h3, h4⟩ := hw
  unfold Nd.text
  split
  · simp; omega
  · split
    · simp; omega
    · simp
end Go.Proofs.Ytigmpdhnhkdeiaa
/- What the statements share: bytes that are lent, and kept. -/
namespace Go.Proofs.Ytigmpdhnhkdeiaa
open Go Go.RowKit
/-- The marks in the spare room. -/
def marks (n : Nat) : Nat → List UInt8
  | 0 => []
  | k + 1 => marks n k ++ [UInt8.ofNat (200 + (n + k) % 50)]
theorem marks_len (n k : Nat) : (marks n k).length = k := by
  induction k with
  | zero => rfl
  | succ k ih => simp [marks, ih]
theorem set_end (pre : List UInt8) (m : Nat) (z x : UInt8) (hm : 0 < m) : (pre ++ List.replicate m z).set pre.length x = pre ++ [x] ++ List.replicate (m - 1) z := by
  obtain ⟨m, rfl⟩ : ∃ k, m = k + 1 := ⟨m - 1, by omega⟩
  rw [List.set_append_right _ _ (Nat.le_refl _), Nat.sub_self, List.replicate_succ]
  simp
def lentOf (l : List UInt8) : List UInt8 := l ++ marks l.length 5
theorem lent_len (l : List UInt8) : (lentOf l).length = l.length + 5 := by simp [lentOf, marks_len]
theorem lent_v (l : List UInt8) (hl : l.length ≤ 34359738000) : VX Try.prog 14 [] [] [] [.bs l none] [(.ba (l.length + 5), .ba (lentOf l))] [0] [] (.bc (lentOf l) l.length (some 0)) := by
  have hml := fun k => marks_len l.length k
  refine mE Try.func14 ?_; intro N w0 a w hN hR H
  have h5 : ((l.length : Int) + 5).toNat = l.length + 5 := by omega
  have ht : List.take (l.length + 5) l = l := List.take_of_length_le (by omega)
  have hd : List.drop l.length (List.replicate (l.length + 5) (0 : UInt8)) = List.replicate 5 0 := by rw [List.drop_replicate]; congr 1; omega
  have hX := And.intro @h5 (And.intro @ht (@hd))
  refine mW ?_; clear H; intro a w H
  refine v_loop (fun k : Nat => ⟨[(0, none, .bs l none), (3, none, .win 0 [] 0 (l.length + 5)), (4, none, .v (.int .i64 ((l.length + k : Nat) : Int)))], [(.ba (l.length + 5), .ba (l ++ marks l.length k ++ List.replicate (5 - k) 0))], [], []⟩) (fun k => k ≤ 5) (fun k => 5 - k) 0 (by decide) (H.to 1 0 ⟨Nat.le_trans hN (by decide), hR⟩ ⟨rfl, rfl, rfl, trivial⟩ (by simp [marks]) rfl rfl rfl rfl) ?_
  clear H
  intro k a w hk H
  clear hX
  refine mW ?_; clear H; intro a w H
  refine mC H (fun hb => ?_) (fun hb => ?_)
  · have hlt : k < 5 := by simp at hb; omega
    have hpl : (l ++ marks l.length k).length = l.length + k := by rw [List.length_append, hml]
    have hs := set_end (l ++ marks l.length k) (5 - k) 0 (UInt8.ofNat (200 + (l.length + k) % 50)) (by omega)
    rw [hpl] at hs
    have hx : UInt8.ofNat ((200 + ((l.length + k : Nat) : Int) % 50) % 256).toNat = UInt8.ofNat (200 + (l.length + k) % 50) := by congr 1; omega
    refine mW ?_; clear H; intro a w H
    rw [hx, hs] at H
    exact ⟨k + 1, by omega, by omega, H.to 1 0 ⟨Nat.le_trans hN (by decide), hR⟩ ⟨rfl, rfl, by simp only [find]; rfl, trivial⟩ (by simp only [List.take_succ_cons, List.take_zero, marks, List.append_assoc, Nat.sub_sub]) rfl rfl rfl rfl⟩
  · have : k = 5 := by simp at hb; omega
    subst this
    rw [Nat.sub_self, List.replicate_zero, List.append_nil] at H
    refine mW ?_; clear H; intro a w H
    have H := v_bc H 2 0 hN rfl (by omega) rfl
    simp only [nilT, reduceIte, Nat.reduceEqDiff] at H
    have hX := @lentOf.eq_1
    refine wp_ret ?_; exact mEnd [0] [] [.tmp 2] [_] hN hR H
end Go.Proofs.Ytigmpdhnhkdeiaa
/- The document's digests and nodes. -/
namespace Go.Proofs.Ytigmpdhnhkdeiaa
open Go Go.RowKit
theorem set_fill (l : List UInt8) (k n : Nat) (z : UInt8) (hk : k < l.length) (hn : k < n) : (l.take k ++ List.replicate (n - k) z).set k (l.getD k z) = l.take (k + 1) ++ List.replicate (n - (k + 1)) z := by
  have h1 : (l.take k).length = k := by rw [List.length_take]; omega
  have h2 := set_end (l.take k) (n - k) z (l.getD k z) (by omega)
  rw [h1] at h2
  rw [h2, List.take_succ_eq_append_getElem hk]
  have : l.getD k z = l[k] := by simp [List.getD, hk]
  rw [this, show n - k - 1 = n - (k + 1) by omega]
theorem textR_v (t : UInt8) (ls : List (List UInt8)) (hb : ls.flatten.length ≤ 34359738367) (hl : ls.length ≤ 34359738367) :
    VC Try.prog 195 [.v (B8 t), .sl .sc (bss ls) none] [(5, (t :: ls.flatten).length)] (.bs (t :: ls.flatten) (some 0)) := by
  have hbl := bss_len ls
  have ht : t.toNat < 256 := t.toNat_lt
  refine mE Try.func195 ?_; intro N w0 a w hN hR H
  refine mW ?_; clear H; intro a w H
  refine v_loop (fun k : Nat => ⟨[(6, none, .v (.int .i64 (k : Int))), (5, none, .bs (t :: (ls.take k).flatten) (some 0)), (1, none, .sl .sc (bss ls) none)], [], [], [(5, (t :: (ls.take k).flatten).length)]⟩) (fun k => k ≤ ls.length) (fun k => ls.length - k) 0 (Nat.zero_le _) (H.to 0 1 ⟨hN, Nat.le_trans hR (by decide)⟩ ⟨rfl, rfl, rfl, trivial⟩ rfl rfl rfl rfl rfl) ?_
  clear H
  intro k a w hk H
  refine mW ?_; clear H; intro a w H
  refine mC H (fun hb => ?_) (fun hb => ?_)
  · have hlt : k < ls.length := by rw [hbl] at hb; simpa using hb
    have hf := flat_take_le ls (k + 1)
    rw [flat_take ls k hlt, List.length_append] at hf
    refine wp_skip ?_
    repeat (first | refine wp_seq ?_ | refine wp_block ?_)
    (try refine wp_region_lit ?_); refine mN 5 hN H ?_; clear H; intro a w H
    rw [bss_get ls k hlt] at H
    refine mW ?_; clear H; intro a w H
    exact ⟨k + 1, hlt, by omega, H.to 0 1 ⟨hN, Nat.le_trans hR (by decide)⟩ ⟨rfl, by rw [flat_take ls k hlt]; rfl, rfl, trivial⟩ rfl (by rw [flat_take ls k hlt]; simp only [List.take_succ_cons, List.take_zero, List.length_cons, List.length_append, List.cons.injEq, Prod.mk.injEq, true_and, and_true]; omega) rfl rfl rfl⟩
  · have hge : k = ls.length := by rw [hbl] at hb; simp at hb; omega
    subst hge
    rw [List.take_length] at H
    refine mW ?_; clear H; intro a w H
    refine wp_ret ?_; exact mEnd [] [0] [.tmp 4] [_] hN hR H
set_option maxRecDepth 20000 in
theorem leafR_v (k v : List UInt8) (hk : k.length = 32) (hv : v.length = 32) :
    VC Try.prog 197 [.ba k, .ba v] [(5, 65)] (.bs (1 :: (k ++ v)) (some 0)) := by
  refine mE Try.func197 ?_; intro N w0 a w hN hR H
  refine mW ?_; clear H; intro a w H
  have hX := And.intro (List.take_of_length_le (Nat.le_of_eq hk)) (List.take_of_length_le (Nat.le_of_eq hv))
  refine mS ?_; refine mD 2 [2, 3] [] H ?_; clear H; intro gS H; refine mT ?_; clear H; intro a w H
  refine mCallT [] [] (textR_v 1 [k, v] (by simp; omega) (by simp)) H ?_; clear H; intro a w H
  refine mT ?_; clear H; intro a w H
  refine v_drawNil H ?_; clear H; intro H
  refine mW ?_; clear H; intro a w H
  clear hX; have hX := And.intro @hk (@hv)
  refine wp_ret ?_; exact mEnd [] [1] [.tmp 4] [_] hN hR H
set_option maxRecDepth 20000 in
theorem innerR_v (k v : List UInt8) (hk : k.length = 32) (hv : v.length = 32) :
    VC Try.prog 129 [.ba k, .ba v] [(5, 65)] (.bs (2 :: (k ++ v)) (some 0)) := by
  refine mE Try.func129 ?_; intro N w0 a w hN hR H
  refine mW ?_; clear H; intro a w H
  have hX := And.intro (List.take_of_length_le (Nat.le_of_eq hk)) (List.take_of_length_le (Nat.le_of_eq hv))
  refine mS ?_; refine mD 2 [2, 3] [] H ?_; clear H; intro gS H; refine mT ?_; clear H; intro a w H
  refine mCallT [] [] (textR_v 2 [k, v] (by simp; omega) (by simp)) H ?_; clear H; intro a w H
  refine mT ?_; clear H; intro a w H
  refine v_drawNil H ?_; clear H; intro H
  refine mW ?_; clear H; intro a w H
  clear hX; have hX := And.intro @hk (@hv)
  refine wp_ret ?_; exact mEnd [] [1] [.tmp 4] [_] hN hR H
theorem ofR_v (l : List UInt8) (hl : l.length = 32) : VC Try.prog 223 [.bs l none] [] (.tup [.ba l, errv 0]) := by
  refine mE Try.func223 ?_; intro N w0 a w hN hR H
  refine mW ?_; clear H; intro a w H
  refine mC H (fun hb => ?_) (fun hb => ?_)
  · simp [hl] at hb
  · refine mW ?_; clear H; intro a w H
    refine v_loop (fun k : Nat => ⟨[(0, none, .bs l none), (2, none, .ptr 0 []), (4, none, .ptr 1 []), (5, none, .v (.int .i64 (k : Int)))], [(.ba 32, .ba (List.replicate 32 0)), (.ba 32, .ba (l.take k ++ List.replicate (32 - k) 0))], [], []⟩) (fun k => k ≤ 32) (fun k => 32 - k) 0 (by decide) (H.to 2 0 ⟨Nat.le_trans hN (by decide), hR⟩ ⟨rfl, rfl, rfl, rfl, trivial⟩ rfl rfl rfl rfl rfl) ?_
    clear H
    intro k a w hk H
    refine mW ?_; clear H; intro a w H
    refine mC H (fun hb => ?_) (fun hb => ?_)
    · have hlt : k < 32 := by simp at hb; omega
      have hx := (l.getD k 0).toNat_lt
      have hs := set_fill l k 32 0 (by omega) hlt
      refine mW ?_; clear H; intro a w H
      rw [hs] at H
      exact ⟨k + 1, by omega, by omega, H.to 2 0 ⟨Nat.le_trans hN (by decide), hR⟩ ⟨rfl, rfl, rfl, rfl, trivial⟩ rfl rfl rfl rfl rfl⟩
    · have : k = 32 := by simp at hb; omega
      subst this
      rw [List.take_of_length_le (by omega), Nat.sub_self, List.replicate_zero, List.append_nil] at H
      refine mW ?_; clear H; intro a w H
      refine wp_ret ?_; exact mEnd [] [] [.cell 2 49, .tmp 3] [_, _] hN hR H
end Go.Proofs.Ytigmpdhnhkdeiaa
/- The document's look at a node. -/
namespace Go.Proofs.Ytigmpdhnhkdeiaa
open Go Go.RowKit
theorem bif_and (a b : Bool) : (bif a then b else false) = (a && b) := by cases a <;> rfl
theorem checkR_v (n : Nd) (hw : n.wf) : VC Try.prog 196 [n.av] [] (errv (if n.ok then 0 else 2)) := by
  obtain ⟨k, key, v, l, r⟩ := n
  obtain ⟨h1, h2, h3, h4⟩ := hw
  dsimp only at h1 h2 h3 h4
  refine mE Try.func196 ?_; intro N w0 a w hN hR H
  simp only [Nd.av] at H
  have hk0 : ((k.toNat : Int) = 0) ↔ k = 0 := ⟨fun h => UInt8.toNat_inj.1 (by simpa using h), fun h => by subst h; rfl⟩
  have hk1 : ((k.toNat : Int) = 1) ↔ k = 1 := ⟨fun h => UInt8.toNat_inj.1 (by simp; omega), fun h => by subst h; rfl⟩
  have hk2 : ((k.toNat : Int) = 2) ↔ k = 2 := ⟨fun h => UInt8.toNat_inj.1 (by simp; omega), fun h => by subst h; rfl⟩
  refine mW ?_; clear H; intro a w H
  refine mC H (fun hb => ?_) (fun hb => ?_)
  · replace H := mK [1, 2, 3] 2 0 hN hR H
    refine mW ?_; clear H; intro a w H
    have hok : Nd.ok ⟨k, key, v, l, r⟩ := by clear H; simp only [bif_and, Bool.not_eq_true', Bool.not_eq_false', Bool.and_eq_true, Bool.and_eq_false_imp, decide_eq_true_eq, decide_eq_false_iff_not] at *; simp only [hz] at *; simp_all [Nd.ok, Nd.bare, Nd.zero]
    rw [if_pos hok]
    refine wp_ret ?_; exact mEnd [] [] [.tmp 2] [_] hN hR H
  · replace H := mK [1, 2, 3] 2 0 hN hR H
    rename_i hb0
    refine mW ?_; clear H; intro a w H
    refine mC H (fun hb => ?_) (fun hb => ?_)
    · replace H := mK [1, 2, 3] 2 0 hN hR H
      refine mW ?_; clear H; intro a w H
      have hok : Nd.ok ⟨k, key, v, l, r⟩ := by clear H; simp only [bif_and, Bool.not_eq_true', Bool.not_eq_false', Bool.and_eq_true, Bool.and_eq_false_imp, decide_eq_true_eq, decide_eq_false_iff_not] at *; simp only [hz] at *; simp_all [Nd.ok, Nd.bare, Nd.zero]
      rw [if_pos hok]
      refine wp_ret ?_; exact mEnd [] [] [.tmp 2] [_] hN hR H
    · replace H := mK [1, 2, 3] 2 0 hN hR H
      refine mW ?_; clear H; intro a w H
      refine mC H (fun hb => ?_) (fun hb => ?_)
      · refine mW ?_; clear H; intro a w H
        have hok : Nd.ok ⟨k, key, v, l, r⟩ := by clear H; simp only [bif_and, Bool.not_eq_true', Bool.not_eq_false', Bool.and_eq_true, Bool.and_eq_false_imp, decide_eq_true_eq, decide_eq_false_iff_not] at *; simp only [hz] at *; simp_all [Nd.ok, Nd.bare, Nd.zero]
        rw [if_pos hok]
        refine wp_ret ?_; exact mEnd [] [] [.tmp 2] [_] hN hR H
      · refine mW ?_; clear H; intro a w H
        have hok : ¬ Nd.ok ⟨k, key, v, l, r⟩ := by
          clear H
          simp only [bif_and, Bool.not_eq_true', Bool.not_eq_false', Bool.and_eq_true, Bool.and_eq_false_imp, decide_eq_true_eq, decide_eq_false_iff_not] at *
          simp only [hz] at *
          intro h
          rcases Nd.ok_cases h with e | ⟨p, q, e⟩ | ⟨p, q, e⟩
          all_goals (simp only [Nd.zero, Nd.one, Nd.two, Nd.mk.injEq] at e; simp_all)
        rw [if_neg hok]
        refine wp_ret ?_; exact mEnd [] [] [.tmp 2] [_] hN hR H
end Go.Proofs.Ytigmpdhnhkdeiaa
/- The document's nodes, written and read. -/
namespace Go.Proofs.Ytigmpdhnhkdeiaa
open Go Go.RowKit
theorem encodeR_ok (n : Nd) (hw : n.wf) (h : n.ok) : VC Try.prog 130 [n.av] [(5, n.text.length)] (.tup [.bs n.text (some 0), errv 0]) := by
  have hck := checkR_v n hw
  rw [if_pos h] at hck
  obtain ⟨k, key, v, l, r⟩ := n
  obtain ⟨h1, h2, h3, h4⟩ := hw
  dsimp only at h1 h2 h3 h4
  refine mE Try.func130 ?_; intro N w0 a w hN hR H
  have hk1 : ((k.toNat : Int) = 1) ↔ k = 1 := ⟨fun h => UInt8.toNat_inj.1 (by simp; omega), fun h => by subst h; rfl⟩
  have hk2 : ((k.toNat : Int) = 2) ↔ k = 2 := ⟨fun h => UInt8.toNat_inj.1 (by simp; omega), fun h => by subst h; rfl⟩
  simp only [Nd.av] at H hck
  refine mW ?_; clear H; intro a w H
  refine mCall [] [] (hck) H ?_; clear H; intro a w H; try refine wpList_nil ?_
  refine mW ?_; clear H; intro a w H
  refine mC H (fun hb => ?_) (fun hb => ?_)
  · simp at hb
  · refine mW ?_; clear H; intro a w H
    refine mC H (fun hb => ?_) (fun hb => ?_)
    · have hk : k = 1 := hk1.1 (by simpa using hb)
      subst hk
      refine mW ?_; clear H; intro a w H
      refine mCall [] [] (leafR_v key v h1 h2) H ?_; clear H; intro a w H; try refine wpList_nil ?_
      refine mW ?_; clear H; intro a w H
      have hX := @Nd.text.eq_1
      refine wp_ret ?_; exact mEnd [] [0] [.tmp 2, .tmp 3] [_, _] hN hR H
    · have hX := @Nd.text.eq_1
      refine mW ?_; clear H; intro a w H
      refine mC H (fun hb => ?_) (fun hb => ?_)
      · have hk : k = 2 := hk2.1 (by simpa using hb)
        subst hk
        clear hX
        refine mW ?_; clear H; intro a w H
        refine mCall [] [] (innerR_v l r h3 h4) H ?_; clear H; intro a w H; try refine wpList_nil ?_
        refine mW ?_; clear H; intro a w H
        have hX := @Nd.text.eq_1
        refine wp_ret ?_; exact mEnd [] [0] [.tmp 2, .tmp 3] [_, _] hN hR H
      · have hk : k = 0 := by
          simp only [Nd.ok, Nd.bare, Nd.zero] at h
          simp_all
        subst hk
        clear hX
        refine mW ?_; clear H; intro a w H
        have hX := @Nd.text.eq_1
        refine wp_ret ?_; exact mEnd [] [0] [.tmp 2, .tmp 3] [_, _] hN hR H
theorem digestR_ok (n : Nd) (hw : n.wf) (h : n.ok) : VC Try.prog 126 [n.av] [] (.tup [.ba (sum n.text), errv 0]) := by
  have hck := encodeR_ok n hw h
  obtain ⟨h1, h2, h3, h4⟩ := id hw
  have htl := text_len hw
  have hsl := sum_length n.text
  refine mE Try.func126 ?_; intro N w0 a w hN hR H
  simp only [Nd.av] at H hck
  refine mW ?_; clear H; intro a w H
  refine mCall [] [] (hck) H ?_; clear H; intro a w H; try refine wpList_nil ?_
  refine mW ?_; clear H; intro a w H
  refine mC H (fun hb => ?_) (fun hb => ?_)
  · simp at hb
  · refine mW ?_; clear H; intro a w H
    refine mCall [] [] (sumR_v n.text (by omega)) H ?_; clear H; intro a w H; try refine wpList_nil ?_
    refine mW ?_; clear H; intro a w H
    refine wp_ret ?_; exact mEnd [] [] [.cell 2 50, .tmp 3] [_, _] hN hR H
theorem decodeR_ok (c : UInt8) (m : List UInt8) (hm : m.length = 64) (hc : c = 1 ∨ c = 2) : VC Try.prog 243 [.bs (c :: m) none] [] (.tup [(if c = 1 then Nd.one (m.take 32) (m.drop 32) else Nd.two (m.take 32) (m.drop 32)).av, errv 0]) := by
  have hc8 : c.toNat < 256 := c.toNat_lt
  have hml : (m.take 32).length = 32 := by simp; omega
  have hdl : (m.drop 32).length = 32 := by simp; omega
  have f1 := ofR_v (m.take 32) hml
  have f2 := ofR_v (m.drop 32) hdl
  refine mE Try.func243 ?_; intro N w0 a w hN hR H
  refine mW ?_; clear H; intro a w H
  refine mC H (fun hb => ?_) (fun hb => ?_)
  · simp [hm] at hb
  · refine mW ?_; clear H; intro a w H
    refine mC H (fun hb => ?_) (fun hb => ?_)
    · exfalso
      rcases hc with rfl | rfl <;> simp [hm] at hb
    · refine mW ?_; clear H; intro a w H
      refine mCall [] [] (f1) H ?_; clear H; intro a w H; try refine wpList_nil ?_
      refine mW ?_; clear H; intro a w H
      refine mCall [] [] (f2) H ?_; clear H; intro a w H; try refine wpList_nil ?_
      refine mW ?_; clear H; intro a w H
      refine mC H (fun hb => ?_) (fun hb => ?_)
      · have : c = 1 := UInt8.toNat_inj.1 (by simp at hb; simp; omega)
        subst this
        refine mW ?_; clear H; intro a w H
        refine wp_ret ?_; exact mEnd [] [] [.cell 2 66, .tmp 3] [_, _] hN hR H
      · have : c = 2 := by
          rcases hc with rfl | rfl
          · simp at hb
          · rfl
        subst this
        refine mW ?_; clear H; intro a w H
        refine wp_ret ?_; exact mEnd [] [] [.cell 2 66, .tmp 3] [_, _] hN hR H
theorem decodeR_zero : VC Try.prog 243 [.bs [0] none] [] (.tup [Nd.zero.av, errv 0]) := by
  refine mE Try.func243 ?_; intro N w0 a w hN hR H
  refine mW ?_; clear H; intro a w H
  refine mC H (fun hb => ?_) (fun hb => ?_)
  · refine mW ?_; clear H; intro a w H
    refine wp_ret ?_; exact mEnd [] [] [.cell 2 66, .tmp 3] [_, _] hN hR H
  · simp at hb
theorem decodeR_bad (l : List UInt8) (h : ¬ decOk l) : VC Try.prog 243 [.bs l none] [] (.tup [Nd.zero.av, errv 10]) := by
  have hx : ∀ k : Nat, k < 256 → ((((l.getD 0 0).toNat : Nat) : Int) = (k : Int) → l.getD 0 0 = UInt8.ofNat k) := fun k hk h => UInt8.toNat_inj.1 (by rw [UInt8.toNat_ofNat']; omega)
  have hx8 := (l.getD 0 0).toNat_lt
  refine mE Try.func243 ?_; intro N w0 a w hN hR H
  refine mW ?_; clear H; intro a w H
  refine mC H (fun hb => ?_) (fun hb => ?_)
  · exfalso; apply h; left
    rcases l with _ | ⟨c, _ | ⟨d, l⟩⟩
    · simp at hb
    · have := hx 0 (by decide); simp at hb this; simp [this hb]
    · simp at hb; omega
  · refine mW ?_; clear H; intro a w H
    refine mC H (fun hb => ?_) (fun hb => ?_)
    · refine mW ?_; clear H; intro a w H
      refine wp_ret ?_; exact mEnd [] [] [.cell 2 66, .tmp 3] [_, _] hN hR H
    · exfalso; apply h; right
      have a1 := hx 1 (by decide)
      have a2 := hx 2 (by decide)
      by_cases p1 : ((l.length : Nat) : Int) = 65
      · by_cases p2 : (((l.getD 0 0).toNat : Nat) : Int) = 1
        · exact ⟨by omega, .inl (a1 p2)⟩
        · by_cases p3 : (((l.getD 0 0).toNat : Nat) : Int) = 2
          · exact ⟨by omega, .inr (a2 p3)⟩
          · simp only [p1, p2, p3, decide_true, decide_false, Bool.not_true, Bool.not_false, cond_true, cond_false, Bool.true_eq_false] at hb
      · simp only [p1, decide_true, decide_false, Bool.not_true, Bool.not_false, cond_true, cond_false, Bool.true_eq_false] at hb
theorem decodeR_v (l : List UInt8) : VC Try.prog 243 [.bs l none] [] (.tup [(dec l).av, errv (if decOk l then 0 else 10)]) := by
  by_cases h : decOk l
  · rw [if_pos h]
    rcases decOk_cases h with rfl | ⟨m, hm, rfl⟩ | ⟨m, hm, rfl⟩
    · rw [dec_zero]; exact decodeR_zero
    · rw [dec_one m hm]; exact decodeR_ok 1 m hm (.inl rfl)
    · rw [dec_two m hm]; exact decodeR_ok 2 m hm (.inr rfl)
  · rw [if_neg h, dec_bad h]; exact decodeR_bad l h
end Go.Proofs.Ytigmpdhnhkdeiaa
/- Digests of the empty place, of leaves, of inner nodes. -/
namespace Go.Proofs.Ytigmpdhnhkdeiaa
open Go Go.RowKit
def innerH (l r : List UInt8) : List UInt8 := sum (2 :: (l ++ r))
theorem innerH_len (k v : List UInt8) : (innerH k v).length = 32 := sum_length _
end Go.Proofs.Ytigmpdhnhkdeiaa
/- Digests of the empty place, of leaves, of inner nodes: the document's. -/
namespace Go.Proofs.Ytigmpdhnhkdeiaa
open Go Go.RowKit
theorem ofHR_v (t : UInt8) (ls : List (List UInt8)) (hb : ls.flatten.length ≤ 34359737000) (hl : ls.length ≤ 34359737000) : VC Try.prog 181 [.v (B8 t), .sl .sc (bss ls) none] [] (.ba (sum (t :: ls.flatten))) := by
  have h1 := textR_v t ls (by omega) (by omega)
  have h2 := sumR_v (t :: ls.flatten) (by simp only [List.length_cons]; omega)
  have hsl := sum_length (t :: ls.flatten)
  refine mE Try.func181 ?_; intro N w0 a w hN hR H
  refine mW ?_; clear H; intro a w H
  refine mCall [] [] (h1) H ?_; clear H; intro a w H; try refine wpList_nil ?_
  refine mW ?_; clear H; intro a w H
  refine mCall [] [] (h2) H ?_; clear H; intro a w H; try refine wpList_nil ?_
  refine mW ?_; clear H; intro a w H
  refine wp_ret ?_; exact mEnd [] [] [.cell 4 49] [_] hN hR H
theorem emptyR_v : VC Try.prog 173 [] [] (.ba (sum [0])) := by
  have hsl := sum_length [0]
  refine mE Try.func173 ?_; intro N w0 a w hN hR H
  refine mW ?_; clear H; intro a w H
  refine mCall [] [] (ofHR_v 0 [] (by simp) (by simp)) H ?_; clear H; intro a w H; try refine wpList_nil ?_
  refine mW ?_; clear H; intro a w H
  refine wp_ret ?_; exact mEnd [] [] [.cell 0 49] [_] hN hR H
theorem innerHR_v (k v : List UInt8) (hk : k.length = 32) (hv : v.length = 32) : VC Try.prog 128 [.ba k, .ba v] [] (.ba (innerH k v)) := by
  have h1 := innerR_v k v hk hv
  have h2 := sumR_v (2 :: (k ++ v)) (by simp; omega)
  have hsl := sum_length (2 :: (k ++ v))
  unfold innerH
  refine mE Try.func128 ?_; intro N w0 a w hN hR H
  refine mW ?_; clear H; intro a w H
  refine mCall [] [] (h1) H ?_; clear H; intro a w H; try refine wpList_nil ?_
  refine mW ?_; clear H; intro a w H
  refine mCall [] [] (h2) H ?_; clear H; intro a w H; try refine wpList_nil ?_
  refine mW ?_; clear H; intro a w H
  refine wp_ret ?_; exact mEnd [] [] [.cell 4 49] [_] hN hR H
end Go.Proofs.Ytigmpdhnhkdeiaa
/- A region that draws its order, in which one loud operation (new memory) may come up before or behind another one (a call): both are walked. -/
namespace Go.Proofs.Ytigmpdhnhkdeiaa
open Go
section
variable {P : Program} {ops : Array Oper} {Q : Exit → Act → World → Prop} {S : World → Prop} {L A : List Nat} {c f : Nat}
theorem unlisted {listed : Array Bool} {k : Nat} (h : k ∈ Region.ready .any ops listed) : listed.getD k false ≠ true := by
  obtain ⟨h1, _⟩ := mem_ready.1 h
  intro h2
  rcases Nat.lt_or_ge k listed.size with h' | h'
  · simp [h'] at h1 h2; rw [h1] at h2; cases h2
  · simp [Array.getElem?_eq_none h'] at h1
/-- Which operations are listed: those below k; f besides. -/
def Upto (n : Nat) (k : Nat) (x : Bool) (f : Nat) (listed : Array Bool) : Prop := listed.size = n ∧ ∀ i, i < n → ∀ d, listed.getD i d = (decide (i < k) || (x && i == f))
theorem Upto.set {n k f : Nat} {x : Bool} {listed : Array Bool} (h : Upto n k x f listed) (hk : k < n) : Upto n (k + 1) x f (listed.setIfInBounds k true) := by
  refine ⟨by simpa using h.1, fun i hi d => ?_⟩
  by_cases hik : k = i
  · subst hik; simp [h.1, hk]
  · rw [getD_set_ne d hik, h.2 i hi d]
    congr 1
    simp; omega
theorem Upto.down {n k f : Nat} {x : Bool} {listed : Array Bool} (hn : n = ops.size) (h : Upto n k x f listed) (he : ∀ (j : Nat) (o : Oper), ops[j]? = some o → ∀ e ∈ o.after, Region.binds .any e = true → e.on < j)
    (hfe : x = true → ∀ o, ops[f]? = some o → ∀ e ∈ o.after, Region.binds .any e = true → e.on < k) : Down ops listed := by
  intro j o hj hl e hm hb
  have hjlt := (Array.getElem?_eq_some_iff.1 hj).1
  rw [h.2 j (by omega) false] at hl
  have h1 := he j o hj e hm hb
  rw [h.2 e.on (by omega) false]
  simp only [Bool.or_eq_true, decide_eq_true_eq, Bool.and_eq_true, beq_iff_eq] at hl ⊢
  rcases hl with hl | ⟨hx, rfl⟩
  · exact .inl (by omega)
  · exact .inl (hfe hx o hj e hm hb)
theorem tAny_nil {listed : Array Bool} {a : Act} {w : World} (h : ∀ i, i < ops.size → ∀ d, listed.getD i d = true) (hQ : Q .normal a w) : tAny P ops Q S L A 0 listed a w := by
  refine ⟨?_, hQ⟩
  rw [List.eq_nil_iff_forall_not_mem]
  intro j hj
  obtain ⟨hju, o, ho, _⟩ := mem_ready.1 hj
  rw [h j (Array.getElem?_eq_some_iff.1 ho).1 true] at hju
  cases hju
end
section
variable {P : Program} {τ : Tab} {w0 w : World} {N : Gh} {g gS : Gh} {st st' sq sq' : St} {nt : Nat} {a : Act}
/-- Only boxes that are there may be frozen. -/
theorem v_fz (H : Rel P w0 N nt st a w) : Rel P w0 N nt ⟨st.t, st.bx, st.fz.filter fun i => decide (i < st.bx.length), st.rw⟩ a w := by
  obtain ⟨g, HI, hF⟩ := H
  refine ⟨g, ⟨HI.mem, HI.fr, HI.br, fun i x hx hf => ?_, HI.wr, HI.wz⟩, ⟨hF.sz, hF.df, hF.t, hF.u⟩⟩
  have h1 := HI.fz i x hx hf
  have h2 := (List.getElem?_eq_some_iff.1 hx).1
  rw [HI.br.len] at h2
  simp only [List.mem_filter, decide_eq_true_eq]
  exact ⟨h1, h2⟩
/-- A slot seen as something that says less. -/
theorem v_sub (H : Rel P w0 N nt st a w) (d : Nat) {x y : AV} (hs : sub 4 x y) (hx : isAny x = false) (ht : ∀ az, x ≠ .tup az) (hd : find d st.t = some (none, x)) : Rel P w0 N nt ⟨nilT d y st.t, st.bx, st.fz, st.rw⟩ a w := by
  obtain ⟨g, HI, hF⟩ := H
  refine ⟨g, HI, hF.sz, hF.df, fun p hp hg => ?_, fun p hp hg => by rcases nilT_mem hp with h | h; (subst h; exact absurd trivial hg); exact hF.u p h hg⟩
  rcases nilT_mem hp with h | h
  · subst h
    have h1 : RV g x (a.tmps.getD d undef) := hF.t _ (find_mem hd) trivial
    exact ((h1.rv1 hx ht).sub_ hs).rv
  · exact hF.t p h hg
theorem RelT.toRel (H : RelT P w0 N nt gS sq st a w) : Rel P w0 N nt st a w := by
  obtain ⟨_, _, _, _, g, HI, hF, _⟩ := H
  exact ⟨g, HI, hF⟩
end
end Go.Proofs.Ytigmpdhnhkdeiaa
/- Values seen as others: a nil slice inside a box as a row that is none yet; an empty window as no bytes. -/
namespace Go.Proofs.Ytigmpdhnhkdeiaa
open Go Go.RowKit
section
variable {P : Program} {τ : Tab} {w0 w w' : World} {N : Gh} {g g1 g2 : Gh} {st st' : St} {nt : Nat} {a : Act}
theorem RC.sc_slice {T : Ty} {A : Option Addr} {n c : Nat} {cs : List Value} (h : RC g T (.v (.slice A n c)) cs) : T = .sc ∧ cs = [.slice A n c] := by
  cases h with
  | v h => exact ⟨rfl, rfl⟩
theorem RC.nilK {y : AV} (hy : RC g .sc y [.slice none 0 0]) : ∀ (k : Nat) {T : Ty} {fs : List AV} {cs : List Value}, RC g T (.st fs) cs → fs[k]? = some (.v (.slice none 0 0)) → RC g T (.st (fs.set k y)) cs
  | _, _, [], _, h, hk => by simp at hk
  | 0, _, x :: fs, _, h, hk => by
    simp only [List.getElem?_cons_zero, Option.some.injEq] at hk
    subst hk
    cases h with
    | cn h hs =>
      obtain ⟨rfl, rfl⟩ := h.sc_slice
      exact .cn hy hs
  | k + 1, _, x :: fs, _, h, hk => by
    cases h with
    | cn h hs => exact .cn h (RC.nilK hy k hs (by simpa using hk))
/-- The same, of other elements. -/
theorem v_nilX (hτ : τ.ok P) (H : Rel P w0 N nt st a w) (i k e : Nat) {j : TI} (T' : Ty) {T : Ty} {fs : List AV} (hj : Tab.get e τ = some j) (hs : 0 < j.ty.size) (hb : st.bx[i]? = some (T, .st fs)) (hd : fs[k]? = some (.v (.slice none 0 0))) :
    Rel P w0 N nt ⟨st.t, st.bx.set i (T, .st (fs.set k (.sl T' [] (some st.rw.length)))), st.fz, st.rw ++ [(e, 0)]⟩ a w := by
  obtain ⟨g, HI, hF⟩ := H
  have hok := Tab.get_ok hτ hj
  obtain ⟨g1, l1, I1, h1⟩ := HI.rowNil (nilRow hok hs w) rfl rfl ⟨hok.cells.symm, rfl⟩
  obtain ⟨x, hx, rfl, hr⟩ := I1.br.at_ i T _ hb
  obtain ⟨hxo, hxm, hr⟩ := hr.rc_of (fun _ _ e => by cases e) (fun _ _ e => by cases e) (fun _ _ e => by cases e)
  have hy := (RC.sl (g := g1) (T := T') (es := []) (tok := some st.rw.length) (A := none) (c := 0) (by simp) (by simp [maxLen]) (fun _ => []) (.inl rfl) (fun k hk => absurd hk (by simp)) fun i hi => by injection hi with hi; subst hi; exact ⟨_, h1, by simp, fun _ => ⟨rfl, rfl⟩⟩)
  exact ⟨g1, I1.re hx (.pl (RC.nilK hy k hr hd) hxo hxm), ⟨(hF.mono l1.1).sz, hF.df, (hF.mono l1.1).t, hF.u⟩⟩
/-- An empty window: no bytes. -/
theorem v_win0 (H : Rel P w0 N nt st a w) (d i : Nat) {o : Nat} {p : List Nat} (hd : find d st.t = some (none, .win i p o 0)) : Rel P w0 N nt ⟨nilT d (.bs [] none) st.t, st.bx, st.fz, st.rw⟩ a w := by
  obtain ⟨g, HI, hF⟩ := H
  refine ⟨g, HI, hF.sz, hF.df, fun q hp hg => ?_, fun q hp hg => by rcases nilT_mem hp with h | h; (subst h; exact absurd trivial hg); exact hF.u q h hg⟩
  rcases nilT_mem hp with h | h
  · subst h
    have h1 : RC g .sc (.win i p o 0) [a.tmps.getD d undef] := (hF.t _ (find_mem hd) trivial).win_inv
    show RV g (.bs [] none) (a.tmps.getD d undef)
    generalize a.tmps.getD d undef = u at h1
    cases h1 with
    | win h ho hn hc hm hA => exact (RC.bs (g := g) (l := []) (by simp) hm (.inl rfl) fun i hi => by cases hi).rvp
  · exact hF.t q h hg
end
end Go.Proofs.Ytigmpdhnhkdeiaa
/- Proofs as bytes: what may be, how it is told. -/
namespace Go.Proofs.Ytigmpdhnhkdeiaa
open Go Go.RowKit
structure Pf where
  s : List (List UInt8)
  e : Nd
  deriving DecidableEq
def bas (ls : List (List UInt8)) : List AV := ls.map .ba
theorem bas_len (ls : List (List UInt8)) : (bas ls).length = ls.length := by simp [bas]
theorem bas_get (ls : List (List UInt8)) (k : Nat) (hk : k < ls.length) : (bas ls).getD k .any = .ba ls[k] := by simp [bas, List.getD, hk]
structure Pf.wf (p : Pf) : Prop where
  s : ∀ h ∈ p.s, h.length = 32
  e : p.e.wf
def Pf.av (p : Pf) : AV := .st [.sl (.ba 32) (bas p.s) none, p.e.av]
def Pf.chk (p : Pf) : Int := if 256 < p.s.length then 4 else if p.e.ok ∧ p.e.k ≠ 2 then 0 else 2
set_option maxHeartbeats 1000000 in
theorem pcheck_v (p : Pf) (hw : p.wf) : VC Try.prog 237 [p.av] [] (errv p.chk) := by
  obtain ⟨s, n⟩ := p
  have hsl := bas_len s
  have hc := check_v n hw.e
  obtain ⟨h1, h2, h3, h4⟩ := id hw.e
  have hk2 : ((n.k.toNat : Int) = 2) ↔ n.k = 2 := ⟨fun h => UInt8.toNat_inj.1 (by simp; omega), fun h => by rw [h]; rfl⟩
  dsimp only at hc h1 h2 h3 h4 hk2
  refine mE Try.func237 ?_; intro N w0 a w hN hR H
  simp only [Pf.av, Nd.av] at H hc
  refine mW ?_; clear H; intro a w H
  refine mC H (fun hb => ?_) (fun hb => ?_)
  · have hb : 256 < s.length := by simp at hb; omega
    simp only [Pf.chk, if_pos hb]
    refine mW ?_; clear H; intro a w H
    refine wp_ret ?_; exact mEnd [] [] [.tmp 2] [_] hN hR H
  · have hb : ¬ 256 < s.length := by simp at hb; omega
    simp only [Pf.chk, if_neg hb]
    by_cases ho : n.ok
    · rw [if_pos ho] at hc
      refine mW ?_; clear H; intro a w H
      refine mCall [] [] (hc) H ?_; clear H; intro a w H; try refine wpList_nil ?_
      refine mW ?_; clear H; intro a w H
      refine mC H (fun hb => ?_) (fun hb => ?_)
      · have hb : n.k = 2 := hk2.1 (by simpa using hb)
        rw [if_neg (fun h => h.2 hb)]
        refine mW ?_; clear H; intro a w H
        refine wp_ret ?_; exact mEnd [] [] [.tmp 2] [_] hN hR H
      · have hb : ¬ n.k = 2 := fun e => by rw [hk2.2 e] at hb; simp at hb
        rw [if_pos ⟨ho, hb⟩]
        refine mW ?_; clear H; intro a w H
        refine wp_ret ?_; exact mEnd [] [] [.tmp 2] [_] hN hR H
    · rw [if_neg ho] at hc
      refine mW ?_; clear H; intro a w H
      refine mCall [] [] (hc) H ?_; clear H; intro a w H; try refine wpList_nil ?_
      refine mW ?_; clear H; intro a w H
      refine mC H (fun hb => ?_) (fun hb => ?_)
      · rw [if_neg (fun h => ho h.1)]
        refine mW ?_; clear H; intro a w H
        refine wp_ret ?_; exact mEnd [] [] [.tmp 2] [_] hN hR H
      · simp at hb
/-- The digest of nothing. -/
def E0 : List UInt8 := sum [0]
def hidesB (s : List (List UInt8)) (t : Nat) : Bool := match s[t]? with | some h => h != E0 | none => false
def Pf.bits (p : Pf) : List UInt8 := bitsB p.s.length (hidesB p.s)
def hashes (s : List (List UInt8)) : List UInt8 := (s.filter (· != E0)).flatten
def Pf.text (p : Pf) : List UInt8 := [UInt8.ofNat (p.s.length / 256), UInt8.ofNat p.s.length] ++ (p.bits ++ (hashes p.s ++ p.e.text))
theorem hashes_len : ∀ (s : List (List UInt8)), (∀ h ∈ s, h.length = 32) → (hashes s).length ≤ 32 * s.length
  | [], _ => by simp [hashes]
  | h :: s, hs => by
    have ih := hashes_len s fun x hx => hs x (List.mem_cons_of_mem _ hx)
    have h1 := hs h List.mem_cons_self
    unfold hashes at ih ⊢
    rw [List.filter_cons]
    split
    · simp only [List.flatten_cons, List.length_append, List.length_cons]; omega
    · simp only [List.length_cons]; omega
theorem hides_end (s : List (List UInt8)) : (bitsB s.length fun t => decide (t < s.length) && hidesB s t) = bitsB s.length (hidesB s) := by
  congr 1; funext t
  by_cases h : t < s.length
  · simp [h]
  · have : s[t]? = none := List.getElem?_eq_none (by omega)
    simp [h, hidesB, this]
theorem encodeP_ok (p : Pf) (hw : p.wf) (h : p.chk = 0) : VC Try.prog 184 [p.av] [(5, p.text.length)] (.tup [.bs p.text (some 0), errv 0]) := by
  obtain ⟨s, n⟩ := p
  have hsl := bas_len s
  have hc := pcheck_v ⟨s, n⟩ hw
  rw [h] at hc
  have hle : s.length ≤ 256 := by
    have := h
    simp only [Pf.chk] at this
    split at this
    · cases this
    · omega
  have hok : n.ok := by
    have := h
    simp only [Pf.chk] at this
    split at this
    · cases this
    · split at this
      · rename_i h1; exact h1.1
      · cases this
  have hen := encode_ok n hw.e hok
  obtain ⟨h1, h2, h3, h4⟩ := id hw.e
  have hsum := sum_length [0]
  dsimp only at h1 h2 h3 h4
  refine mE Try.func184 ?_; intro N w0 a w hN hR H
  simp only [Pf.av, Nd.av] at H hc hen
  refine mW ?_; clear H; intro a w H
  refine mCall [] [] (hc) H ?_; clear H; intro a w H; try refine wpList_nil ?_
  refine mW ?_; clear H; intro a w H
  refine mC H (fun hb => ?_) (fun hb => ?_)
  · simp at hb
  · refine mW ?_; clear H; intro a w H
    have hX := @hsl
    refine mCall [] [] (put16_v s.length (by omega)) H ?_; clear H; intro a w H; try refine wpList_nil ?_
    refine mW ?_; clear H; intro a w H
    refine mCall [] [] (bits_v s.length (by omega)) H ?_; clear H; intro a w H; try refine wpList_nil ?_
    refine mW ?_; clear H; intro a w H
    refine mCall [] [] (empty_v) H ?_; clear H; intro a w H; try refine wpList_nil ?_
    refine mW ?_; clear H; intro a w H
    rw [show List.replicate 0 (0 : UInt8) = [] from rfl] at H
    have eb : List.replicate ((s.length + 7) / 8) (0 : UInt8) = bitsB s.length (fun t => decide (t < 0) && hidesB s t) := bitsB_zero _ _
    rw [eb] at H
    have eE : sum [0] = E0 := rfl
    rw [eE] at H hsum
    replace H := mK [1, 2, 3, 5, 7, 8, 9, 36, 35, 34] 3 2 hN hR H
    refine v_loop (fun k : Nat => ⟨[(36, none, .v (.int .i64 (k : Int))), (35, none, .v (.int .i64 (s.length : Int))), (34, none, .sl (.ba 32) (bas s) none), (9, none, .ptr 2 []), (8, none, .bs (hashes (s.take k)) (some 1)), (7, none, .win 1 [] 0 ((s.length + 7) / 8)), (5, none, .bs [UInt8.ofNat (s.length / 256), UInt8.ofNat s.length] (some 0)), (3, none, .v (.int .i64 0)), (2, none, .v (.slice none 0 0)), (1, none, .ptr 0 [])],
      [(ti68.ty, .st [.sl (.ba 32) (bas s) none, .st [.v (B8 n.k), .ba n.key, .ba n.v, .ba n.l, .ba n.r]]), (.ba ((s.length + 7) / 8), .ba (bitsB s.length fun t => decide (t < k) && hidesB s t)), (.ba 32, .ba E0)], [], [(5, 2), (5, (hashes (s.take k)).length)]⟩)
      (fun k => k ≤ s.length) (fun k => s.length - k) 0 (Nat.zero_le _) (H.to 3 2 ⟨Nat.le_trans hN (by decide), Nat.le_trans hR (by decide)⟩ ⟨rfl, rfl, rfl, rfl, rfl, rfl, rfl, rfl, rfl, rfl, trivial⟩ rfl rfl rfl rfl rfl) ?_
    clear H
    intro k a w hk H
    have hbl := bitsB_len s.length (fun t => decide (t < k) && hidesB s t)
    refine mW ?_; clear H; intro a w H
    refine mC H (fun hb => ?_) (fun hb => ?_)
    · have hlt : k < s.length := by simpa using hb
      have hg := bas_get s k hlt
      have h32 : s[k].length = 32 := hw.s _ (List.getElem_mem hlt)
      have e8 : ((k : Int) / 8).toNat = k / 8 := by omega
      have e7 : (if ((k : Int) % 8).toNat ≤ 8 then ((k : Int) % 8).toNat else 8) = k % 8 := by split <;> omega
      have hh : hidesB s k = (s[k] != E0) := by unfold hidesB; rw [List.getElem?_eq_getElem hlt]
      have htk : s.take (k + 1) = s.take k ++ [s[k]] := List.take_succ_eq_append_getElem hlt
      have ht32 : s[k].take 32 = s[k] := List.take_of_length_le (by omega)
      have hhl : (hashes (s.take k)).length ≤ 8192 := by
        have := hashes_len (s.take k) fun x hx => hw.s _ (List.mem_of_mem_take hx)
        rw [List.length_take] at this; omega
      clear hX; have hX := And.intro @hsl (And.intro @hg (And.intro @e8 (And.intro @e7 (@ht32))))
      have hY := And.intro @or_rng0 (And.intro @or_rng1 (And.intro @e8 (@e7)))
      refine mW ?_; clear H; intro a w H
      refine mC H (fun hb => ?_) (fun hb => ?_)
      · have hne : (s[k] != E0) = true := by simpa using hb
        have hs1 : hashes (s.take (k + 1)) = hashes (s.take k) ++ s[k] := by
          unfold hashes; rw [htk, List.filter_append, List.filter_cons_of_pos (p := (· != E0)) hne, List.filter_nil, List.flatten_append]; simp
        refine mS ?_; refine mD 0 [10] [] H ?_; clear H; intro gS H; refine mT ?_; clear H; intro a w H
        refine v_drawNil H ?_; clear H; intro H
        rw [bit_step _ _ _ hlt (by rw [hh]; exact hne)] at H
        refine mW ?_; clear H; intro a w H
        replace H := mK [1, 2, 3, 5, 7, 8, 9, 36, 35, 34] 3 2 hN hR H
        have H := v_fz H
        simp only [List.filter_cons, List.filter_nil, List.length_cons, List.length_nil, Nat.reduceAdd, Nat.reduceLT, Nat.lt_irrefl, decide_false, Bool.false_eq_true, reduceIte] at H
        exact ⟨k + 1, hlt, by omega, H.to 3 2 ⟨Nat.le_trans hN (by decide), Nat.le_trans hR (by decide)⟩ ⟨rfl, rfl, rfl, rfl, by rw [hs1]; rfl, rfl, rfl, rfl, rfl, rfl, trivial⟩ rfl (by rw [hs1, List.length_append]; rfl) rfl rfl rfl⟩
      · have hne : (s[k] != E0) = false := by simpa using hb
        have hs1 : hashes (s.take (k + 1)) = hashes (s.take k) := by
          unfold hashes; rw [htk, List.filter_append, List.filter_cons_of_neg (p := (· != E0)) (by rw [hne]; decide), List.filter_nil, List.append_nil]
        refine mW ?_; clear H; intro a w H
        exact ⟨k + 1, hlt, by omega, H.to 3 2 ⟨Nat.le_trans hN (by decide), Nat.le_trans hR (by decide)⟩ ⟨rfl, rfl, rfl, rfl, by rw [hs1]; rfl, rfl, rfl, rfl, rfl, rfl, trivial⟩ (by rw [bit_skip _ _ _ (by rw [hh]; exact hne)]; rfl) (by rw [hs1]; rfl) rfl rfl rfl⟩
    · have hge : k = s.length := by simp at hb; omega
      subst hge
      rw [hides_end, List.take_length] at H
      have hhl : (hashes s).length ≤ 8192 := by
        have := hashes_len s hw.s
        omega
      have htl := text_len hw.e
      dsimp only at htl
      rw [show bitsB s.length (hidesB s) = (Pf.mk s n).bits from rfl] at H
      have hbl : (Pf.mk s n).bits.length = (s.length + 7) / 8 := bitsB_len _ _
      have hfl : ([[UInt8.ofNat (s.length / 256), UInt8.ofNat s.length], (Pf.mk s n).bits, hashes s, n.text] : List (List UInt8)).flatten = (Pf.mk s n).text := by simp [Pf.text]
      have hjl : (Pf.mk s n).text.length ≤ 34359738000 := by rw [← hfl]; simp only [List.flatten_cons, List.flatten_nil, List.length_append, List.length_cons, List.length_nil, hbl]; omega
      have hjo := join_v [[UInt8.ofNat (s.length / 256), UInt8.ofNat s.length], (Pf.mk s n).bits, hashes s, n.text] (by rw [hfl]; omega) (by simp)
      rw [hfl] at hjo
      have hcase : (s.length + 7) / 8 = 0 ∨ 0 < (s.length + 7) / 8 := by omega
      rcases hcase with h0 | h0
      · have hb0 : (Pf.mk s n).bits = [] := List.length_eq_zero_iff.1 (by omega)
        rw [hb0] at hjo
        rw [h0] at H
        have H := v_win0 H 7 1 rfl
        simp only [nilT, reduceIte, Nat.reduceEqDiff] at H
        refine mW ?_; clear H; intro a w H
        refine mCall [] [] (hen) H ?_; clear H; intro a w H; try refine wpList_nil ?_
        refine mW ?_; clear H; intro a w H
        refine mCall [] [] (hjo) H ?_; clear H; intro a w H; try refine wpList_nil ?_
        refine mW ?_; clear H; intro a w H
        refine wp_ret ?_; exact mEnd [] [4] [.tmp 2, .tmp 3] [_, _] hN hR H
      · have H := v_bc H 7 1 (Nat.le_trans hN (by decide)) rfl h0 rfl
        have htk : (Pf.mk s n).bits.take ((s.length + 7) / 8) = (Pf.mk s n).bits := List.take_of_length_le (by omega)
        simp only [nilT, reduceIte, Nat.reduceEqDiff] at H
        have H := v_sub H 7 (x := .bc (Pf.mk s n).bits ((s.length + 7) / 8) (some 1)) (y := .bs (Pf.mk s n).bits none) (by simp only [sub]; exact htk) rfl (fun _ e => by cases e) rfl
        simp only [nilT, reduceIte, Nat.reduceEqDiff] at H
        refine mW ?_; clear H; intro a w H
        refine mCall [] [] (hen) H ?_; clear H; intro a w H; try refine wpList_nil ?_
        refine mW ?_; clear H; intro a w H
        refine mCall [] [] (hjo) H ?_; clear H; intro a w H; try refine wpList_nil ?_
        refine mW ?_; clear H; intro a w H
        refine wp_ret ?_; exact mEnd [] [4] [.tmp 2, .tmp 3] [_, _] hN hR H
end Go.Proofs.Ytigmpdhnhkdeiaa
/- A contract that says less: rows that nobody will make longer. -/
namespace Go.Proofs.Ytigmpdhnhkdeiaa
open Go Go.RowKit
theorem VC.lessT {P : Program} {f : FuncId} {args : List AV} {rws : List (TypeId × Nat)} {az az' : List AV} (h : VC P f args rws (.tup az)) (hs : allP (sub 4) az az') (hl : az'.all (low 0 0 3) = true) : VC P f args [] (.tup az') := by
  refine ⟨h.1, fun w N vs HI h1 h2 => (h.2 w N vs HI h1 h2).mono ?_⟩
  rintro e w' ⟨g, v, he, HI', hv⟩
  have hnb : N.bx.length ≤ 0 := by rw [HI.br.len]; exact Nat.le_refl _
  have hnr : N.rw.length ≤ 0 := by have := congrArg List.length HI.wr; rw [List.length_map] at this; rw [this]; exact Nat.le_refl _
  refine ⟨g.cut 0 0, v, he, Inv.cut (st := ⟨[], [], [], rws⟩) HI' hnb hnr rfl, ?_⟩
  refine RV.low_ (d := 3) (a := .tup az') ?_ (by simpa only [low] using hl)
  obtain ⟨us, e1, e2, e3⟩ := hv
  have key : ∀ (az az' : List AV), allP (sub 4) az az' → az.length = az'.length ∧ ∀ (i : Nat) b, az'[i]? = some b → ∃ a, az[i]? = some a ∧ sub 4 a b := by
    intro az
    induction az with
    | nil => intro az' h; cases az' with
      | nil => exact ⟨rfl, fun i b hb => by simp at hb⟩
      | cons _ _ => exact h.elim
    | cons a az ih => intro az' h; cases az' with
      | nil => exact h.elim
      | cons b az' =>
        obtain ⟨h1, h2⟩ := h
        obtain ⟨k1, k2⟩ := ih az' h2
        refine ⟨by simp [k1], fun i c hc => ?_⟩
        cases i with
        | zero => simp at hc; subst hc; exact ⟨a, rfl, h1⟩
        | succ i => simp at hc; obtain ⟨x, q1, q2⟩ := k2 i c hc; exact ⟨x, by simpa using q1, q2⟩
  obtain ⟨k1, k2⟩ := key az az' hs
  refine ⟨us, e1, e2.trans k1, fun i b u hb hu => ?_⟩
  obtain ⟨x, q1, q2⟩ := k2 i b hb
  exact (e3 i x u q1 hu).sub_ q2
end Go.Proofs.Ytigmpdhnhkdeiaa
