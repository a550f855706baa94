/- A4: Eff Eff2 Eff3 Eff4 Eff5 Run Tabs Con Con2 Call. -/
import Derived.Test.YtgffimanhmpohaaGreatA3
import Derived.Test.YtgffimanhmpohaaGreatA2
import Derived.Laws.MakeOwn
import Derived.Laws.CopyRow
import Derived.Laws.IdiomCopy
set_option linter.unusedSimpArgs false
set_option linter.unusedVariables false
namespace Go.Proofs.YtgffimanhmpohaaGreat
open Go Go.RowKit
abbrev Chunk (es : Nat) := {cs : List Value // cs.length = es ∧ ∀ u ∈ cs, u.oneCell' = true}
def chunkE (es : Nat) (h : 0 < es) (tid : TypeId) (bytes : Nat) (zero : Chunk es) : El (Chunk es) where
  ty := tid
  size := es
  bytes := bytes
  enc := (·.1)
  zero := zero
  pos := h
  len x := x.2.1
  one x := x.2.2
theorem chunks (es : Nat) (h : 0 < es) (tid bytes : Nat) (zero : Chunk es) : ∀ (n : Nat) (cx : List Value), cx.length = n * es → (∀ u ∈ cx, u.oneCell' = true) → ∃ xs : List (Chunk es), xs.length = n ∧ (chunkE es h tid bytes zero).all xs = cx := by
  intro n
  induction n with
  | zero => intro cx hl _; rw [Nat.zero_mul] at hl; exact ⟨[], rfl, by rw [List.length_eq_zero_iff.1 hl]; rfl⟩
  | succ n ih =>
    intro cx hl h1
    rw [Nat.add_mul, Nat.one_mul] at hl
    obtain ⟨xs, h2, h3⟩ := ih (cx.drop es) (by rw [List.length_drop]; omega) (fun u hu => h1 u (List.mem_of_mem_drop hu))
    refine ⟨⟨cx.take es, by rw [List.length_take]; omega, fun u hu => h1 u (List.mem_of_mem_take hu)⟩ :: xs, by rw [List.length_cons, h2], ?_⟩
    rw [El.all_cons, h3]; exact List.take_append_drop es cx
section
variable {P : Program} {w : World}
theorem Row.fits {r : Rw} (hrow : Row w r) (hz : r.es = P.cellsOf r.tid ∧ r.zero = zeroOf P r.tid) {inf : TypeInfo} (hi : P.info? r.tid = some inf) {z : Value} (hzv : inf.zero = some z) :
    ∃ E : El (Chunk r.es), E.fits P ∧ E.ty = r.tid ∧ E.size = r.es ∧ E.bytes = inf.bytes ∧ E.enc E.zero = r.zero ∧ ∀ n (cx : List Value), cx.length = n * r.es → (∀ u ∈ cx, u.oneCell' = true) → ∃ xs : List (Chunk r.es), xs.length = n ∧ E.all xs = cx := by
  have h1 : r.zero = z.cells.toList := by rw [hz.2]; simp [zeroOf, hi, hzv]
  have h2 : inf.size = r.es := by rw [hz.1]; simp [Program.cellsOf, hi]
  refine ⟨chunkE r.es hrow.pos r.tid inf.bytes ⟨r.zero, hrow.zl, fun u hu => hrow.one u (List.mem_append_right _ hu)⟩, ?_, rfl, rfl, rfl, rfl, fun n cx => chunks r.es hrow.pos r.tid inf.bytes _ n cx⟩
  unfold El.fits
  simp [chunkE, hi, hzv, h1, h2]
theorem Row.own {r : Rw} (hrow : Row w r) {E : El (Chunk r.es)} (hty : E.ty = r.tid) (hsz : E.size = r.es) (hzz : E.enc E.zero = r.zero) {xs : List (Chunk r.es)} (hxl : xs.length = r.n) (hxc : E.all xs = r.cx) : Own E w 0 r.v xs (List.replicate r.m E.zero) := by
  rcases hrow.at_ with ⟨e1, e2, e3⟩ | ⟨k, e1, hb, hm⟩
  · rw [e2] at hxl; exact .inl ⟨e1, List.length_eq_zero_iff.1 hxl, by rw [e3]; rfl⟩
  refine .inr ⟨k, Nat.zero_le _, ?_, ?_, ?_⟩
  · rw [e1, hxl, List.length_replicate]
  · rw [El.all_append, hxc, El.all_replicate, hzz, hty]; exact hb
  rw [hxl, List.length_replicate]; exact hm
theorem run_appendR {r : Rw} (hrow : Row w r) (hz : r.es = P.cellsOf r.tid ∧ r.zero = zeroOf P r.tid) {inf : TypeInfo} (hi : P.info? r.tid = some inf) {z : Value} (hzv : inf.zero = some z) {t : TypeId} (ht : P.underlying t = some (.slice r.tid)) (ty : TypeId)
    {m : Nat} {ys : List Value} (hl : ys.length = m * r.es) (h1 : ∀ u ∈ ys, u.oneCell' = true) {A : Option Addr} (c : Nat) (hsrc : m = 0 ∨ ∃ b o, A = some ⟨b, o, none⟩ ∧ ∀ j u, ys[j]? = some u → w.cell? ⟨b, o + j, none⟩ = some u)
    (b1 : r.n + m ≤ maxLen) (b2 : (r.n + m) * inf.bytes ≤ 140737488355328) :
    ∃ (r' : Rw) (w' : World), (Builtin.append_ #[t, t] ty #[r.v, .slice A m c]).run P w = .ok r'.v w' ∧ Row w' r' ∧ r'.tid = r.tid ∧ r'.es = r.es ∧ r'.zero = r.zero ∧ r'.cx = r.cx ++ ys ∧ r'.n = r.n + m ∧
      w.grownBy w' r.v.ownBlock ∧ (r'.v.ownBlock = r.v.ownBlock ∨ r'.v.ownBlock = some w.heap.size) ∧ (r'.v.ownBlock = r.v.ownBlock ∨ w.grownBy w' none) := by
  obtain ⟨E, hE, hty, hsz, hby, hzz, hch⟩ := hrow.fits hz hi hzv
  obtain ⟨xs, hxl, hxc⟩ := hch r.n r.cx hrow.len (fun u hu => hrow.one u (List.mem_append_left _ hu))
  obtain ⟨zs, hzl, hzc⟩ := hch m ys hl h1
  have hown := hrow.own hty hsz hzz hxl hxc
  have hrd : Rd E w w.heap.size A zs := by
    rcases hsrc with h | ⟨b, o, hA, hcell⟩
    · exact .inl (List.length_eq_zero_iff.1 (hzl.trans h))
    cases hm : m with
    | zero => exact .inl (List.length_eq_zero_iff.1 (hzl.trans hm))
    | succ m' =>
      refine .inr ⟨b, o, hA, ?_, fun j u hu => hcell j u (by rw [hzc] at hu; exact hu)⟩
      have hpos : 0 < ys.length := by rw [hl, hm]; exact Nat.mul_pos (Nat.succ_pos _) hrow.pos
      have := hcell 0 _ (List.getElem?_eq_getElem hpos)
      unfold World.cell? at this
      cases hb : w.heap[b]? with
      | none => simp [hb] at this
      | some x => exact (Array.getElem?_eq_some_iff.1 hb).1
  obtain ⟨v', w', sp', hrun, h2, h3, h4, h5, h6⟩ := run_append hE t ty (by rw [hty]; exact ht) hown c hrd hzl (by rw [hxl]; exact b1) (by rw [hxl, hby]; exact b2) (Nat.zero_le _)
  obtain ⟨k', hk'⟩ := h5 _ rfl
  subst hk'
  refine ⟨{ r with v := v', n := r.n + m, cx := r.cx ++ ys, m := k' }, w', hrun, ⟨hrow.pos, hrow.zl, ?_, ?_, ?_⟩, rfl, rfl, rfl, rfl, rfl, h3, h4, h6⟩
  · intro u hu
    simp only [List.mem_append] at hu
    rcases hu with (hu | hu) | hu
    · exact hrow.one u (List.mem_append_left _ hu)
    · exact h1 u hu
    exact hrow.one u (List.mem_append_right _ hu)
  · show (r.cx ++ ys).length = (r.n + m) * r.es
    rw [List.length_append, hrow.len, hl, Nat.add_mul]
  rcases h2 with ⟨e1, e2, e3⟩ | ⟨k, _, e1, hb, hm⟩
  · have : xs.length + zs.length = 0 := by rw [← List.length_append, e2]; rfl
    exact .inl ⟨e1, by show r.n + m = 0; omega, by have := congrArg List.length e3; simpa using this⟩
  refine .inr ⟨k, ?_, ?_, ?_⟩
  · rw [e1, List.length_append, hxl, hzl, List.length_replicate]
  · rw [El.all_append, El.all_append, hxc, hzc, El.all_replicate, hzz, hty] at hb; exact hb
  rw [List.length_append, hxl, hzl, List.length_replicate] at hm; exact hm
theorem run_append_nought {r : Rw} (hrow : Row w r) {inf : TypeInfo} (hi : P.info? r.tid = some inf) {t : TypeId} (ht : P.underlying t = some (.slice r.tid)) (ty : TypeId) (A : Option Addr) (c : Nat) :
    (Builtin.append_ #[t, t] ty #[r.v, .slice A 0 c]).run P w = .ok r.v w := by
  rcases hrow.at_ with ⟨e1, e2, e3⟩ | ⟨k, e1, hb, hm⟩
  · rw [e1]; cases A <;> simp [Builtin.append_, run_underlying ht, sizeOf, typeInfo, hi, Builtin.lenOf, Builtin.firstCells, loadCells, loadCellsFrom]
  · rw [e1]; cases A <;> simp [Builtin.append_, run_underlying ht, sizeOf, typeInfo, hi, Builtin.lenOf, Builtin.firstCells, loadCells, loadCellsFrom, storeCells]
end
abbrev ER := Option (St × AV × Prop)
def notIn (b : Nat) : List Nat → Bool
  | [] => true
  | k :: l => (k != b) && notIn b l
theorem notIn_ok {b : Nat} : ∀ {l : List Nat}, notIn b l = true → b ∉ l
  | [], _ => by simp
  | k :: l, h => by
    simp only [notIn, Bool.and_eq_true, bne_iff_ne] at h
    intro hm
    rcases List.mem_cons.1 hm with e | e
    · exact h.1 e.symm
    exact notIn_ok h.2 e
def boxE (τ : Tab) (st : St) (e : Nat) (x : AV) : ER :=
  match Tab.get e τ with
  | some i => some ({ st with bx := st.bx ++ [(i.ty, x)] }, .ptr st.bx.length [], fit i.ty x)
  | none => none
def allocE (τ : Tab) (st : St) (e : Nat) : ER :=
  match Tab.get e τ with
  | some i => some ({ st with bx := st.bx ++ [(i.ty, i.zero)] }, .ptr st.bx.length [], True)
  | none => none
def storeE (τ : Tab) (st : St) (t : Nat) (x y : AV) : ER :=
  match Tab.get t τ with
  | none => none
  | some i =>
    match x with
    | .ptr b path => (match st.bx[b]? with
      | some (T, a) => (match T.loc path with
        | some (_, T2) => if T2 = i.ty ∧ notIn b st.fz = true then some ({ st with bx := st.bx.set b (T, a.put path y) }, .any, fit i.ty y) else none
        | none => none)
      | none => none)
    | .pti b path k => (match st.bx[b]? with
      | some (T, a) => (match T.loc path, a.loc path, y with
        | some (_, .ba _), some (.ba l), .v (.int .u8 n) => if i.ty = .sc ∧ notIn b st.fz = true then some ({ st with bx := st.bx.set b (T, a.put path (.ba (l.set k (UInt8.ofNat n.toNat)))) }, .any, 0 ≤ n ∧ n ≤ 255) else none
        | _, _, _ => none)
      | none => none)
    | _ => none
def frzE (τ : Tab) (q0 : Nat) (st : St) (t : Nat) (x : AV) (lo hi : Option AV) : ER :=
  match Tab.get t τ with
  | none => none
  | some i =>
    match i.d, x with
    | .arr m e, .ptr b path => (match st.bx[b]? with
      | some (T, a) => (match T.loc path, a.loc path, bnd 0 lo, bnd m hi with
        | some (_, .ba m'), some (.ba l), some p, some q => if m' = m ∧ tyIs τ e .sc = true ∧ q0 ≤ b then
            some ({ st with fz := b :: st.fz }, .bs ((l.take q.toNat).drop p.toNat) none, 0 ≤ p ∧ p ≤ q ∧ q ≤ m ∧ (m : Int) ≤ 9223372036854775807) else none
        | _, _, _, _ => none)
      | none => none)
    | _, _ => none
section
variable {P : Program} {τ : Tab} {w0 w : World} {N : Gh} {g : Gh} {st st' : St} {r : AV} {cd : Prop}
def EOk (sto : Bool) (P : Program) (w0 : World) (N g : Gh) (st st' : St) (r : AV) (w : World) (s : Sem Next) : Prop :=
  ∃ g' w', (g.le g' ∧ (sto = false → Bs g g')) ∧ Inv P w0 N g' st'.bx st'.fz st'.rw w' ∧ st'.t = st.t ∧ ((∃ z, s.run P w = .ok (.value z) w' ∧ RV g' r z) ∨ (s.run P w = .ok .skip w' ∧ r = .any))
theorem ER.inj {x : St × AV × Prop} (h : some x = some (st', r, cd)) : x.1 = st' ∧ x.2.1 = r ∧ x.2.2 = cd := by injection h with h; rw [h]; exact ⟨rfl, rfl, rfl⟩
theorem boxE_sound (hτ : τ.ok P) (H : Inv P w0 N g st.bx st.fz st.rw w) {e : Nat} {x : AV} (h : boxE τ st e x = some (st', r, cd)) (hc : cd) {v : Value} (hv : RV g x v) : EOk false P w0 N g st st' r w (do pure (.value (← Instr.box e v))) := by
  unfold boxE at h
  split at h
  · rename_i i hi
    obtain ⟨rfl, rfl, rfl⟩ := ER.inj h
    obtain ⟨cs, h1, h2⟩ := hv.fit hc
    obtain ⟨g', hle, HI, hr⟩ := H.box h1 e
    refine ⟨g', _, ⟨hle.1, fun _ => hle.2⟩, HI, rfl, .inl ⟨_, ?_, hr⟩⟩
    have hcs : v.cells = cs.toArray := by apply Array.toList_inj.1; rw [h2, mkV_cells h1]
    simp [Instr.box, newVar, newRow, hcs]
  cases h
theorem allocE_sound (hτ : τ.ok P) (H : Inv P w0 N g st.bx st.fz st.rw w) {e : Nat} (h : allocE τ st e = some (st', r, cd)) : EOk false P w0 N g st st' r w (do pure (.value (← Instr.alloc e true (.tuple #[])))) := by
  unfold allocE at h
  split at h
  · rename_i i hi
    obtain ⟨rfl, rfl, rfl⟩ := ER.inj h
    obtain ⟨inf, z0, e1, e2, e3, e4, e5⟩ := (Tab.get_ok hτ hi).info
    obtain ⟨g', hle, HI, hr⟩ := H.box (e5 g) e
    refine ⟨g', _, ⟨hle.1, fun _ => hle.2⟩, HI, rfl, .inl ⟨_, ?_, hr⟩⟩
    simp [Instr.alloc, zeroValue, typeInfo, e1, e4, newVar, newRow]
  cases h
theorem run_stV {w : World} {g : Nat} {t : TypeId} {cs : Array Value} (hb : Blk w g t cs) {pre mid post news : List Value} (hcs : cs.toList = pre ++ mid ++ post) (ty : TypeId) {i : TI} (hi : i.ok P ty) (hn : news.length = i.ty.size) (hl : news.length = mid.length) (h1 : ∀ v ∈ news, v.oneCell' = true) {v : Value} (hv : v.cells.toList = news) {o : Nat} (ho : pre.length = o) :
    (storeVar ty ⟨g, o, none⟩ v).run P w = .ok () (w.setRow g (pre ++ news ++ post).toArray) := by
  subst ho
  have hsz : cs.size = (pre ++ mid ++ post).length := by rw [← hcs]; simp
  have hst := run_storeCells_at P g pre.length t news 0 cs w hb (by simp only [List.length_append] at hsz; omega) h1
  have hrow : (cs.toList.take (pre.length + 0) ++ news ++ cs.toList.drop (pre.length + 0 + news.length)) = pre ++ news ++ post := by
    rw [hcs, hl, Nat.add_zero, List.append_assoc pre mid post, List.take_left, ← List.append_assoc, ← List.length_append, List.drop_left]
  rw [hrow] at hst
  have hs := hi.sizeOf w
  have hvs : v.cells.size = news.length := by rw [← hv]; simp
  simp [storeVar, hs, hvs, hn, hv, hst]
theorem storeE_sound (hτ : τ.ok P) (H : Inv P w0 N g st.bx st.fz st.rw w) {t : Nat} {x y : AV} (h : storeE τ st t x y = some (st', r, cd)) (hc : cd) {u v : Value} (hu : RV g x u) (hv : RV g y v) : EOk true P w0 N g st st' r w (do Instr.storeAt t u v; pure .skip) := by
  unfold storeE at h
  split at h
  · cases h
  rename_i i hi
  have hok := Tab.get_ok hτ hi
  split at h
  · rename_i b path
    split at h
    · rename_i T a hb
      split at h
      · rename_i o T2 hl
        split at h
        · rename_i hcond
          obtain ⟨rfl, hnf⟩ := hcond
          obtain ⟨rfl, rfl, rfl⟩ := ER.inj h
          obtain ⟨_, bx, o3, T3, hbx, ho3, e⟩ := hu.ptr_inv.ptr_inv
          injection e with e; subst e
          obtain ⟨bx', hbx', hty, hrc⟩ := H.br.get hb
          obtain ⟨hyo, hym, hrc⟩ := hrc.rc (Ty.loc_grows hl)
          rw [hbx] at hbx'; injection hbx' with hbx'; subst hbx'
          rw [hty, hl] at ho3
          simp only [Option.some.injEq, Prod.mk.injEq] at ho3
          obtain ⟨rfl, rfl⟩ := ho3
          obtain ⟨a', ha', pre, mid, post, hcs, hpre, hmid, hput⟩ := hrc.lens hl
          obtain ⟨news, h1, h2⟩ := hv.fit hc
          have hset := hput y news h1
          rw [← hty] at hset
          obtain ⟨g', hle, HI⟩ := H.set hbx hyo hym (notIn_ok hnf) hset
          rw [hty] at HI
          refine ⟨g', _, ⟨hle, fun h => (by cases h)⟩, HI, rfl, .inr ⟨?_, rfl⟩⟩
          have := run_stV (v := v) ((H.mem.bx _ _ hbx hyo).c hym) (by simpa using hcs) t hok h1.size (by rw [h1.size, hmid.size]) h1.one (by rw [h2]; exact mkV_cells h1) hpre
          simp [Instr.storeAt, Instr.sureAddr, this]
        cases h
      cases h
    cases h
  · rename_i b path k
    split at h
    · rename_i T a hb
      split at h
      · rename_i o m l n hl ha
        split at h
        · rename_i hcond
          obtain ⟨hTi, hnf⟩ := hcond
          obtain ⟨rfl, rfl, rfl⟩ := ER.inj h
          obtain ⟨_, bx, o3, m3, e, hbx, ho3, hk⟩ := hu.pti_inv.pti_inv
          injection e with e; subst e
          obtain ⟨bx', hbx', hty, hrc⟩ := H.br.get hb
          obtain ⟨hyo, hym, hrc⟩ := hrc.rc (Ty.loc_grows hl)
          rw [hbx] at hbx'; injection hbx' with hbx'; subst hbx'
          rw [hty, hl] at ho3
          simp only [Option.some.injEq, Prod.mk.injEq, Ty.ba.injEq] at ho3
          obtain ⟨rfl, rfl⟩ := ho3
          obtain ⟨a', ha', pre, mid, post, hcs, hpre, hmid, hput⟩ := hrc.lens hl
          rw [ha] at ha'; injection ha' with ha'; subst ha'
          obtain ⟨hm, rfl⟩ := hmid.ba_inv
          injection hm with hm
          have hv' := hv.v_inv; subst hv'
          have hset := hput (.ba (l.set k (UInt8.ofNat n.toNat))) _ (.ba (by rw [List.length_set]; exact hm.symm))
          rw [← hty] at hset
          obtain ⟨g', hle, HI⟩ := H.set hbx hyo hym (notIn_ok hnf) hset
          rw [hty] at HI
          refine ⟨g', _, ⟨hle, fun h => (by cases h)⟩, HI, rfl, .inr ⟨?_, rfl⟩⟩
          obtain ⟨c1, c2⟩ : 0 ≤ n ∧ n ≤ 255 := hc
          have hkl : k < l.length := by omega
          have hn : Value.int .u8 n = B8 (UInt8.ofNat n.toNat) := by rw [B8_ofNat]; congr 1; omega
          have hsplit : l.map B8 = (l.take k).map B8 ++ [B8 l[k]] ++ (l.drop (k + 1)).map B8 := by
            have h5 : l = l.take k ++ [l[k]] ++ l.drop (k + 1) := by
              rw [← List.take_succ_eq_append_getElem hkl, List.take_append_drop]
            have h6 := congrArg (List.map B8) h5
            rw [h6]; simp only [List.map_append, List.map_cons, List.map_nil]
          have hset2 : (l.set k (UInt8.ofNat n.toNat)).map B8 = (l.take k).map B8 ++ [B8 (UInt8.ofNat n.toNat)] ++ (l.drop (k + 1)).map B8 := by
            rw [List.set_eq_take_append_cons_drop]; rw [if_pos hkl]; simp
          have := run_stV ((H.mem.bx _ _ hbx hyo).c hym) (pre := pre ++ (l.take k).map B8) (mid := [B8 l[k]]) (post := (l.drop (k + 1)).map B8 ++ post) (news := [B8 (UInt8.ofNat n.toNat)]) (o := o + k) (v := .int .u8 n)
            (by rw [hcs, hsplit]; simp) t hok (by rw [hTi]; rfl) rfl (by intro v hv; simp at hv; subst hv; rfl) (by rw [hn]; rfl) (by rw [List.length_append, List.length_map, List.length_take, hpre]; omega)
          simp only [Instr.storeAt, Instr.sureAddr, Sem.run_bind, Sem.run_pure, Result.andThen_ok, this]
          rw [hset2]
          simp
        cases h
      cases h
    cases h
  cases h
theorem frzE_still (hτ : τ.ok P) (H : Inv P w0 N g st.bx st.fz st.rw w) {q0 t : Nat} (hN : N.bx.length ≤ q0) {x : AV} {lo hi : Option AV} (h : frzE τ q0 st t x lo hi = some (st', r, cd)) (hc : cd) {u : Value} {vlo vhi : Option Value} (hx : RV g x u) (r1 : RO g lo vlo) (r2 : RO g hi vhi) :
    ∃ g' z, g.lex g' ∧ Inv P w0 N g' st'.bx st'.fz st'.rw w ∧ st'.t = st.t ∧ (Instr.sliceAt t u vlo vhi none).run P w = .ok z w ∧ RV g' r z := by
  unfold frzE at h
  split at h
  · cases h
  rename_i i hi
  have hok := Tab.get_ok hτ hi
  have hd := hok.d
  split at h
  · rename_i m e b path hid
    rw [hid] at hd
    split at h
    · rename_i T a0 hb
      split at h
      · rename_i o2 m2 l p q hl2 ha0 h1 h2
        split at h
        · rename_i hcond
          obtain ⟨rfl, ht, hq0⟩ := hcond
          obtain ⟨j, hj, hjT⟩ := tyIs_ok hτ ht
          obtain ⟨rfl, rfl, rfl⟩ := ER.inj h
          obtain ⟨c1, c2, c3, c4⟩ := hc
          obtain ⟨_, y, o3, T3, hy, ho3, e⟩ := hx.ptr_inv.ptr_inv
          injection e with e; subst e
          obtain ⟨y', hy', hty, hrc⟩ := H.br.get hb
          obtain ⟨hyo, hym, hrc⟩ := hrc.rc (Ty.loc_grows hl2)
          rw [hy] at hy'; injection hy' with hy'; subst hy'
          rw [hty, hl2] at ho3
          simp only [Option.some.injEq, Prod.mk.injEq] at ho3
          obtain ⟨rfl, rfl⟩ := ho3
          obtain ⟨a', ha', pre, mid, post, hcs, hpre, hmid, _⟩ := hrc.lens hl2
          rw [ha0] at ha'; injection ha' with ha'; subst ha'
          obtain ⟨hm, rfl⟩ := hmid.ba_inv
          injection hm with hm
          obtain ⟨g', hle, HI, _, hro⟩ := H.freeze hy hyo hym (Nat.le_trans hN hq0)
          refine ⟨g', .slice (some (if m2 = p.toNat then ⟨y.blk, o2, none⟩ else (⟨y.blk, o2, none⟩ : Addr).add p.toNat)) (q.toNat - p.toNat) (m2 - p.toNat), hle, HI, rfl, ?_, ?_⟩
          · have hs := hj.sizeOf w
            rw [hjT] at hs; simp only [Ty.size] at hs
            simp [Instr.sliceAt, run_underlying (show P.underlying t = _ from hd.1), Instr.sureAddr, run_bounds h1 h2 r1 r2 c1 c2 c3 (Nat.le_refl _), hs]
          have hlen : ((l.take q.toNat).drop p.toNat).length = q.toNat - p.toNat := by rw [List.length_drop, List.length_take]; omega
          have := RC.bs (g := g') (l := (l.take q.toNat).drop p.toNat) (tok := none) (A := some (if m2 = p.toNat then ⟨y.blk, o2, none⟩ else (⟨y.blk, o2, none⟩ : Addr).add p.toNat)) (c := m2 - p.toNat) (by rw [hlen]; omega) (by simp only [maxLen]; omega) ?_ (fun i hi => by cases hi)
          · rw [hlen] at this; exact this.rv1
          by_cases hz : q.toNat - p.toNat = 0
          · exact .inl (List.length_eq_zero_iff.1 (by rw [hlen]; exact hz))
          refine .inr ⟨y.blk, o2 + p.toNat, by rw [if_neg (by omega), addr_add], fun k hk => ?_⟩
          rw [hlen] at hk
          refine hro _ _ ?_
          rw [hcs, List.append_assoc, List.getElem?_append_right (by omega), hpre, show o2 + p.toNat + k - o2 = p.toNat + k by omega, List.getElem?_append_left (by rw [List.length_map]; omega)]
          simp [show p.toNat + k < l.length by omega]
        cases h
      cases h
    cases h
  cases h
theorem frzE_sound (hτ : τ.ok P) (H : Inv P w0 N g st.bx st.fz st.rw w) {q0 t : Nat} (hN : N.bx.length ≤ q0) {x : AV} {lo hi : Option AV} (h : frzE τ q0 st t x lo hi = some (st', r, cd)) (hc : cd) {u : Value} {vlo vhi : Option Value} (hx : RV g x u) (r1 : RO g lo vlo) (r2 : RO g hi vhi) :
    EOk false P w0 N g st st' r w (do pure (.value (← Instr.sliceAt t u vlo vhi none))) := by
  obtain ⟨g', z, h1, h2, h3, h4, h5⟩ := frzE_still hτ H hN h hc hx r1 r2
  exact ⟨g', w, ⟨h1.1, fun _ => h1.2⟩, h2, h3, .inl ⟨z, by simp [h4], h5⟩⟩
end
def setB (n : Nat) (ev : Operand → AV) : List (Nat × Operand) → List UInt8 → Option (List UInt8 × Prop)
  | [], l => some (l, True)
  | (k, x) :: r, l =>
    match ev x with
    | .v (.int .u8 m) => if k < n then (match setB n ev r (l.set k (UInt8.ofNat m.toNat)) with
      | some (b, c) => some (b, (0 ≤ m ∧ m ≤ 255) ∧ c)
      | none => none) else none
    | _ => none
def setE (n : Nat) (T : Ty) (ev : Operand → AV) : List (Nat × Operand) → List AV → Option (List AV × Prop)
  | [], l => some (l, True)
  | (k, x) :: r, l => if k < n ∧ pure_ 3 (ev x) = true then (match setE n T ev r (l.set k (strip 3 (ev x))) with
      | some (b, c) => some (b, fit T (ev x) ∧ c)
      | none => none) else none
def bslE (τ : Tab) (st : St) (c : Gd) (t n : Nat) (ps : List (Nat × Operand)) : ER :=
  match Tab.get t τ with
  | none => none
  | some i =>
    match i.d with
    | .slc e => (match Tab.get e τ with
      | none => none
      | some j => if n * j.ty.size ≤ 16777216 ∧ 0 < j.ty.size then
          (if isByte τ e then (match setB n (st.ev c) ps (List.replicate n 0) with
            | some (l, cd) => some ({ st with rw := st.rw ++ [(e, n)] }, .bs l (some st.rw.length), cd)
            | none => none)
          else (match setE n j.ty (st.ev c) ps (List.replicate n j.zero) with
            | some (l, cd) => some ({ st with rw := st.rw ++ [(e, n)] }, .sl j.ty l (some st.rw.length), cd)
            | none => none)) else none)
    | _ => none
def chain (T : Ty) : Nat → Ty
  | 0 => .nl
  | n + 1 => .cn T (chain T n)
section
variable {P : Program} {τ : Tab} {w0 w : World} {N : Gh} {g : Gh} {st st' : St} {r : AV} {cd : Prop}
theorem chain_size (T : Ty) (n : Nat) : (chain T n).size = n * T.size := by
  induction n with
  | zero => simp [chain, Ty.size]
  | succ n ih => simp only [chain, Ty.size, ih, Nat.add_mul, Nat.one_mul]; omega
theorem chain_loc (T : Ty) (hT : T.grows = false) : ∀ (n k : Nat), k < n → (chain T n).loc [k] = some (k * T.size, T) := by
  intro n
  induction n with
  | zero => intro k hk; omega
  | succ n ih =>
    intro k hk
    cases k with
    | zero => simp [chain, Ty.loc, Ty.loc_nil hT]
    | succ k => simp only [chain, Ty.loc, ih k (by omega), Option.map_some, Nat.add_mul, Nat.one_mul]; congr 2; omega
theorem RC.chain_replicate {T : Ty} {a : AV} {cs : List Value} (h : RC g T a cs) : ∀ n, RC g (chain T n) (.st (List.replicate n a)) (List.replicate n cs).flatten
  | 0 => .nl
  | n + 1 => by simp only [List.replicate_succ, List.flatten_cons, chain]; exact .cn h (RC.chain_replicate h n)
theorem put_one (l : List AV) (k : Nat) (b : AV) : (AV.st l).put [k] b = .st (l.set k b) := by
  simp only [AV.put]
  cases h : l[k]? with
  | none => simp only []; rw [List.set_eq_of_length_le]; exact List.getElem?_eq_none_iff.1 h
  | some f => rfl
theorem RC.st_len {T : Ty} : ∀ {n : Nat} {l : List AV} {cs : List Value}, RC g (chain T n) (.st l) cs → l.length = n
  | 0, l, cs, h => by cases h; rfl
  | n + 1, l, cs, h => by cases h with | cn h hs => simp [RC.st_len hs]
theorem setE_sound {n : Nat} {T : Ty} {ev : Operand → AV} {ρ : Operand → Value} (hev : ∀ x, RV g (ev x) (ρ x)) :
    ∀ (ps : List (Nat × Operand)) (l b : List AV) (c : Prop) (cs : Array Value), setE n T ev ps l = some (b, c) → c → RC g.base (chain T n) (.st l) cs.toList →
      ∃ cs' : Array Value, Instr.fill (fun i => some (i * T.size, T.size)) cs (ps.map fun x => (x.1, ρ x.2)) = some cs' ∧ RC g.base (chain T n) (.st b) cs'.toList := by
  intro ps
  induction ps with
  | nil => intro l b c cs h hc hr; simp only [setE, Option.some.injEq, Prod.mk.injEq] at h; obtain ⟨rfl, rfl⟩ := h; exact ⟨cs, rfl, hr⟩
  | cons p ps ih =>
    intro l b c cs h hc hr
    obtain ⟨k, x⟩ := p
    simp only [setE] at h
    split at h
    · rename_i hk
      obtain ⟨hk, hpu⟩ := hk
      split at h
      · rename_i b' c' hb
        simp only [Option.some.injEq, Prod.mk.injEq] at h
        obtain ⟨rfl, rfl⟩ := h
        obtain ⟨c1, c2⟩ := hc
        obtain ⟨ds, h1, h2⟩ := (hev x).fit c1
        obtain ⟨cs1, h3, _, h4⟩ := fill_one hr (chain_loc T h1.grows n k hk) (pl := fun i => some (i * T.size, T.size)) rfl (h1.strip_ hpu) (v := ρ x) (by rw [h2]; exact mkV_cells h1) (ps.map fun x => (x.1, ρ x.2))
        rw [put_one] at h3
        obtain ⟨cs2, h5, h6⟩ := ih _ _ _ cs1 hb c2 h3
        exact ⟨cs2, by rw [List.map_cons, h4, h5], h6⟩
      cases h
    cases h
theorem setB_sound {n : Nat} {ev : Operand → AV} {ρ : Operand → Value} (hev : ∀ x, RV g (ev x) (ρ x)) :
    ∀ (ps : List (Nat × Operand)) (l b : List UInt8) (c : Prop) (cs : Array Value), setB n ev ps l = some (b, c) → c → l.length = n → cs.toList = l.map B8 →
      ∃ cs' : Array Value, Instr.fill (fun i => some (i, 1)) cs (ps.map fun x => (x.1, ρ x.2)) = some cs' ∧ cs'.toList = b.map B8 ∧ b.length = n := by
  intro ps
  induction ps with
  | nil => intro l b c cs h hc hl hr; simp only [setB, Option.some.injEq, Prod.mk.injEq] at h; obtain ⟨rfl, rfl⟩ := h; exact ⟨cs, rfl, hr, hl⟩
  | cons p ps ih =>
    intro l b c cs h hc hl hr
    obtain ⟨k, x⟩ := p
    simp only [setB] at h
    split at h
    · rename_i m hx0
      split at h
      · rename_i hk
        split at h
        · rename_i b' c' hb
          simp only [Option.some.injEq, Prod.mk.injEq] at h
          obtain ⟨rfl, rfl⟩ := h
          obtain ⟨⟨c1, c1'⟩, c2⟩ := hc
          have hx1 : ρ x = .int .u8 m := by have := hev x; rw [hx0] at this; exact this.v_inv
          have hn : Value.int .u8 m = B8 (UInt8.ofNat m.toNat) := by rw [B8_ofNat]; congr 1; omega
          have hsz : cs.size = l.length := by have := congrArg List.length hr; simpa using this
          obtain ⟨cs2, h5, h6, h7⟩ := ih _ _ _ (cs.setIfInBounds k (ρ x)) hb c2 (by rw [List.length_set]; exact hl) (by rw [Array.toList_setIfInBounds, hr, hx1, hn, ← List.map_set])
          refine ⟨cs2, ?_, h6, h7⟩
          rw [List.map_cons, Instr.fill]
          simp only []
          rw [hx1] at h5 ⊢
          rw [if_neg (by simp [Value.cells]; omega)]
          exact (congrArg (fun q => Instr.fill (fun i => some (i, 1)) q (ps.map fun x => (x.1, ρ x.2))) (rfl : _ = cs.setIfInBounds k (.int .u8 m))).trans h5
        cases h
      cases h
    cases h
theorem initCells (z : Array Value) (n s : Nat) (hs : z.size = s) : ((Array.range (n * s)).map fun i => z[i % z.size]!).toList = (List.replicate n z.toList).flatten := by
  rw [← zeroCells_flatten z n]
  unfold Builtin.zeroCells
  rw [← hs]
theorem zeroOf_len {t : TypeId} {i : TI} (h : i.ok P t) : (zeroOf P t).length = i.ty.size ∧ ∀ u ∈ zeroOf P t, u.oneCell' = true := by
  obtain ⟨inf, z0, e1, e2, e3, e4, e5⟩ := h.info
  have hz : zeroOf P t = z0.cells.toList := by simp [zeroOf, e1, e4]
  rw [hz]
  have := e5 ⟨fun _ _ => none, [], []⟩
  exact ⟨this.size, this.one⟩
theorem rowNew {t : TypeId} {i : TI} (h : i.ok P t) (hpos : 0 < i.ty.size) (w : World) (n : Nat) (cs : List Value) (hl : cs.length = n * i.ty.size) (h1 : ∀ u ∈ cs, u.oneCell' = true) (hn : n ≤ maxLen) :
    let r : Rw := ⟨t, i.ty.size, zeroOf P t, .slice (some ⟨w.heap.size, 0, none⟩) n n, n, cs, 0⟩
    Row (w.alloc (.cells cs.toArray t)) r ∧ r.cx ++ noughts r = cs ∧ (r.es = P.cellsOf r.tid ∧ r.zero = zeroOf P r.tid) := by
  obtain ⟨z1, z2⟩ := zeroOf_len h
  intro r
  have hno : noughts r = [] := rfl
  refine ⟨⟨hpos, z1, fun u hu => ?_, hl, .inr ⟨w.heap.size, rfl, ?_, hn⟩⟩, ?_, h.cells.symm, rfl⟩
  · rcases List.mem_append.1 hu with hu | hu
    · exact h1 u hu
    exact z2 u hu
  · rw [hno]; simp only [List.append_nil]; exact Blk.new _ _ _
  rw [hno, List.append_nil]
theorem chunks_all (s : Nat) : ∀ (n : Nat) (cs : List Value), cs.length = n * s → cs = (List.range n).flatMap fun k => (cs.drop (k * s)).take s := by
  intro n
  induction n with
  | zero => intro cs h; simp at h; subst h; rfl
  | succ n ih =>
    intro cs h
    rw [Nat.add_mul, Nat.one_mul] at h
    have h1 := ih (cs.take (n * s)) (by rw [List.length_take]; omega)
    rw [List.range_succ, List.flatMap_append]
    have h2 : (List.range n).flatMap (fun k => (cs.drop (k * s)).take s) = cs.take (n * s) := by
      conv => rhs; rw [h1]
      rw [List.flatMap_def, List.flatMap_def]
      congr 1
      apply List.map_congr_left
      intro k hk
      have hk := List.mem_range.1 hk
      have hks : (k + 1) * s ≤ n * s := Nat.mul_le_mul_right s hk
      rw [Nat.add_mul, Nat.one_mul] at hks
      rw [List.drop_take, List.take_take, Nat.min_eq_left (by omega)]
    rw [h2]
    simp only [List.flatMap_cons, List.flatMap_nil, List.append_nil]
    rw [List.take_of_length_le (l := cs.drop (n * s)) (by rw [List.length_drop]; omega), List.take_append_drop]
theorem bslE_sound (hτ : τ.ok P) (H : Inv P w0 N g st.bx st.fz st.rw w) {nt : Nat} {a : Act} (hF : FR g nt st a) {c : Gd} (hg : gholds a c) {t n : Nat} {ps : Array (Nat × Operand)} (h : bslE τ st c t n ps.toList = some (st', r, cd)) (hc : cd) :
    EOk false P w0 N g st st' r w (do pure (.value (← Instr.buildSlice t n (ps.map fun (i, x) => (i, a.eval x))))) := by
  unfold bslE at h
  split at h
  · cases h
  rename_i i hi
  have hok := Tab.get_ok hτ hi
  have hd := hok.d
  split at h
  · rename_i e hid
    rw [hid] at hd
    split at h
    · cases h
    rename_i j hj
    have hjok := Tab.get_ok hτ hj
    obtain ⟨inf, z0, e1, e2, e3, e4, e5⟩ := hjok.info
    have hz : ∀ w, (zeroValue e).run P w = .ok z0 w := fun w => by simp [zeroValue, typeInfo, e1, e4]
    have hps : (ps.map fun (i, x) => (i, a.eval x)).toList = ps.toList.map fun x => (x.1, a.eval x.2) := by simp
    split at h
    · rename_i hcond
      obtain ⟨hbig, hpos⟩ := hcond
      have hzl : z0.cells.size = j.ty.size := by have := (e5 g).size; simpa using this
      have key : ∀ cs' : Array Value, (∀ cs : Array Value, cs.toList = (List.replicate n z0.cells.toList).flatten → Instr.fill (fun i => some (i * j.ty.size, j.ty.size)) cs (ps.toList.map fun x => (x.1, a.eval x.2)) = some cs') →
          (Instr.buildSlice t n (ps.map fun (i, x) => (i, a.eval x))).run P w = .ok (.slice (some ⟨w.heap.size, 0, none⟩) n n) (w.alloc (.cells cs' e)) := by
        intro cs' hfill
        have hs := hjok.sizeOf w
        have hnot : ¬ (16777216 < n * j.ty.size) := by omega
        unfold Instr.buildSlice
        simp only [Sem.run_bind, run_underlying (show P.underlying t = _ from hd), Result.andThen_ok, hs]
        by_cases hn0 : n * j.ty.size = 0
        · have hn : n = 0 := by
            rcases Nat.mul_eq_zero.1 hn0 with h | h
            · exact h
            omega
          subst hn
          have := hfill ((Array.range 0).map fun _ => (default : Value)) (by simp)
          simp [hps, this, newRow]
        have := hfill ((Array.range (n * j.ty.size)).map fun i => z0.cells[i % z0.cells.size]!) (initCells z0.cells n j.ty.size hzl)
        simp [hnot, hn0, hz, hps, this, newRow]
      have hn63 : n ≤ maxLen := by
        have : n * 1 ≤ n * j.ty.size := Nat.mul_le_mul_left n hpos
        simp only [maxLen]; omega
      have fin : ∀ (cs' : Array Value) (hl : cs'.toList.length = n * j.ty.size) (h1 : ∀ u ∈ cs'.toList, u.oneCell' = true), ∃ g', g.lex g' ∧ Inv P w0 N g' st.bx st.fz (st.rw ++ [(e, n)]) (w.alloc (.cells cs' e)) ∧
          (∃ rr : Rw, g'.rw[st.rw.length]? = some rr ∧ rr.n = n ∧ rr.v = .slice (some ⟨w.heap.size, 0, none⟩) n n ∧ rr.cx = cs'.toList) ∧ ∀ j u, cs'.toList[j]? = some u → g'.ro w.heap.size j = some u := by
        intro cs' hl h1
        obtain ⟨k1, k2, k3⟩ := rowNew hjok hpos w n cs'.toList hl h1 hn63
        have k2' : (Rw.mk e j.ty.size (zeroOf P e) (.slice (some ⟨w.heap.size, 0, none⟩) n n) n cs'.toList 0).cx ++ noughts ⟨e, j.ty.size, zeroOf P e, .slice (some ⟨w.heap.size, 0, none⟩) n n, n, cs'.toList, 0⟩ = cs'.toList := k2
        obtain ⟨g', h2, h3, h4, h5⟩ := H.row (r := ⟨e, j.ty.size, zeroOf P e, .slice (some ⟨w.heap.size, 0, none⟩) n n, n, cs'.toList, 0⟩) (by rw [k2']; exact k1) rfl k3
        rw [k2'] at h3
        exact ⟨g', h2, by simpa using h3, ⟨_, h4, rfl, rfl, rfl⟩, h5⟩
      split at h
      · rename_i hb
        split at h
        · rename_i l cd' hs
          obtain ⟨rfl, rfl, rfl⟩ := ER.inj h
          obtain ⟨_, jj, hjj, hjT⟩ := isByte_ok hτ hb
          have hjs : j.ty.size = 1 := by rw [← hjok.cells, hjj.cells, hjT]; rfl
          have hzb : z0.cells.toList = [B8 0] := by
            have h5 := e5 g
            have hjd : j.d = .int .u8 := by
              unfold isByte at hb; rw [hj] at hb; dsimp only at hb
              split at hb
              · assumption
              cases hb
            rw [hjok.iz _ hjd] at h5
            exact h5.v_inv.2
          obtain ⟨cs', h1, h2, h3⟩ := setB_sound (fun x => ev_sound hF hg x) ps.toList (List.replicate n 0) l cd' (((List.replicate n (0 : UInt8)).map B8).toArray) hs hc (by simp) (by simp)
          have hrun := key cs' (fun cs hcs => by
            have : cs = ((List.replicate n (0 : UInt8)).map B8).toArray := by
              apply Array.toList_inj.1; rw [hcs, hzb]
              simp
            rw [this, hjs]; simp only [Nat.mul_one]; exact h1)
          obtain ⟨g', k1, k2, ⟨rr, k3, k4, k5, k6⟩, k7⟩ := fin cs' (by rw [h2, List.length_map, h3, hjs, Nat.mul_one]) (by rw [h2]; intro u hu; obtain ⟨x, _, rfl⟩ := List.mem_map.1 hu; rfl)
          refine ⟨g', _, ⟨k1.1, fun _ => k1.2⟩, k2, rfl, .inl ⟨.slice (some ⟨w.heap.size, 0, none⟩) n n, by simp [hrun], ?_⟩⟩
          have := RC.bs (g := g') (l := l) (tok := some st.rw.length) (A := some ⟨w.heap.size, 0, none⟩) (c := n) (by omega) hn63 (.inr ⟨w.heap.size, 0, rfl, fun k hk => k7 _ _ (by rw [h2, Nat.zero_add]; simp [hk])⟩)
            (fun q hq => by injection hq with hq; subst hq; exact ⟨rr, k3, by omega, fun _ => ⟨by rw [k5, h3], by rw [k6, h2]⟩⟩)
          rw [h3] at this
          exact this.rv1
        cases h
      split at h
      · rename_i l cd' hs
        obtain ⟨rfl, rfl, rfl⟩ := ER.inj h
        obtain ⟨cs', h1, h2⟩ := setE_sound (fun x => ev_sound hF hg x) ps.toList (List.replicate n j.zero) l cd' ((List.replicate n z0.cells.toList).flatten.toArray) hs hc (by simpa using (e5 g.base).chain_replicate n)
        have hrun := key cs' (fun cs hcs => by
          have : cs = (List.replicate n z0.cells.toList).flatten.toArray := by apply Array.toList_inj.1; rw [hcs]
          rw [this]; exact h1)
        have hll := h2.st_len
        obtain ⟨g', k1, k2, ⟨rr, k3, k4, k5, k6⟩, k7⟩ := fin cs' (by rw [h2.size, chain_size]) h2.one
        refine ⟨g', _, ⟨k1.1, fun _ => k1.2⟩, k2, rfl, .inl ⟨.slice (some ⟨w.heap.size, 0, none⟩) n n, by simp [hrun], ?_⟩⟩
        have hel : ∀ k (hk : k < l.length), RC g'.base j.ty l[k] ((cs'.toList.drop (k * j.ty.size)).take j.ty.size) := fun k hk => by
          obtain ⟨a', ha', pre, mid, post, hcs, hpre, hmid, _⟩ := (h2.mono k1.1.base).lens (chain_loc j.ty (e5 g.base).grows n k (by omega))
          have : l[k]? = some a' := by simpa [AV.loc, List.getElem?_eq_getElem hk] using ha'
          rw [List.getElem?_eq_getElem hk] at this; injection this with this; subst this
          rw [hcs, ← hpre, ← hmid.size]; simpa using hmid
        have := RC.sl (g := g') (T := j.ty) (es := l) (tok := some st.rw.length) (A := some ⟨w.heap.size, 0, none⟩) (c := n) (by omega) hn63 (fun k => (cs'.toList.drop (k * j.ty.size)).take j.ty.size)
          (.inr ⟨w.heap.size, 0, rfl, fun k hk q u hu => k7 _ _ (by
            rw [List.getElem?_take] at hu
            split at hu
            · rw [List.getElem?_drop] at hu; rw [Nat.zero_add]; exact hu
            cases hu)⟩) hel
          (fun q hq => by injection hq with hq; subst hq; exact ⟨rr, k3, by omega, fun _ => ⟨by rw [k5, hll], by
            rw [k6, hll]; exact chunks_all j.ty.size n cs'.toList (by rw [h2.size, chain_size])⟩⟩)
        rw [hll] at this
        exact this.rv1
      cases h
    cases h
  cases h
end
def srcB : AV → Option (List UInt8)
  | .bs l _ => some l
  | .bc l n _ => some (l.take n)
  | .v (.slice none 0 0) => some []
  | _ => none
def srcE (T : Ty) : AV → Option (List AV)
  | .sl T' es _ => if T' = T then some es else none
  | .v (.slice none 0 0) => some []
  | _ => none
def appE (τ : Tab) (st : St) (t : Nat) (x y : AV) : ER :=
  match Tab.get t τ with
  | none => none
  | some i =>
    match i.d with
    | .slc e => (match Tab.get e τ with
      | none => none
      | some j => if 0 < j.ty.size ∧ j.bytes ≤ 4096 then (if isByte τ e then
          (match srcB y with
          | none => none
          | some l' => (match x with
            | .v (.slice none 0 0) => some ({ st with rw := st.rw ++ [(e, l'.length)] }, .bs l' (some st.rw.length), l'.length ≤ 34359738368)
            | .bs l (some r) => (match st.rw[r]? with
              | some (e', n) => if e' = e then some ({ st with rw := st.rw.set r (e, l.length + l'.length) }, .bs (l ++ l') (some r), n = l.length ∧ l.length + l'.length ≤ 34359738368) else none
              | none => none)
            | _ => none))
        else
          (match srcE j.ty y with
          | none => none
          | some l' => (match x with
            | .v (.slice none 0 0) => some ({ st with rw := st.rw ++ [(e, l'.length)] }, .sl j.ty l' (some st.rw.length), l'.length ≤ 34359738368)
            | .sl T l (some r) => if T = j.ty then (match st.rw[r]? with
              | some (e', n) => if e' = e then some ({ st with rw := st.rw.set r (e, l.length + l'.length) }, .sl j.ty (l ++ l') (some r), n = l.length ∧ l.length + l'.length ≤ 34359738368) else none
              | none => none) else none
            | _ => none))) else none)
    | _ => none
section
variable {P : Program} {τ : Tab} {w0 w : World} {N : Gh} {g : Gh} {st st' : St} {r : AV} {cd : Prop}
theorem app_core (hτ : τ.ok P) {bx : List (Ty × AV)} {fz : List Nat} {rws : List (TypeId × Nat)} (H : Inv P w0 N g bx fz rws w) {t e : Nat} (ht : P.underlying t = some (.slice e)) {j : TI} (hj : j.ok P e) {q : Nat} {n : Nat} {rr : Rw} (hrr : g.rw[q]? = some rr) (hq : rws[q]? = some (e, n)) (ty : TypeId)
    {m : Nat} {ys : List Value} (hl : ys.length = m * j.ty.size) (h1 : ∀ u ∈ ys, u.oneCell' = true) {A : Option Addr} (c : Nat) (hsrc : ys = [] ∨ ∃ b o, A = some ⟨b, o, none⟩ ∧ ∀ j u, ys[j]? = some u → g.ro b (o + j) = some u)
    (hpos : 0 < j.ty.size) (b1 : n + m ≤ 140737488355328) (b2 : (n + m) * j.bytes ≤ 140737488355328) :
    ∃ g' w' r', g.lex g' ∧ Inv P w0 N g' bx fz (rws.set q (e, n + m)) w' ∧ (Builtin.append_ #[t, t] ty #[rr.v, .slice A m c]).run P w = .ok r'.v w' ∧ g'.rw[q]? = some r' ∧ r'.n = n + m ∧ r'.cx = rr.cx ++ ys ∧ Row w' r' ∧
      (∀ k, r'.v.ownBlock = some k → ∀ j u, r'.cx[j]? = some u → g'.ro k j = some u) := by
  have hrow := H.mem.rw q rr hrr
  have hwr : (g.rw.map fun r => (r.tid, r.n))[q]? = some (e, n) := by rw [H.wr]; exact hq
  rw [List.getElem?_map, hrr] at hwr
  simp only [Option.map_some, Option.some.injEq, Prod.mk.injEq] at hwr
  obtain ⟨hte, hn⟩ := hwr
  have hz := H.wz rr (List.mem_of_getElem? hrr)
  have hes : rr.es = j.ty.size := by rw [hz.1, hte, hj.cells]
  obtain ⟨inf, z0, e1, e2, e3, e4, e5⟩ := hj.info
  rw [← hte] at e1 ht
  subst hn
  cases m with
  | zero =>
    have hys : ys = [] := List.length_eq_zero_iff.1 (by rw [hl]; simp)
    subst hys
    have hset : rws.set q (e, rr.n + 0) = rws := by
      apply List.ext_getElem?
      intro k
      rw [List.getElem?_set]
      split
      · rename_i h2; subst h2
        have := (List.getElem?_eq_some_iff.1 hq).1
        rw [if_pos this, hq]; rfl
      rfl
    rw [hset]
    refine ⟨g, w, rr, Gh.lex.refl g, H, run_append_nought hrow e1 ht ty A c, hrr, rfl, by simp, hrow, fun k hk i u hu => ?_⟩
    exact H.mem.rwo q rr k hrr hk i u hu
  | succ m =>
    obtain ⟨r', w', hrun, hR, k1, k2, k3, k4, k5, k6, k7, k8⟩ := run_appendR (P := P) hrow hz e1 e4 ht ty (m := m + 1) (ys := ys) (by rw [hes]; exact hl) h1 (A := A) c
      (by
        rcases hsrc with h | ⟨b, o, hA, hc⟩
        · subst h; exact absurd (Nat.mul_pos (Nat.succ_pos m) hpos) (by rw [← hl]; simp)
        exact .inr ⟨b, o, hA, fun i u hu => H.mem.ro _ _ _ (hc i u hu)⟩) (by simp only [maxLen]; omega) (by rw [e3]; exact b2)
    obtain ⟨g', hle, HI, h3, h4⟩ := H.grow hrr hR k1 k2 k3 k4 (by omega) k6 k7 k8
    refine ⟨g', w', r', hle, ?_, hrun, h3, k5, k4, hR, h4⟩
    rw [k1, k5, hte] at HI
    exact HI
theorem flat_append (F F1 : Nat → List Value) (n : Nat) : ∀ m, (List.range n).flatMap F ++ (List.range m).flatMap F1 = (List.range (n + m)).flatMap fun k => if k < n then F k else F1 (k - n) := by
  intro m
  induction m with
  | zero =>
    simp only [List.range_zero, List.flatMap_nil, List.append_nil, Nat.add_zero]
    rw [List.flatMap_def, List.flatMap_def]; congr 1
    apply List.map_congr_left
    intro k hk; rw [if_pos (List.mem_range.1 hk)]
  | succ m ih =>
    rw [List.range_succ, List.flatMap_append, ← List.append_assoc, ih, ← Nat.add_assoc, List.range_succ, List.flatMap_append]
    simp [show ¬ n + m < n by omega]
theorem row_bs {w' : World} {q : Nat} {r' : Rw} {l : List UInt8} (hrw : g.rw[q]? = some r') (hR : Row w' r') (hn : r'.n = l.length) (hc : r'.cx = l.map B8) (hro : ∀ k, r'.v.ownBlock = some k → ∀ j u, r'.cx[j]? = some u → g.ro k j = some u) : RV g (.bs l (some q)) r'.v := by
  rcases hR.at_ with ⟨e1, e2, e3⟩ | ⟨k, e1, hb, hm⟩
  · rw [e1]
    have hl : l = [] := List.length_eq_zero_iff.1 (by omega)
    subst hl
    exact (RC.bs (g := g) (l := []) (A := none) (c := 0) (by simp) (by simp [maxLen]) (.inl rfl) fun i hi => by injection hi with hi; subst hi; exact ⟨r', hrw, by simp, fun _ => ⟨e1, hc⟩⟩).rv1
  have := RC.bs (g := g) (l := l) (tok := some q) (A := some ⟨k, 0, none⟩) (c := r'.n + r'.m) (by omega) hm (.inr ⟨k, 0, rfl, fun i hi => hro k (by rw [e1]; rfl) _ _ (by rw [hc, Nat.zero_add]; simp [hi])⟩)
    (fun i hi => by injection hi with hi; subst hi; exact ⟨r', hrw, by omega, fun _ => ⟨by rw [e1, hn], hc⟩⟩)
  rw [e1, hn]
  rw [hn] at this
  exact this.rv1
theorem row_sl {w' : World} {q : Nat} {r' : Rw} {T : Ty} {es : List AV} {F : Nat → List Value} (hrw : g.rw[q]? = some r') (hR : Row w' r') (hn : r'.n = es.length) (hF : ∀ k (h : k < es.length), RC g.base T es[k] (F k)) (hc : r'.cx = (List.range es.length).flatMap F) (hro : ∀ k, r'.v.ownBlock = some k → ∀ j u, r'.cx[j]? = some u → g.ro k j = some u) : RV g (.sl T es (some q)) r'.v := by
  rcases hR.at_ with ⟨e1, e2, e3⟩ | ⟨k, e1, hb, hm⟩
  · rw [e1]
    have hl : es = [] := List.length_eq_zero_iff.1 (by omega)
    subst hl
    exact (RC.sl (g := g) (T := T) (es := []) (A := none) (c := 0) (by simp) (by simp [maxLen]) F (.inl rfl) hF fun i hi => by injection hi with hi; subst hi; exact ⟨r', hrw, by simp, fun _ => ⟨e1, hc⟩⟩).rv1
  have := RC.sl (g := g) (T := T) (es := es) (tok := some q) (A := some ⟨k, 0, none⟩) (c := r'.n + r'.m) (by omega) hm F (.inr ⟨k, 0, rfl, fun i hi x u hu => hro k (by rw [e1]; rfl) _ _ (by
      rw [hc, Nat.zero_add]; exact flat_get es.length (fun k hk => (hF k hk).size) i x u hi hu)⟩) hF
    (fun i hi => by injection hi with hi; subst hi; exact ⟨r', hrw, by omega, fun _ => ⟨by rw [e1, hn], hc⟩⟩)
  rw [e1, hn]
  rw [hn] at this
  exact this.rv1
theorem srcB_ok {y : AV} {l : List UInt8} (h : srcB y = some l) {v : Value} (hv : RV g y v) : ∃ A c, v = .slice A l.length c ∧ (l.map B8 = [] ∨ ∃ b o, A = some ⟨b, o, none⟩ ∧ ∀ j u, (l.map B8)[j]? = some u → g.ro b (o + j) = some u) := by
  unfold srcB at h
  split at h
  · injection h with h; subst h
    obtain ⟨_, A, c, e1, _, _, hr⟩ := hv.bs_inv.bs_inv
    injection e1 with e1
    refine ⟨A, c, e1, ?_⟩
    rcases hr with h | ⟨b, o, hA, hc⟩
    · exact .inl (by rw [h]; rfl)
    refine .inr ⟨b, o, hA, fun j u hu => ?_⟩
    rw [List.getElem?_map] at hu
    obtain ⟨x, hx, rfl⟩ := Option.map_eq_some_iff.1 hu
    obtain ⟨hj, e⟩ := List.getElem?_eq_some_iff.1 hx
    rw [hc j hj, e]
  · injection h with h; subst h
    obtain ⟨_, A, c, e1, _, _, hr⟩ := (show RV g (.bs (List.take _ _) none) v from hv.asb_).bs_inv.bs_inv
    injection e1 with e1
    refine ⟨A, c, e1, ?_⟩
    rcases hr with h | ⟨b, o, hA, hc⟩
    · exact .inl (by rw [h]; rfl)
    refine .inr ⟨b, o, hA, fun j u hu => ?_⟩
    rw [List.getElem?_map] at hu
    obtain ⟨x, hx, rfl⟩ := Option.map_eq_some_iff.1 hu
    obtain ⟨hj, e⟩ := List.getElem?_eq_some_iff.1 hx
    rw [hc j hj, e]
  · injection h with h; subst h
    have := hv.v_inv; subst this
    exact ⟨none, 0, rfl, .inl rfl⟩
  cases h
theorem srcE_ok {T : Ty} {y : AV} {es : List AV} (h : srcE T y = some es) {v : Value} (hv : RV g y v) : ∃ A c F, v = .slice A es.length c ∧ (∀ k (h : k < es.length), RC g.base T es[k] (F k)) ∧ ((List.range es.length).flatMap F = [] ∨ ∃ b o, A = some ⟨b, o, none⟩ ∧ ∀ j u, ((List.range es.length).flatMap F)[j]? = some u → g.ro b (o + j) = some u) := by
  unfold srcE at h
  split at h
  · split at h
    · rename_i hT; subst hT
      injection h with h; subst h
      obtain ⟨_, A, c, F, e1, _, _, hr, hF⟩ := hv.sl_inv.sl_inv
      injection e1 with e1
      refine ⟨A, c, F, e1, hF, ?_⟩
      rcases hr with h | ⟨b, o, hA, hc⟩
      · exact .inl (by rw [h]; rfl)
      refine .inr ⟨b, o, hA, fun j u hu => ?_⟩
      obtain ⟨k, hk, i, h1, rfl⟩ := flat_get' _ (fun k hk => (hF k hk).size) j u hu
      rw [← Nat.add_assoc]; exact hc k hk i u h1
    cases h
  · injection h with h; subst h
    have := hv.v_inv; subst this
    exact ⟨none, 0, fun _ => [], rfl, fun k h => absurd h (by simp), .inl rfl⟩
  cases h
theorem nilRow {e : Nat} {j : TI} (hj : j.ok P e) (hpos : 0 < j.ty.size) (w : World) : Row w ⟨e, j.ty.size, zeroOf P e, .slice none 0 0, 0, [], 0⟩ := by
  obtain ⟨z1, z2⟩ := zeroOf_len hj
  exact ⟨hpos, z1, fun u hu => z2 u (by simpa using hu), by simp, .inl ⟨rfl, rfl, rfl⟩⟩
theorem appE_sound (hτ : τ.ok P) (H : Inv P w0 N g st.bx st.fz st.rw w) {t : Nat} {x y : AV} (h : appE τ st t x y = some (st', r, cd)) (hc : cd) {u v : Value} (hu : RV g x u) (hv : RV g y v) (ty : TypeId) :
    EOk false P w0 N g st st' r w (do pure (.value (← Builtin.append_ #[t, t] ty #[u, v]))) := by
  unfold appE at h
  split at h
  · cases h
  rename_i i hi
  have hd := (Tab.get_ok hτ hi).d
  split at h
  · rename_i e hid
    rw [hid] at hd
    split at h
    · cases h
    rename_i j hj
    have hjok := Tab.get_ok hτ hj
    split at h
    · rename_i hpos
      obtain ⟨hpos, hby⟩ := hpos
      have hbig : ∀ n, n ≤ 34359738368 → n * j.bytes ≤ 140737488355328 := fun n hn => Nat.le_trans (Nat.mul_le_mul hn hby) (by decide)
      split at h
      · rename_i hb
        obtain ⟨_, jj, hjj, hjT⟩ := isByte_ok hτ hb
        have hjs : j.ty.size = 1 := by rw [← hjok.cells, hjj.cells, hjT]; rfl
        split at h
        · cases h
        rename_i l' hsrc
        obtain ⟨A, c, rfl, hsr⟩ := srcB_ok hsrc hv
        split at h
        · obtain ⟨rfl, rfl, rfl⟩ := ER.inj h
          have c2 : l'.length ≤ 34359738368 := hc
          have c1 := hbig _ c2
          have := hu.v_inv; subst this
          obtain ⟨g1, l1, I1, h1⟩ := H.rowNil (nilRow hjok hpos w) rfl rfl ⟨hjok.cells.symm, rfl⟩
          obtain ⟨g', w', r', k1, k2, k3, k4, k5, k6, k7, k8⟩ := app_core (n := 0) hτ I1 hd hjok h1 (by simp) ty (m := l'.length) (ys := l'.map B8) (by rw [hjs]; simp) (by intro u hu; obtain ⟨x, _, rfl⟩ := List.mem_map.1 hu; rfl) (A := A) c
            (by rcases hsr with h | ⟨b, o, hA, hc⟩; exact .inl h; exact .inr ⟨b, o, hA, fun j u hu => l1.1.ro _ _ _ (hc j u hu)⟩) hpos (by omega) (by rw [Nat.zero_add]; exact c1)
          have hset : (st.rw ++ [(e, 0)]).set st.rw.length (e, 0 + l'.length) = st.rw ++ [(e, l'.length)] := by simp
          rw [hset] at k2
          exact ⟨g', w', ⟨(l1.trans k1).1, fun _ => (l1.trans k1).2⟩, k2, rfl, .inl ⟨_, by simp [k3], row_bs k4 k7 (by omega) (by rw [k6]; rfl) k8⟩⟩
        · rename_i l q
          split at h
          · rename_i e' n hq
            split at h
            · rename_i hee; subst hee
              obtain ⟨rfl, rfl, rfl⟩ := ER.inj h
              obtain ⟨c1, c3⟩ := hc
              have c2 := hbig _ c3
              obtain ⟨rr, hrr, hrn, hcur⟩ : ∃ rr, g.rw[q]? = some rr ∧ rr.n = n ∧ (rr.n = l.length → rr.v = u ∧ rr.cx = l.map B8) := by
                have hx := hu.bs_inv
                cases hx with
                | bs _ _ _ ht =>
                  obtain ⟨rr, h1, h2, h3⟩ := ht q rfl
                  have hwr : (g.rw.map fun r => (r.tid, r.n))[q]? = some (e', n) := by rw [H.wr]; exact hq
                  rw [List.getElem?_map, h1] at hwr
                  simp only [Option.map_some, Option.some.injEq, Prod.mk.injEq] at hwr
                  exact ⟨rr, h1, hwr.2, h3⟩
              obtain ⟨hvu, hcx⟩ := hcur (hrn.trans c1)
              obtain ⟨g', w', r', k1, k2, k3, k4, k5, k6, k7, k8⟩ := app_core hτ H hd hjok hrr hq ty (m := l'.length) (ys := l'.map B8) (by rw [hjs]; simp) (by intro u hu; obtain ⟨x, _, rfl⟩ := List.mem_map.1 hu; rfl) (A := A) c hsr hpos (by rw [c1]; omega) (by rw [c1]; exact c2)
              rw [c1] at k2
              rw [hvu] at k3
              exact ⟨g', w', ⟨k1.1, fun _ => k1.2⟩, k2, rfl, .inl ⟨_, by simp [k3], row_bs k4 k7 (by rw [k5, c1, List.length_append]) (by rw [k6, hcx, List.map_append]) k8⟩⟩
            cases h
          cases h
        cases h
      split at h
      · cases h
      rename_i l' hsrc
      obtain ⟨A, c, F, rfl, hF, hsr⟩ := srcE_ok hsrc hv
      have hyl := flat_len l'.length fun k hk => (hF k hk).size
      have hy1 : ∀ u ∈ (List.range l'.length).flatMap F, u.oneCell' = true := by
        intro u hu
        obtain ⟨k, hk, hu⟩ := List.mem_flatMap.1 hu
        exact (hF k (List.mem_range.1 hk)).one u hu
      split at h
      · obtain ⟨rfl, rfl, rfl⟩ := ER.inj h
        have c2 : l'.length ≤ 34359738368 := hc
        have c1 := hbig _ c2
        have := hu.v_inv; subst this
        obtain ⟨g1, l1, I1, h1⟩ := H.rowNil (nilRow hjok hpos w) rfl rfl ⟨hjok.cells.symm, rfl⟩
        obtain ⟨g', w', r', k1, k2, k3, k4, k5, k6, k7, k8⟩ := app_core (n := 0) hτ I1 hd hjok h1 (by simp) ty (m := l'.length) hyl hy1 (A := A) c
          (by rcases hsr with h | ⟨b, o, hA, hc⟩; exact .inl h; exact .inr ⟨b, o, hA, fun j u hu => l1.1.ro _ _ _ (hc j u hu)⟩) hpos (by omega) (by rw [Nat.zero_add]; exact c1)
        have hset : (st.rw ++ [(e, 0)]).set st.rw.length (e, 0 + l'.length) = st.rw ++ [(e, l'.length)] := by simp
        rw [hset] at k2
        exact ⟨g', w', ⟨(l1.trans k1).1, fun _ => (l1.trans k1).2⟩, k2, rfl, .inl ⟨_, by simp [k3], row_sl k4 k7 (by omega) (fun k hk => (hF k hk).mono (l1.trans k1).1.base) (by rw [k6]; rfl) k8⟩⟩
      · rename_i T l q
        split at h
        · rename_i hT; subst hT
          split at h
          · rename_i e' n hq
            split at h
            · rename_i hee; subst hee
              obtain ⟨rfl, rfl, rfl⟩ := ER.inj h
              obtain ⟨c1, c3⟩ := hc
              have c2 := hbig _ c3
              obtain ⟨rr, hrr, hrn, F0, hF0, hcur⟩ : ∃ rr, g.rw[q]? = some rr ∧ rr.n = n ∧ ∃ F0, (∀ k (h : k < l.length), RC g.base j.ty l[k] (F0 k)) ∧ (rr.n = l.length → rr.v = u ∧ rr.cx = (List.range l.length).flatMap F0) := by
                have hx := hu.sl_inv
                cases hx with
                | sl _ _ F0 _ hF0 ht =>
                  obtain ⟨rr, h1, h2, h3⟩ := ht q rfl
                  have hwr : (g.rw.map fun r => (r.tid, r.n))[q]? = some (e', n) := by rw [H.wr]; exact hq
                  rw [List.getElem?_map, h1] at hwr
                  simp only [Option.map_some, Option.some.injEq, Prod.mk.injEq] at hwr
                  exact ⟨rr, h1, hwr.2, F0, hF0, h3⟩
              obtain ⟨hvu, hcx⟩ := hcur (hrn.trans c1)
              obtain ⟨g', w', r', k1, k2, k3, k4, k5, k6, k7, k8⟩ := app_core hτ H hd hjok hrr hq ty (m := l'.length) hyl hy1 (A := A) c hsr hpos (by rw [c1]; omega) (by rw [c1]; exact c2)
              rw [c1] at k2
              rw [hvu] at k3
              refine ⟨g', w', ⟨k1.1, fun _ => k1.2⟩, k2, rfl, .inl ⟨_, by simp [k3], row_sl (F := fun k => if k < l.length then F0 k else F (k - l.length)) k4 k7 (by rw [k5, c1, List.length_append]) (fun k hk => ?_) (by rw [k6, hcx, flat_append, List.length_append]) k8⟩⟩
              by_cases hkl : k < l.length
              · rw [if_pos hkl, List.getElem_append_left hkl]; exact (hF0 k hkl).mono k1.1.base
              rw [if_neg hkl, List.getElem_append_right (by omega)]
              exact (hF (k - l.length) (by rw [List.length_append] at hk; omega)).mono k1.1.base
            cases h
          cases h
        cases h
      cases h
    cases h
  cases h
end
def cpyE (τ : Tab) (st : St) (t : Nat) (x y : AV) : ER :=
  match Tab.get t τ with
  | none => none
  | some i =>
    match i.d, x, srcB y with
    | .slc e, .win b path o n, some l => (match st.bx[b]? with
      | some (T, a) => (match T.loc path, a.loc path with
        | some (_, .ba _), some (.ba cur) => if isByte τ e = true ∧ notIn b st.fz = true then
            some ({ st with bx := st.bx.set b (T, a.put path (.ba (cur.take o ++ l.take n ++ cur.drop (o + (l.take n).length)))) }, .v (.int .i64 ((l.take n).length : Int)), True) else none
        | _, _ => none)
      | none => none)
    | _, _, _ => none
def mkE (τ : Tab) (st : St) (c : Gd) (t : Nat) (l k : Operand) : ER :=
  match Tab.get t τ with
  | none => none
  | some i =>
    match i.d with
    | .slc e => (match Tab.get e τ with
      | none => none
      | some j => (match l, k, st.ev c k with
        | .const (.int _ 0), _, .v (.int _ m) => if 0 < j.ty.size then
            some ({ st with rw := st.rw ++ [(e, 0)] }, if isByte τ e then .bs [] (some st.rw.length) else .sl j.ty [] (some st.rw.length), 0 ≤ m ∧ j.bytes * m ≤ 281474976710656 ∧ m ≤ 9223372036854775807) else none
        | .tmp p, .tmp q, .v (.int _ m) => if p = q ∧ isByte τ e = true then
            some ({ st with bx := st.bx ++ [(.ba m.toNat, .ba (List.replicate m.toNat 0))] }, .win st.bx.length [] 0 m.toNat, 0 ≤ m ∧ j.bytes * m ≤ 281474976710656 ∧ m ≤ 281474976710656) else none
        | _, _, _ => none))
    | _ => none
section
variable {P : Program} {τ : Tab} {w0 w : World} {N : Gh} {g : Gh} {st st' : St} {r : AV} {cd : Prop}
theorem splice {α : Type} {pre mid post xs : List α} {o : Nat} (h : o + xs.length ≤ mid.length) :
    (pre ++ mid ++ post).take (pre.length + o) ++ xs ++ (pre ++ mid ++ post).drop (pre.length + o + xs.length) = pre ++ (mid.take o ++ xs ++ mid.drop (o + xs.length)) ++ post := by
  rw [List.append_assoc pre mid post, List.take_append, List.drop_append, List.take_of_length_le (by omega), List.drop_of_length_le (by omega), Nat.add_sub_cancel_left, show pre.length + o + xs.length - pre.length = o + xs.length by omega,
    List.take_append_of_le_length (by omega), List.drop_append_of_le_length (by omega)]
  simp
theorem Inv.re {bx : List (Ty × AV)} {fz : List Nat} {rw_ : List (TypeId × Nat)} (h : Inv P w0 N g bx fz rw_ w) {i : Nat} {x : Bx} (hx : g.bx[i]? = some x) {a : AV} (hr : BC g x.ty a x) : Inv P w0 N g (bx.set i (x.ty, a)) fz rw_ w := by
  refine ⟨h.mem, h.fr, ⟨by rw [List.length_set]; exact h.br.len, fun j T b hj => ?_⟩, h.fz, h.wr, h.wz⟩
  rcases getElem?_set_cases hj with ⟨rfl, e, _⟩ | ⟨_, h1⟩
  · injection e with e1 e2; subst e1 e2; exact ⟨x, hx, rfl, hr⟩
  exact h.br.at_ j T b h1
theorem repl_one {α : Type} (x : α) : ∀ m : Nat, (List.replicate m [x]).flatten = List.replicate m x
  | 0 => rfl
  | m + 1 => by rw [List.replicate_succ, List.replicate_succ, List.flatten_cons, repl_one x m]; rfl
theorem isByte_all (hτ : τ.ok P) {e : Nat} (h : isByte τ e = true) : ∃ j : TI, j.ok P e ∧ j.ty = .sc ∧ j.zero = .v (.int .u8 0) := by
  unfold isByte at h
  split at h
  · rename_i j hj
    split at h
    · rename_i hd
      have hok := Tab.get_ok hτ hj
      exact ⟨j, hok, by simpa using h, hok.iz _ hd⟩
    cases h
  cases h
theorem cpyE_sound (hτ : τ.ok P) (H : Inv P w0 N g st.bx st.fz st.rw w) {t : Nat} {x y : AV} (h : cpyE τ st t x y = some (st', r, cd)) {u v : Value} (hu : RV g x u) (hv : RV g y v) (t' ty : TypeId) :
    EOk true P w0 N g st st' r w (do pure (.value (← Builtin.copy_ #[t, t'] ty #[u, v]))) := by
  unfold cpyE at h
  split at h
  · cases h
  rename_i i hi
  have hd := (Tab.get_ok hτ hi).d
  split at h
  · rename_i e b path o n l hid hsrc
    rw [hid] at hd
    split at h
    · rename_i T a hb
      split at h
      · rename_i o2 m cur hl ha
        split at h
        · rename_i hcond
          obtain ⟨hby, hnf⟩ := hcond
          obtain ⟨rfl, rfl, rfl⟩ := ER.inj h
          obtain ⟨j, hj, hjT, _⟩ := isByte_all hτ hby
          have hs : (P.info? e).map (·.size) = some 1 := by
            obtain ⟨inf, z, e1, e2, _⟩ := hj.info
            rw [hjT] at e2; simp [e1, e2, Ty.size]
          obtain ⟨_, y0, o3, m3, c, A, e1, hy, ho3, hoc, hnc, hm, hA⟩ := hu.win_inv.win_inv
          injection e1 with e1; subst e1
          obtain ⟨y', hy', hty, hrc⟩ := H.br.get hb
          obtain ⟨hyo, hym, hrc⟩ := hrc.rc (Ty.loc_grows hl)
          rw [hy] at hy'; injection hy' with hy'; subst hy'
          rw [hty, hl] at ho3
          simp only [Option.some.injEq, Prod.mk.injEq, Ty.ba.injEq] at ho3
          obtain ⟨rfl, rfl⟩ := ho3
          obtain ⟨a', ha', pre, mid, post, hcs, hpre, hmid, hput⟩ := hrc.lens hl
          rw [ha] at ha'; injection ha' with ha'; subst ha'
          obtain ⟨hm2, rfl⟩ := hmid.ba_inv
          injection hm2 with hm2
          obtain ⟨A', c', rfl, hcell⟩ := srcB_ok hsrc hv
          have hmin : (l.take n).length = Nat.min l.length n := by rw [List.length_take, Nat.min_comm]
          by_cases hz : (l.take n).length = 0
          · have hnil : l.take n = [] := List.length_eq_zero_iff.1 hz
            refine ⟨g, w, ⟨Gh.le.refl g, fun h => (by cases h)⟩, ?_, rfl, .inl ⟨.int .i64 0, ?_, ?_⟩⟩
            · rw [hnil]
              simp only [List.append_nil, List.length_nil, Nat.add_zero, List.take_append_drop]
              have h5 := hput (.ba cur) _ hmid
              rw [← hcs, ← hty] at h5
              have := H.re hy (.pl h5 hyo hym)
              rw [hty] at this; exact this
            · have := run_copy_none (P := P) w t t' ty e A A' n c l.length c' hd hs (by rw [← hmin]; exact hz)
              simp [this, goInt]
            rw [hz]; exact RV.v_of rfl
          have hn0 : 0 < n := by have h6 : Nat.min l.length n ≤ n := Nat.min_le_right _ _; omega
          have hA' : A = some ⟨y0.blk, o2 + o, none⟩ := by rcases hA with h | h; (omega); exact h
          subst hA'
          have hlen2 : (l.take n).length ≤ n := by rw [List.length_take]; omega
          rcases hcell with hcell | ⟨bb, oo, rfl, hcell⟩
          · have : l = [] := by simpa using hcell
            subst this; simp at hz
          have hset := hput (.ba (cur.take o ++ l.take n ++ cur.drop (o + (l.take n).length))) _ (.ba (by simp only [List.length_append, List.length_take, List.length_drop]; omega))
          rw [← hty] at hset
          obtain ⟨g', hle, HI⟩ := H.set hy hyo hym (notIn_ok hnf) hset
          rw [hty] at HI
          refine ⟨g', _, ⟨hle, fun h => (by cases h)⟩, HI, rfl, .inl ⟨_, ?_, RV.v_of rfl⟩⟩
          have hrun := run_copy_row (P := P) w t t' ty e y0.blk (o2 + o) n c ⟨bb, oo, none⟩ l.length c' y0.cells.toArray y0.tid ((l.take n).map B8) hd hs ((H.mem.bx _ _ hy hyo).c hym) (by rw [List.length_map]; exact hmin)
            (fun j u hu => by
              rw [addr_add]
              refine H.mem.ro _ _ _ (hcell j u ?_)
              rw [List.getElem?_map] at hu ⊢
              obtain ⟨x1, hx1, rfl⟩ := Option.map_eq_some_iff.1 hu
              rw [List.getElem?_take] at hx1
              split at hx1
              · rw [hx1]; rfl
              cases hx1)
            (by simp only [List.length_map, List.size_toArray]; rw [hcs]; simp only [List.length_append, List.length_map]; omega)
            (fun u hu => by obtain ⟨x1, _, rfl⟩ := List.mem_map.1 hu; rfl)
          simp only [List.length_map] at hrun
          simp only [Sem.run_bind, hrun, Result.andThen_ok, Sem.run_pure, goInt]
          have hcells : y0.cells.toArray.toList.take (o2 + o) ++ (l.take n).map B8 ++ y0.cells.toArray.toList.drop (o2 + o + (l.take n).length) = pre ++ (cur.take o ++ l.take n ++ cur.drop (o + (l.take n).length)).map B8 ++ post := by
            have := splice (pre := pre) (post := post) (mid := cur.map B8) (xs := (l.take n).map B8) (o := o) (by simp only [List.length_map]; omega)
            rw [← hcs, hpre] at this
            simp only [List.length_map] at this
            show y0.cells.take _ ++ _ ++ y0.cells.drop _ = _
            rw [this]; simp
          rw [hcells]
        cases h
      cases h
    cases h
  cases h
theorem mkE_sound (hτ : τ.ok P) (H : Inv P w0 N g st.bx st.fz st.rw w) {nt : Nat} {a : Act} (hF : FR g nt st a) {c : Gd} (hg : gholds a c) {t : Nat} {l k : Operand} (h : mkE τ st c t l k = some (st', r, cd)) (hc : cd) :
    EOk false P w0 N g st st' r w (do pure (.value (← Instr.makeSlice t (a.eval l) (a.eval k)))) := by
  have E := fun x => ev_sound hF hg x
  unfold mkE at h
  split at h
  · cases h
  rename_i i hi
  have hd := (Tab.get_ok hτ hi).d
  split at h
  · rename_i e hid
    rw [hid] at hd
    split at h
    · cases h
    rename_i j hj0
    have hj := Tab.get_ok hτ hj0
    obtain ⟨inf, z, e1, e2, e3, e4, e5⟩ := hj.info
    split at h
    · rename_i k0 l0 k1 x0 kl kc m hk
      split at h
      · rename_i hpos
        obtain ⟨rfl, rfl, rfl⟩ := ER.inj h
        obtain ⟨c1, c2, c3⟩ := hc
        have hkv := E k0; rw [hk] at hkv; have hkv := hkv.v_inv
        obtain ⟨m, rfl⟩ := Int.eq_ofNat_of_zero_le c1
        have hzz : zeroOf P e = z.cells.toList := by simp [zeroOf, e1, e4]
        have hzs : z.cells.size = j.ty.size := by rw [← Array.length_toList]; exact (e5 ⟨fun _ _ => none, [], []⟩).size
        have hrun := run_make (P := P) w t e inf z hd e1 e4 kl kc 0 (m : Int) (by omega) (by omega) (by rw [e3]; exact c2) c3
        obtain ⟨z1, z2⟩ := zeroOf_len hj
        let r0 : Rw := ⟨e, j.ty.size, zeroOf P e, .slice (some ⟨w.heap.size, 0, none⟩) 0 m, 0, [], m⟩
        have hno : (r0.cx ++ noughts r0) = (madeCells z.cells (m * inf.size)).toList := by
          have := initCells z.cells m j.ty.size hzs
          rw [e2]; unfold madeCells; rw [this]; show [] ++ (List.replicate m (zeroOf P e)).flatten = _; rw [hzz]; rfl
        have hR : Row (w.alloc (.cells (r0.cx ++ noughts r0).toArray r0.tid)) r0 := by
          refine ⟨hpos, z1, fun u hu => z2 u (by simpa [r0] using hu), by simp [r0], .inr ⟨w.heap.size, by simp [r0], Blk.new _ _ _, by simp only [r0, maxLen]; omega⟩⟩
        obtain ⟨g1, l1, I1, h1, h2⟩ := H.row hR (by simp [r0]) ⟨hj.cells.symm, rfl⟩
        rw [hno] at I1
        refine ⟨g1, _, ⟨l1.1, fun _ => l1.2⟩, I1, rfl, .inl ⟨.slice (some ⟨w.heap.size, 0, none⟩) 0 m, ?_, ?_⟩⟩
        · rw [hkv]
          have h8 : a.eval (Operand.const (Value.int kl 0)) = .int kl 0 := rfl
          rw [h8]
          simp only [Sem.run_bind, hrun, Result.andThen_ok, Sem.run_pure, Int.toNat_zero, Int.toNat_natCast]
          rfl
        split
        · exact (RC.bs (g := g1) (l := []) (A := some ⟨w.heap.size, 0, none⟩) (c := m) (by simp) (by simp only [maxLen]; omega) (.inl rfl) fun i hi => by injection hi with hi; subst hi; exact ⟨_, h1, by simp [r0], fun _ => ⟨rfl, rfl⟩⟩).rv1
        exact (RC.sl (g := g1) (T := j.ty) (es := []) (A := some ⟨w.heap.size, 0, none⟩) (c := m) (by simp) (by simp only [maxLen]; omega) (fun _ => []) (.inl rfl) (fun k hk => absurd hk (by simp)) fun i hi => by injection hi with hi; subst hi; exact ⟨_, h1, by simp [r0], fun _ => ⟨rfl, rfl⟩⟩).rv1
      cases h
    · rename_i p q kc m hk
      split at h
      · rename_i hcond
        obtain ⟨rfl, hby⟩ := hcond
        obtain ⟨rfl, rfl, rfl⟩ := ER.inj h
        obtain ⟨c1, c2, c3⟩ := hc
        have hkv := E (.tmp p); rw [hk] at hkv; have hkv := hkv.v_inv
        obtain ⟨m, rfl⟩ := Int.eq_ofNat_of_zero_le c1
        obtain ⟨j1, hj1, hjT, hjz⟩ := isByte_all hτ hby
        obtain ⟨inf1, z1, f1, f2, f3, f4, f5⟩ := hj1.info
        rw [e1] at f1; injection f1 with f1; subst f1
        rw [e4] at f4; injection f4 with f4; subst f4
        have hzc : z.cells.toList = [B8 0] := by
          have := f5 ⟨fun _ _ => none, [], []⟩
          rw [hjT, hjz] at this
          generalize z.cells.toList = zl at this
          cases this; rfl
        have hrun := run_make (P := P) w t e inf z hd e1 e4 kc kc (m : Int) (m : Int) (by omega) (by omega) (by rw [e3]; exact c2) (by omega)
        have hcs : (madeCells z.cells (m * inf.size)).toList = (List.replicate m (0 : UInt8)).map B8 := by
          have := initCells z.cells m inf.size (by rw [← Array.length_toList, hzc, f2, hjT]; rfl)
          unfold madeCells; rw [this, hzc, List.map_replicate]
          exact repl_one _ _
        obtain ⟨g', hle, HI, hp⟩ := H.box (T := .ba m) (a := .ba (List.replicate m 0)) (cs := (List.replicate m (0 : UInt8)).map B8) (.ba (by simp)) e
        obtain ⟨_, x, o, T, hx, ho, e9⟩ := hp.ptr_inv.ptr_inv
        obtain ⟨x', hx', hty, _⟩ := HI.br.get (i := st.bx.length) (T := .ba m) (a := .ba (List.replicate m 0)) (by simp)
        rw [hx] at hx'; injection hx' with hx'; subst hx'
        rw [hty] at ho
        simp only [Ty.loc, Option.some.injEq, Prod.mk.injEq] at ho
        obtain ⟨rfl, rfl⟩ := ho
        refine ⟨g', _, ⟨hle.1, fun _ => hle.2⟩, HI, rfl, .inl ⟨.slice (some ⟨w.heap.size, 0, none⟩) m m, ?_, ?_⟩⟩
        · rw [hkv]
          simp only [Sem.run_bind, hrun, Result.andThen_ok, Sem.run_pure, Int.toNat_natCast]
          rw [← hcs]
        injection e9 with e9; injection e9 with e9; injection e9 with e9
        exact (RC.win (g := g') (o1 := 0) (n1 := m) (c := m) hx (by rw [hty]; rfl) (by omega) (Nat.le_refl _) (by simp only [maxLen]; omega) (.inr (by rw [← e9]))).rv1
      cases h
    cases h
  cases h
end
def storeV (τ : Tab) (st : St) (t : Nat) (x y : AV) : ER :=
  match Tab.get t τ, x with
  | some i, .pv b γ k path =>
    (match st.bx[b]? with
    | some (.vc e T, .vc γ' es) => (match T.loc path with
      | some (_, T2) => if (T2 = i.ty ∧ notIn b st.fz = true) ∧ pure_ 3 y = true then
          some ({ st with bx := st.bx.set b (.vc e T, .vc γ' (es.set k ((es.getD k .any).put path (strip 3 y)))) }, .any, (γ' = γ ∧ k < es.length) ∧ fit i.ty y) else none
      | none => none)
    | some (.vc e .sc, .vb γ' l) => (match path, y with
      | [], .v (.int .u8 n) => if i.ty = .sc ∧ notIn b st.fz = true then
          some ({ st with bx := st.bx.set b (.vc e .sc, .vb γ' (l.set k (UInt8.ofNat n.toNat))) }, .any, (γ' = γ ∧ k < l.length) ∧ 0 ≤ n ∧ n ≤ 255) else none
      | _, _ => none)
    | _ => none)
  | _, _ => none
def appV (τ : Tab) (st : St) (t : Nat) (x y : AV) : ER :=
  match Tab.get t τ, x with
  | some i, .vw b γ n =>
    (match i.d, st.bx[b]? with
    | .slc e, some (.vc e' T, .vc γ' es) =>
      (match Tab.get e τ, srcE T y with
      | some j, some l' => if (e' = e ∧ j.ty = T ∧ notIn b st.fz = true) ∧ 0 < j.ty.size ∧ j.bytes ≤ 4096 then
          some ({ st with bx := st.bx.set b (.vc e T, .vc (γ' + 1) (es.take n ++ l')) }, .vw b (γ' + 1) (n + l'.length), (γ' = γ ∧ n ≤ es.length) ∧ n + l'.length ≤ 34359738368) else none
      | _, _ => none)
    | .slc e, some (.vc e' .sc, .vb γ' l) =>
      (match Tab.get e τ, srcB y with
      | some j, some l' => if (e' = e ∧ isByte τ e = true ∧ notIn b st.fz = true) ∧ j.bytes ≤ 4096 then
          some ({ st with bx := st.bx.set b (.vc e .sc, .vb (γ' + 1) (l.take n ++ l')) }, .vw b (γ' + 1) (n + l'.length), (γ' = γ ∧ n ≤ l.length) ∧ n + l'.length ≤ 34359738368) else none
      | _, _ => none)
    | _, _ => none)
  | _, _ => none
def mkV_ (τ : Tab) (st : St) (c : Gd) (t : Nat) (l k : Operand) : ER :=
  match Tab.get t τ with
  | some i =>
    (match i.d with
    | .slc e => (match Tab.get e τ, st.ev c l, st.ev c k with
      | some j, .v (.int _ m), .v (.int _ m2) => if 0 < j.ty.size ∧ isByte τ e = false then
          some ({ st with bx := st.bx ++ [(.vc e j.ty, .vc 0 (List.replicate m.toNat j.zero))] }, .vw st.bx.length 0 m.toNat, (0 ≤ m ∧ m ≤ m2) ∧ j.bytes * m2 ≤ 281474976710656 ∧ m2 ≤ 9223372036854775807) else none
      | _, _, _ => none)
    | _ => none)
  | none => none
def orE (a b : ER) : ER := match a with | some r => some r | none => b
theorem orE_some {a b : ER} {x : St × AV × Prop} (h : orE a b = some x) : a = some x ∨ b = some x := by
  unfold orE at h
  split at h
  · exact .inl h
  exact .inr h
def eopV (τ : Tab) (st : St) (c : Gd) (o : Op) : ER :=
  match o with
  | .store t x y => storeV τ st t (st.ev c x) (st.ev c y)
  | .call k => (match k.callee, k.args.toList, k.argTypes.toList with
    | .builtin .append, [x, y], [t, t'] => if t = t' then appV τ st t (st.ev c x) (st.ev c y) else none
    | _, _, _ => none)
  | _ => none
section
variable {P : Program} {τ : Tab} {w0 w : World} {N : Gh} {g : Gh} {st st' : St} {r : AV} {cd : Prop}
theorem flat_upd {F : Nat → List Value} {x : List Value} {n k : Nat} (hk : k < n) : ∃ pre post, (List.range n).flatMap F = pre ++ F k ++ post ∧ (List.range n).flatMap (fun j => if j = k then x else F j) = pre ++ x ++ post ∧ pre = (List.range k).flatMap F := by
  obtain ⟨m, rfl⟩ : ∃ m, n = k + (1 + m) := ⟨n - k - 1, by omega⟩
  refine ⟨(List.range k).flatMap F, (List.range m).flatMap fun j => F (k + 1 + j), ?_, ?_, rfl⟩
  · rw [List.range_add, List.flatMap_append, List.range_add, List.map_append, List.flatMap_append, List.append_assoc]
    congr 1
    simp [List.flatMap_map, Nat.add_assoc]
  rw [List.range_add, List.flatMap_append, List.range_add, List.map_append, List.flatMap_append, List.append_assoc]
  congr 1
  · rw [List.flatMap_def, List.flatMap_def]; congr 1
    exact List.map_congr_left fun j hj => by have := List.mem_range.1 hj; rw [if_neg (by omega)]
  simp [List.flatMap_map, Nat.add_assoc]
theorem storeV_sound (hτ : τ.ok P) (H : Inv P w0 N g st.bx st.fz st.rw w) {t : Nat} {x y : AV} (h : storeV τ st t x y = some (st', r, cd)) (hc : cd) {u v : Value} (hu : RV g x u) (hv : RV g y v) :
    EOk true P w0 N g st st' r w (do Instr.storeAt t u v; pure .skip) := by
  have fin : ∀ {b : Nat} {yb : Bx} {a : AV} {news : List Value} {T : Ty}, g.bx[b]? = some yb → yb.ty = T → yb.off = false → yb.mp = none → b ∉ st.fz → news.length = yb.cells.length → BC g T a { yb with cells := news } →
      ∃ g', g.le g' ∧ Inv P w0 N g' (st.bx.set b (T, a)) st.fz st.rw (w.setRow yb.blk news.toArray) := by
    intro b yb a news T hy hT ho hm hf hl hbc
    subst hT
    have hxf : yb.fz = false := by cases e : yb.fz with | false => rfl | true => exact absurd (H.fz b yb hy e) hf
    have hb := (H.mem.bx b yb hy ho).c hm
    obtain ⟨g', h1, h2, _⟩ := H.upd (x' := { yb with cells := news }) (a := a) hy hf (w' := w.setRow yb.blk news.toArray) (by unfold Bx.own; rw [ho]; exact grown_row w _ _) rfl hxf (Nat.le_refl _) (fun _ => ⟨rfl, rfl, rfl⟩)
      (fun _ => ⟨.of hm (hb.row news.toArray), .inr ⟨ho, rfl⟩⟩) (fun e => by rw [show ({ yb with cells := news } : Bx).off = yb.off from rfl, ho] at e; cases e) (fun e => by rw [show ({ yb with cells := news } : Bx).mp = yb.mp from rfl, hm] at e; cases e) hbc
    exact ⟨g', h1, h2⟩
  unfold storeV at h
  split at h
  · rename_i i b γ k path hi
    have hok := Tab.get_ok hτ hi
    obtain ⟨_, yb, e9, T1, T2, bb, o, e1, hy, hty, hle, hlo, hxx⟩ := hu.pv_inv.pv_inv
    injection e1 with e1; subst e1
    split at h
    · rename_i e T γ' es hb
      obtain ⟨y', hy', hty', hbc⟩ := H.br.get hb
      rw [hy] at hy'; injection hy' with hy'; subst hy'
      have hty2 := hty'
      rw [hty] at hty'; injection hty' with hty0 hty'; subst hty0 hty'
      split at h
      · rename_i o2 T3 hl2
        rw [hlo] at hl2; injection hl2 with hl2; injection hl2 with e2 e3; subst e2 e3
        split at h
        · rename_i hcond
          obtain ⟨⟨rfl, hnf⟩, hpu⟩ := hcond
          obtain ⟨rfl, rfl, rfl⟩ := ER.inj h
          obtain ⟨⟨rfl, c2⟩, c3⟩ := hc
          obtain ⟨T4, F, sp, ⟨e4, he4, htid⟩, hmp, hgen, h0, hcm, hcs, hcl, hsp, hF⟩ := hbc.vc_inv
          injection he4 with he40 he4; subst he40 he4
          obtain ⟨f1, f2, rfl⟩ := hxx hgen
          obtain ⟨a', ha', pre, mid, post, hFk, hpre, hmid, hput⟩ := (hF k c2).lens hlo
          have hes : es.getD k .any = es[k] := by rw [List.getElem_eq_getD .any]
          obtain ⟨ds, hds, hvd⟩ := hv.fit c3
          have hdb := hds.strip_ hpu
          have hnew := hput _ _ hdb
          obtain ⟨p1, p2, q1, q2, q3⟩ := flat_upd (F := F) (x := pre ++ ds ++ post) c2
          have hp1 : p1.length = k * T1.size := by rw [q3]; exact flat_len k fun j hj => (hF j (by omega)).size
          have hdl : ds.length = mid.length := by rw [hds.size, hmid.size]
          obtain ⟨g', h1, h2⟩ := fin (a := .vc γ' (es.set k (es[k].put path (strip 3 y)))) (news := (List.range es.length).flatMap (fun j => if j = k then pre ++ ds ++ post else F j) ++ sp) hy hty2 f1 hmp (notIn_ok hnf)
            (by rw [hcs, q1, q2, hFk]; simp [hdl]) (.inr (.inl ⟨T1, γ', es.set k (es[k].put path (strip 3 y)), fun j => if j = k then pre ++ ds ++ post else F j, sp, ⟨_, rfl, htid⟩, rfl, hmp, hgen, h0, hcm, by rw [List.length_set], by rw [List.length_append, ← hcl, hcs, List.length_append, q1, q2, hFk]; simp [hdl], hsp, fun j hj => by
              rw [List.length_set] at hj
              rw [List.getElem_set]
              by_cases e : k = j
              · subst e; rw [if_pos rfl]; dsimp only; rw [if_pos rfl]; exact hnew
              rw [if_neg e]; dsimp only; rw [if_neg (fun e' => e e'.symm)]; exact hF j hj⟩))
          refine ⟨g', _, ⟨h1, fun e => (by cases e)⟩, by rw [hes]; exact h2, rfl, .inr ⟨?_, rfl⟩⟩
          have hblk := (H.mem.bx _ _ hy f1).c hmp
          have := run_stV (v := v) hblk (pre := p1 ++ pre) (mid := mid) (post := post ++ p2 ++ sp) (news := ds) (by rw [List.toList_toArray, hcs, q1, hFk]; simp) t hok hds.size hdl hds.one (by rw [hvd]; exact mkV_cells hds) (o := k * T1.size + o) (by rw [List.length_append, hp1, hpre])
          have e7 : (p1 ++ pre ++ ds ++ (post ++ p2 ++ sp)) = (List.range es.length).flatMap (fun j => if j = k then pre ++ ds ++ post else F j) ++ sp := by rw [q2]; simp
          rw [e7] at this
          simp [Instr.storeAt, Instr.sureAddr, this]
        cases h
      cases h
    · rename_i e γ' l hb
      obtain ⟨y', hy', hty', hbc⟩ := H.br.get hb
      rw [hy] at hy'; injection hy' with hy'; subst hy'
      have hty2 := hty'
      rw [hty] at hty'; injection hty' with hty0 hty'; subst hty0 hty'
      split at h
      · rename_i n
        split at h
        · rename_i hcond
          obtain ⟨hTi, hnf⟩ := hcond
          obtain ⟨rfl, rfl, rfl⟩ := ER.inj h
          obtain ⟨⟨rfl, c2⟩, c3, c4⟩ := hc
          obtain ⟨l2, ⟨e4, he4, htid⟩, hmp, hgen, hcm, hcs, hcl⟩ := hbc.vb_inv
          injection he4 with he40 he4; subst he40
          obtain ⟨f1, f2, rfl⟩ := hxx hgen
          simp only [Ty.loc, Option.some.injEq, Prod.mk.injEq] at hlo
          obtain ⟨rfl, rfl⟩ := hlo
          have hvv := hv.v_inv; subst hvv
          have hn : B8 (UInt8.ofNat n.toNat) = .int .u8 n := by
            simp only [B8, Value.int.injEq, true_and]
            rw [UInt8.toNat_ofNat']; omega
          obtain ⟨g', h1, h2⟩ := fin (a := .vb γ' (l.set k (UInt8.ofNat n.toNat))) (news := (l.set k (UInt8.ofNat n.toNat) ++ l2).map B8) hy hty2 f1 hmp (notIn_ok hnf) (by rw [hcs]; simp)
            (.inr (.inr (.inl ⟨γ', l.set k (UInt8.ofNat n.toNat), l2, ⟨_, rfl, htid⟩, rfl, hmp, hgen, hcm, rfl, by rw [← hcl, hcs]; simp⟩)))
          refine ⟨g', _, ⟨h1, fun e => (by cases e)⟩, h2, rfl, .inr ⟨?_, rfl⟩⟩
          have hblk := (H.mem.bx _ _ hy f1).c hmp
          have := run_stV (v := .int .u8 n) hblk (pre := (l.take k).map B8) (mid := [B8 l[k]]) (post := (l.drop (k + 1)).map B8 ++ l2.map B8) (news := [B8 (UInt8.ofNat n.toNat)]) (by
            rw [List.toList_toArray, hcs, List.map_append]
            have : l.map B8 = (l.take k).map B8 ++ ([B8 l[k]] ++ (l.drop (k + 1)).map B8) := by
              rw [show [B8 l[k]] = [l[k]].map B8 from rfl, ← List.map_append, ← List.map_append]
              congr 1
              rw [List.singleton_append, ← List.drop_eq_getElem_cons c2, List.take_append_drop]
            rw [this]; simp only [List.append_assoc]) t hok (by rw [hTi]; rfl) rfl (by intro v hv; simp at hv; subst hv; rfl) (by rw [hn]; rfl) (o := k * Ty.sc.size + 0) (by simp [Ty.size]; omega)
          have e7 : ((l.take k).map B8 ++ [B8 (UInt8.ofNat n.toNat)] ++ ((l.drop (k + 1)).map B8 ++ l2.map B8)) = (l.set k (UInt8.ofNat n.toNat) ++ l2).map B8 := by
            rw [List.set_eq_take_append_cons_drop, if_pos c2]; simp
          rw [e7] at this
          simp only [Instr.storeAt, Instr.sureAddr, Sem.run_bind, Sem.run_pure, Result.andThen_ok, this]
        cases h
      cases h
    cases h
  cases h
theorem app_vec {α : Type} {E : El α} (hE : E.fits P) (H : Inv P w0 N g st.bx st.fz st.rw w) {b : Nat} {y : Bx} (hy : g.bx[b]? = some y) (hym : y.mp = none) (htid : y.tid = E.ty) {t : TypeId} (ht : P.underlying t = some (.slice E.ty)) (ty : TypeId) {xs sp ys : List α}
    (hcells : y.cells = E.all (xs ++ sp)) (hcap : y.cap = xs.length + sp.length) (hcm : y.cap ≤ maxLen) (hoff : y.off = true → y.cap = 0) {A A2 : Option Addr} {c2 : Nat} (hA : y.off = true ∧ A = none ∨ y.off = false ∧ A = some ⟨y.blk, 0, none⟩) (hsrc : Rd E w w.heap.size A2 ys)
    (h63 : xs.length + ys.length ≤ maxLen) (hbytes : (xs.length + ys.length) * E.bytes ≤ 140737488355328) :
    ∃ (A' : Option Addr) (w' : World) (y' : Bx) (sp' : List α), (Builtin.append_ #[t, t] ty #[.slice A xs.length y.cap, .slice A2 ys.length c2]).run P w = .ok (.slice A' (xs.length + ys.length) y'.cap) w' ∧ w.grownBy w' y.own ∧ y'.ty = y.ty ∧ y'.tid = y.tid ∧ y'.fz = false ∧ y'.gen = y.gen + 1 ∧ y'.mp = none ∧
      y'.cells = E.all (xs ++ ys ++ sp') ∧ y'.cap = xs.length + ys.length + sp'.length ∧ y'.cap ≤ maxLen ∧ (y'.off = true → y'.cap = 0 ∧ y'.cells = []) ∧ (y'.off = true ∧ A' = none ∨ y'.off = false ∧ A' = some ⟨y'.blk, 0, none⟩) ∧
      (y'.off = false → y'.On w' ∧ (y'.blk = w.heap.size ∨ y.off = false ∧ y'.blk = y.blk)) := by
  have hown : Own E w 0 (.slice A xs.length y.cap) xs sp := by
    rcases hA with ⟨h1, rfl⟩ | ⟨h1, rfl⟩
    · have := hoff h1
      have h2 : xs = [] := List.length_eq_zero_iff.1 (by omega)
      have h3 : sp = [] := List.length_eq_zero_iff.1 (by omega)
      subst h2 h3
      exact .inl ⟨by rw [this]; rfl, rfl, rfl⟩
    exact .inr ⟨y.blk, Nat.zero_le _, by rw [hcap], by rw [← htid, ← hcells]; exact (H.mem.bx b y hy h1).c hym, by omega⟩
  have hob : (Value.slice A xs.length y.cap).ownBlock = y.own := by
    unfold Bx.own
    rcases hA with ⟨h1, rfl⟩ | ⟨h1, rfl⟩ <;> rw [h1] <;> rfl
  obtain ⟨v', w', sp', h1, h2, h3, h4, _, _⟩ := run_append (P := P) hE t ty ht hown c2 hsrc rfl h63 hbytes (Nat.zero_le _)
  rw [hob] at h3 h4
  rcases h2 with ⟨rfl, e1, rfl⟩ | ⟨k, _, rfl, hb, hm⟩
  · have e2 : xs.length + ys.length = 0 := by rw [← List.length_append, e1]; rfl
    refine ⟨none, w', { y with gen := y.gen + 1, off := true, cap := 0, cells := [], fz := false }, [], by rw [e2]; exact h1, h3, rfl, rfl, rfl, rfl, hym, by rw [e1]; rfl, by rw [e2]; rfl, Nat.zero_le _, fun _ => ⟨rfl, rfl⟩, .inl ⟨rfl, rfl⟩, fun e => by cases e⟩
  rw [List.length_append] at h1 hm
  refine ⟨some ⟨k, 0, none⟩, w', { y with blk := k, gen := y.gen + 1, off := false, cap := xs.length + ys.length + sp'.length, cells := E.all (xs ++ ys ++ sp'), fz := false }, sp', h1, h3, rfl, rfl, rfl, rfl, hym, rfl, rfl, hm, fun e => (by cases e), .inr ⟨rfl, rfl⟩, fun _ => ⟨.of hym (by show Blk w' k y.tid _; rw [htid]; exact hb), ?_⟩⟩
  rcases h4 with h4 | h4
  · right
    unfold Bx.own at h4
    cases ho : y.off
    · rw [ho] at h4; injection h4 with h4; exact ⟨rfl, h4⟩
    rw [ho] at h4; cases h4
  left; injection h4
theorem appV_sound (hτ : τ.ok P) (H : Inv P w0 N g st.bx st.fz st.rw w) {t : Nat} {x y : AV} (h : appV τ st t x y = some (st', r, cd)) (hc : cd) {u v : Value} (hu : RV g x u) (hv : RV g y v) (ty : TypeId) :
    EOk true P w0 N g st st' r w (do pure (.value (← Builtin.append_ #[t, t] ty #[u, v]))) := by
  unfold appV at h
  split at h
  · rename_i i b γ n hi
    have hd := (Tab.get_ok hτ hi).d
    obtain ⟨_, yb, e9, T9, A, cc, e1, hy, hty, hle, hnc, hm, hxx⟩ := hu.vw_inv.vw_inv
    injection e1 with e1; subst e1
    split at h
    · rename_i e e' T γ' es hid hb
      rw [hid] at hd
      obtain ⟨y', hy', hty', hbc⟩ := H.br.get hb
      rw [hy] at hy'; injection hy' with hy'; subst hy'
      split at h
      · rename_i j l' hj hsrc
        have hjok := Tab.get_ok hτ hj
        split at h
        · rename_i hcond
          obtain ⟨⟨rfl, rfl, hnf⟩, hpos, hby⟩ := hcond
          obtain ⟨rfl, rfl, rfl⟩ := ER.inj h
          obtain ⟨⟨rfl, c2⟩, c3⟩ := hc
          obtain ⟨T4, F, sp, ⟨e4, he4, htid⟩, hmp, hgen, h0, hcm, hcs, hcl, hsp, hF⟩ := hbc.vc_inv
          injection he4 with he40 he4; subst he40 he4
          obtain ⟨rfl, hA⟩ := hxx hgen
          obtain ⟨A2, c9, F1, rfl, hF1, hsr⟩ := srcE_ok hsrc hv
          obtain ⟨inf, z, i1, i2, i3, i4, i5⟩ := hjok.info
          obtain ⟨E, hE, hEt, hEs, hEb, hEz, hch⟩ := (nilRow hjok hpos w).fits ⟨hjok.cells.symm, rfl⟩ i1 i4
          have hone : ∀ u ∈ yb.cells, u.oneCell' = true := by
            rw [hcs]; intro u hu
            rcases List.mem_append.1 hu with hu | hu
            · obtain ⟨k, hk, hu⟩ := List.mem_flatMap.1 hu
              exact (hF k (List.mem_range.1 hk)).one u hu
            exact hsp u hu
          obtain ⟨zs, hzl, hzc⟩ := hch yb.cap yb.cells hcl hone
          have hy1 : ∀ u ∈ (List.range l'.length).flatMap F1, u.oneCell' = true := by
            intro u hu
            obtain ⟨k, hk, hu⟩ := List.mem_flatMap.1 hu
            exact (hF1 k (List.mem_range.1 hk)).one u hu
          obtain ⟨ys, hyl, hyc⟩ := hch l'.length ((List.range l'.length).flatMap F1) (flat_len _ fun k hk => (hF1 k hk).size) hy1
          have hrd : Rd E w w.heap.size A2 ys := by
            rcases hsr with h | ⟨bb, o, hA2, hcell⟩
            · left
              rw [h] at hyc
              cases ys with
              | nil => rfl
              | cons q ys => exfalso; have := congrArg List.length hyc; rw [El.all_cons, List.length_append, E.len] at this; simp at this; have := E.pos; omega
            rcases Nat.eq_zero_or_pos l'.length with h0' | h0'
            · exact .inl (List.length_eq_zero_iff.1 (by omega))
            right
            have hlen : 0 < ((List.range l'.length).flatMap F1).length := by rw [flat_len _ fun k hk => (hF1 k hk).size]; exact Nat.mul_pos h0' hpos
            refine ⟨bb, o, hA2, H.mem.lt (hcell 0 _ (List.getElem?_eq_getElem hlen)), fun jj u hu => ?_⟩
            rw [hyc] at hu
            exact H.mem.ro _ _ _ (hcell jj u hu)
          have htl : (zs.take n).length = n := by rw [List.length_take]; omega
          obtain ⟨A', w', y', sp', k1, k2, k3, k4, k5, k6, k7, k8, k9, k10, k11, k12, k13⟩ := app_vec hE H hy hmp (htid.trans hEt.symm) (by rw [hEt]; exact hd) ty (xs := zs.take n) (sp := zs.drop n) (ys := ys) (by rw [List.take_append_drop, hzc]) (by rw [List.length_take, List.length_drop]; omega) hcm.1 hcm.2 hA hrd
            (by rw [htl, hyl]; simp only [maxLen]; omega) (by rw [htl, hyl, hEb, i3]; exact Nat.le_trans (Nat.mul_le_mul c3 hby) (by decide)) (c2 := c9)
          rw [htl, hyl] at k1 k9
          have htk : E.all (zs.take n) = (List.range n).flatMap F := by
            rw [← El.all_take, hzc, hEs, hcs]
            have e5 : n * j.ty.size = ((List.range n).flatMap F).length := (flat_len n fun k hk => (hF k (by omega)).size).symm
            obtain ⟨m, hm9⟩ : ∃ m, es.length = n + m := ⟨es.length - n, by omega⟩
            rw [hm9, List.range_add, List.flatMap_append, List.append_assoc, e5, List.take_left]
          have hes : (es.take n ++ l').length = n + l'.length := by rw [List.length_append, List.length_take]; omega
          have hbc' : BC g (.vc e' j.ty) (.vc (γ' + 1) (es.take n ++ l')) y' := by
            refine .inr (.inl ⟨j.ty, γ' + 1, es.take n ++ l', fun k => if k < n then F k else F1 (k - n), E.all sp', ⟨_, rfl, k4.trans htid⟩, rfl, k7, by rw [k6, hgen], h0, ⟨k10, fun e => (k11 e).1⟩, ?_, ?_, fun u hu => E.all_one _ u hu, fun k hk => ?_⟩)
            · rw [k8, El.all_append, El.all_append, htk, hyc, hes, flat_append]
            · rw [k8, El.all_length, hEs, k9]; congr 1; rw [List.length_append, List.length_append, htl, hyl]
            rw [hes] at hk
            by_cases hkn : k < n
            · dsimp only; rw [if_pos hkn, List.getElem_append_left (by rw [List.length_take]; omega), List.getElem_take]; exact hF k (by omega)
            dsimp only; rw [if_neg hkn, List.getElem_append_right (by rw [List.length_take]; omega)]
            have e8 : k - (es.take n).length = k - n := by rw [List.length_take]; congr 1; omega
            have := hF1 (k - n) (by omega)
            simpa only [e8] using this
          obtain ⟨g', m1, m2, m3⟩ := H.upd (x' := y') (a := .vc (γ' + 1) (es.take n ++ l')) hy (notIn_ok hnf) k2 k3 k5 (by omega) (fun hh => by rcases hh with hh | hh; omega; rw [hty'] at hh; cases hh) (fun ho => k13 ho) (fun ho => (k11 ho).2) (fun e => by rw [k7] at e; cases e) (hty' ▸ hbc')
          rw [hty'] at m2
          refine ⟨g', w', ⟨m1, fun e => (by cases e)⟩, m2, rfl, .inl ⟨.slice A' (n + l'.length) y'.cap, by simp only [Sem.run_bind, k1, Result.andThen_ok, Sem.run_pure], ?_⟩⟩
          exact (RC.vw m3 (k3.trans hty') (Nat.le_of_eq (by rw [k6, hgen])) (by omega) k10 fun _ => ⟨rfl, k12⟩).rv1
        cases h
      cases h
    · rename_i e e' γ' l hid hb
      rw [hid] at hd
      obtain ⟨y', hy', hty', hbc⟩ := H.br.get hb
      rw [hy] at hy'; injection hy' with hy'; subst hy'
      split at h
      · rename_i j l' hj hsrc
        have hjok := Tab.get_ok hτ hj
        split at h
        · rename_i hcond
          obtain ⟨⟨rfl, hub, hnf⟩, hby⟩ := hcond
          obtain ⟨rfl, rfl, rfl⟩ := ER.inj h
          obtain ⟨⟨rfl, c2⟩, c3⟩ := hc
          obtain ⟨l2, ⟨e4, he4, htid⟩, hmp, hgen, hcm, hcs, hcl⟩ := hbc.vb_inv
          injection he4 with he40 he4; subst he40
          obtain ⟨rfl, hA⟩ := hxx hgen
          obtain ⟨A2, c9, rfl, hsr⟩ := srcB_ok hsrc hv
          obtain ⟨jj, hjj, hjT, hjz⟩ := isByte_all hτ hub
          obtain ⟨inf, z, i1, i2, i3, i4, i5⟩ := hjj.info
          obtain ⟨inf', z', i1', _, i3', _, _⟩ := hjok.info
          rw [i1] at i1'; injection i1' with i1'; subst i1'
          let E : El UInt8 := { byteE with ty := e', bytes := j.bytes }
          have hall : ∀ q : List UInt8, E.all q = q.map B8 := byteE_all
          have hE : E.fits P := by
            unfold El.fits
            have h7 := i5 ⟨fun _ _ => none, [], []⟩
            rw [hjT, hjz] at h7
            have h8 : z.cells.toList = [.int .u8 0] := by generalize z.cells.toList = zl at h7; cases h7; rfl
            show (P.info? e').map _ = _
            rw [i1]
            simp only [Option.map_some, i4, h8, i2, hjT, i3']
            rfl
          have hrd : Rd E w w.heap.size A2 l' := by
            rcases hsr with h | ⟨bb, o, hA2, hcell⟩
            · exact .inl (List.map_eq_nil_iff.1 h)
            rcases Nat.eq_zero_or_pos l'.length with h0' | h0'
            · exact .inl (List.length_eq_zero_iff.1 (by omega))
            right
            refine ⟨bb, o, hA2, H.mem.lt (hcell 0 (B8 l'[0]) (by simp [h0'])), fun jj u hu => ?_⟩
            rw [hall] at hu
            exact H.mem.ro _ _ _ (hcell jj u hu)
          have hll : (l ++ l2).length = yb.cap := by rw [← hcl, hcs, List.length_map]
          rw [List.length_append] at hll
          have htl : (l.take n).length = n := by rw [List.length_take]; omega
          obtain ⟨A', w', y', sp', k1, k2, k3, k4, k5, k6, k7, k8, k9, k10, k11, k12, k13⟩ := app_vec hE H hy hmp (htid.trans rfl) (show P.underlying t = some (.slice E.ty) from hd) ty (xs := l.take n) (sp := l.drop n ++ l2) (ys := l') (by rw [← List.append_assoc, List.take_append_drop, hall, hcs]) (by rw [List.length_append, List.length_take, List.length_drop]; omega) hcm.1 hcm.2 hA hrd
            (by rw [htl]; simp only [maxLen]; omega) (by rw [htl]; exact Nat.le_trans (Nat.mul_le_mul c3 hby) (by decide)) (c2 := c9)
          rw [htl] at k1 k9
          have hbc' : BC g (.vc e' .sc) (.vb (γ' + 1) (l.take n ++ l')) y' := by
            refine .inr (.inr (.inl ⟨γ' + 1, l.take n ++ l', sp', ⟨_, rfl, k4.trans htid⟩, rfl, k7, by rw [k6, hgen], ⟨k10, fun e => (k11 e).1⟩, ?_, ?_⟩))
            · rw [k8, hall]
            rw [k8, hall, List.length_map, k9, List.length_append, List.length_append, htl]
          obtain ⟨g', m1, m2, m3⟩ := H.upd (x' := y') (a := .vb (γ' + 1) (l.take n ++ l')) hy (notIn_ok hnf) k2 k3 k5 (by omega) (fun hh => by rcases hh with hh | hh; omega; rw [hty'] at hh; cases hh) (fun ho => k13 ho) (fun ho => (k11 ho).2) (fun e => by rw [k7] at e; cases e) (hty' ▸ hbc')
          rw [hty'] at m2
          refine ⟨g', w', ⟨m1, fun e => (by cases e)⟩, m2, rfl, .inl ⟨.slice A' (n + l'.length) y'.cap, by simp only [Sem.run_bind, k1, Result.andThen_ok, Sem.run_pure], ?_⟩⟩
          exact (RC.vw m3 (k3.trans hty') (Nat.le_of_eq (by rw [k6, hgen])) (by omega) k10 fun _ => ⟨rfl, k12⟩).rv1
        cases h
      cases h
    cases h
  cases h
theorem flat_rep (z : List Value) : ∀ m, (List.range m).flatMap (fun _ => z) = (List.replicate m z).flatten
  | 0 => rfl
  | m + 1 => by rw [List.range_succ, List.flatMap_append, flat_rep z m, List.replicate_succ']; simp
theorem mkV_sound (hτ : τ.ok P) (H : Inv P w0 N g st.bx st.fz st.rw w) {nt : Nat} {a : Act} (hF : FR g nt st a) {c : Gd} (hg : gholds a c) {t : Nat} {l k : Operand} (h : mkV_ τ st c t l k = some (st', r, cd)) (hc : cd) :
    EOk false P w0 N g st st' r w (do pure (.value (← Instr.makeSlice t (a.eval l) (a.eval k)))) := by
  have E := fun x => ev_sound hF hg x
  unfold mkV_ at h
  split at h
  · rename_i i hi
    have hd := (Tab.get_ok hτ hi).d
    split at h
    · rename_i e hid
      rw [hid] at hd
      split at h
      · rename_i j k1 m k2 m2 hj0 hl hk
        have hj := Tab.get_ok hτ hj0
        obtain ⟨inf, z, e1, e2, e3, e4, e5⟩ := hj.info
        split at h
        · rename_i hcond
          obtain ⟨rfl, rfl, rfl⟩ := ER.inj h
          obtain ⟨⟨c1, c2⟩, c3, c4⟩ := hc
          have hlv := E l; rw [hl] at hlv; have hlv := hlv.v_inv
          have hkv := E k; rw [hk] at hkv; have hkv := hkv.v_inv
          obtain ⟨m, rfl⟩ := Int.eq_ofNat_of_zero_le c1
          obtain ⟨m2, rfl⟩ := Int.eq_ofNat_of_zero_le (Int.le_trans c1 c2)
          have hzs : z.cells.size = j.ty.size := by rw [← Array.length_toList]; exact (e5 ⟨fun _ _ => none, [], []⟩).size
          have hrun := run_make (P := P) w t e inf z hd e1 e4 k1 k2 (m : Int) (m2 : Int) (by omega) (by omega) (by rw [e3]; exact c3) (by omega)
          have hcs : (madeCells z.cells (m2 * inf.size)).toList = (List.replicate m2 z.cells.toList).flatten := by
            have := initCells z.cells m2 j.ty.size hzs
            rw [e2]; unfold madeCells; rw [this]
          have hz1 : ∀ u ∈ z.cells.toList, u.oneCell' = true := (e5 ⟨fun _ _ => none, [], []⟩).one
          have hlen : (List.replicate m2 z.cells.toList).flatten.length = m2 * j.ty.size := by rw [List.length_flatten]; simp [hzs]
          obtain ⟨g', l1, I1, h1⟩ := H.boxG (x := ⟨w.heap.size, e, .vc e j.ty, (List.replicate m2 z.cells.toList).flatten, false, 0, m2, false, none⟩) (a := .vc 0 (List.replicate m j.zero)) (w' := w.alloc (.cells (List.replicate m2 z.cells.toList).flatten.toArray e)) rfl (grown_alloc w _) (fun _ => ⟨rfl, .of rfl (Blk.new w e _)⟩) (fun e => by cases e) (fun e => by cases e)
            (.inr (.inl ⟨j.ty, 0, List.replicate m j.zero, fun _ => z.cells.toList, (List.replicate (m2 - m) z.cells.toList).flatten, ⟨_, rfl, rfl⟩, rfl, rfl, rfl, hcond.1, ⟨by simp only [maxLen]; omega, fun e => (by cases e)⟩, by
              obtain ⟨q, rfl⟩ : ∃ q, m2 = m + q := ⟨m2 - m, by omega⟩
              rw [List.length_replicate, flat_rep, Nat.add_sub_cancel_left]; show (List.replicate (m + q) _).flatten = _; rw [← List.replicate_append_replicate, List.flatten_append], hlen, fun u hu => by
              obtain ⟨q, hq, hu⟩ := List.mem_flatten.1 hu
              rw [(List.mem_replicate.1 hq).2] at hu; exact hz1 u hu, fun q hq => by simp only [List.getElem_replicate]; exact e5 _⟩))
          refine ⟨g', _, ⟨l1.1, fun _ => l1.2⟩, I1, rfl, .inl ⟨.slice (some ⟨w.heap.size, 0, none⟩) m m2, ?_, ?_⟩⟩
          · rw [hlv, hkv]
            have e9 : (madeCells z.cells (m2 * inf.size)) = (List.replicate m2 z.cells.toList).flatten.toArray := by apply Array.toList_inj.1; rw [hcs]
            rw [← e9]
            simp only [Sem.run_bind, hrun, Result.andThen_ok, Sem.run_pure, Int.toNat_natCast]
          simp only [Int.toNat_natCast]
          exact (RC.vw (c := m2) h1 rfl (Nat.le_refl _) (by omega) (by simp only [maxLen]; omega) fun _ => ⟨rfl, .inr ⟨rfl, rfl⟩⟩).rv1
        cases h
      cases h
    cases h
  cases h
theorem eopV_sound (hτ : τ.ok P) (H : Inv P w0 N g st.bx st.fz st.rw w) {nt : Nat} {a : Act} (hF : FR g nt st a) {c : Gd} (hg : gholds a c) {o : Oper} (h : eopV τ st c o.op = some (st', r, cd)) (hc : cd) : EOk true P w0 N g st st' r w (execOp a.eval o) := by
  have E := fun x => ev_sound hF hg x
  obtain ⟨dst, op, ty, pos, after, gd⟩ := o
  dsimp only at h
  unfold eopV at h
  unfold execOp
  split at h
  · exact storeV_sound hτ H h hc (E _) (E _)
  · rename_i k
    obtain ⟨cal, args, ats⟩ := k
    dsimp only at h
    split at h
    · rename_i x y t t' e2 e3
      split at h
      · rename_i htt; subst htt
        obtain rfl : args = #[x, y] := Array.toList_inj.1 e2
        obtain rfl : ats = #[t, t] := Array.toList_inj.1 e3
        obtain ⟨g', w', k1, k2, k3, k4⟩ := appV_sound hτ H h hc (E x) (E y) ty
        refine ⟨g', w', k1, k2, k3, ?_⟩
        rcases k4 with ⟨z, h1, h2⟩ | ⟨h1, h2⟩
        · exact .inl ⟨z, by simpa [resolve, invoke, builtin] using h1, h2⟩
        exfalso; simp only [Sem.run_bind] at h1
        cases hr : (Builtin.append_ #[t, t] ty #[a.eval x, a.eval y]).run P w <;> rw [hr] at h1 <;> simp [Result.andThen] at h1
      cases h
    cases h
  cases h
end
def eop (τ : Tab) (md : Option Nat) (st : St) (c : Gd) (o : Op) : ER :=
  match o with
  | .box e x => boxE τ st e (st.ev c x)
  | .alloc e => allocE τ st e
  | .store t x y => storeE τ st t (st.ev c x) (st.ev c y)
  | .build t ps => (match buildq τ st c t ps.toList with
    | some (r, cd) => some (st, r, cd)
    | none => none)
  | .buildSlice t n ps => bslE τ st c t n ps.toList
  | .slice t x lo hi none => (match md with
    | some q0 => frzE τ q0 st t (st.ev c x) (lo.map (st.ev c)) (hi.map (st.ev c))
    | none => none)
  | .call k => (match k.callee, k.args.toList, k.argTypes.toList with
    | .builtin .append, [x, y], [t, t'] => if t = t' then appE τ st t (st.ev c x) (st.ev c y) else none
    | .builtin .copy, [x, y], [t, _] => cpyE τ st t (st.ev c x) (st.ev c y)
    | _, _, _ => none)
  | .makeSlice t l k => orE (mkE τ st c t l k) (mkV_ τ st c t l k)
  | _ => none
def dropT (d : Nat) : List (Nat × Gd × AV) → List (Nat × Gd × AV)
  | [] => []
  | (k, none, x) :: l => if k = d then dropT d l else (k, none, x) :: dropT d l
  | (k, some (j, b), x) :: l => if k = d ∨ j = d then dropT d l else (k, some (j, b), x) :: dropT d l
def St.put (st : St) (dst : Option Tmp) (c : Gd) (r : AV) : St :=
  match dst with
  | none => st
  | some d => { st with t := (d, c, r) :: dropT d st.t }
def okDst (nt : Nat) (c : Gd) : Option Tmp → Bool
  | none => true
  | some d => decide (d < nt) && (match c with | none => true | some (j, _) => j != d)
def gdOf (ops : Array Oper) (o : Oper) : Option Gd :=
  match o.guard with
  | none => some none
  | some (j, want) => (match (ops[j]?).bind (·.dst) with
    | some t => some (some (t, want))
    | none => none)
def isNoneG : Gd → Bool
  | none => true
  | _ => false
def qop2 (τ : Tab) (st : St) (c : Gd) (o : Op) : QR :=
  match o with
  | .build t ps => buildq τ st c t ps.toList
  | o => qop τ st c o
def gcond (st : St) (c : Gd) (cd : Prop) : Prop :=
  match c with
  | none => cd
  | some (j, b) => (match find j st.t with
    | some (none, .v (.bool p)) => p = b → cd
    | some (some (j2, b2), .v (.bool p)) => (match find j2 st.t with
      | some (none, .v (.bool p2)) => p2 = b2 → p = b → cd
      | _ => p = b → cd)
    | _ => cd)
theorem gcond_elim {g : Gh} {nt : Nat} {st : St} {a : Act} (hF : FR g nt st a) {c : Gd} {cd : Prop} (h : gcond st c cd) (hg : gholds a c) : cd := by
  unfold gcond at h
  split at h
  · exact h
  rename_i j b
  have h2 : a.tmps.getD j undef = .bool b := hg
  split at h
  · rename_i p hf
    have h1 := (hF.t _ (find_mem hf) trivial).v_inv
    rw [h2] at h1
    injection h1 with h1
    exact h h1.symm
  · rename_i j2 b2 p hf
    have hg2 : a.tmps.getD j2 undef = .bool b2 := Classical.byContradiction fun hn => by
      have := hF.u _ (find_mem hf) hn
      dsimp only at this
      rw [h2] at this
      simp [undef] at this
    have hp : p = b := by
      have h1 := (hF.t _ (find_mem hf) hg2).v_inv
      dsimp only at h1
      rw [h2] at h1
      injection h1 with h1
      exact h1.symm
    split at h
    · rename_i p2 hf2
      have h1 := (hF.t _ (find_mem hf2) trivial).v_inv
      dsimp only at h1
      rw [hg2] at h1
      injection h1 with h1
      exact h h1.symm hp
    exact h hp
  exact h
def vstep (τ : Tab) (md : Option Nat) (nt : Nat) (ops : Array Oper) (o : Oper) (st : St) : Option (St × Prop) :=
  match gdOf ops o with
  | none => none
  | some c =>
    if okDst nt c o.dst then
      match (if isNoneG c then orE (eop τ md st c o.op) (eopV τ st c o.op) else none) with
      | some (st', r, cd) => some (st'.put o.dst c r, cd)
      | none => (match qop2 τ st c o.op with
        | some (r, cd) => some (st.put o.dst c r, gcond st c cd)
        | none => none)
    else none
def vrun (τ : Tab) (md : Option Nat) (nt : Nat) (ops : Array Oper) : List Oper → St → Prop → St × Prop × List Oper
  | [], st, c => (st, c, [])
  | o :: l, st, c =>
    match vstep τ md nt ops o st with
    | some (st', cd) => vrun τ md nt ops l st' (c ∧ cd)
    | none => (st, c, o :: l)
section
variable {P : Program} {τ : Tab} {w0 w : World} {N : Gh} {g : Gh} {st st' : St} {r : AV} {cd : Prop} {nt : Nat} {a : Act}
def isSto : Op → Bool
  | .store _ _ _ => true
  | .call k => (match k.callee with | .builtin .copy => true | _ => false)
  | _ => false
theorem eop_sound (hτ : τ.ok P) {md : Option Nat} (hN : ∀ q, md = some q → N.bx.length ≤ q) (H : Inv P w0 N g st.bx st.fz st.rw w) (hF : FR g nt st a) {c : Gd} (hg : gholds a c) {o : Oper} (h : eop τ md st c o.op = some (st', r, cd)) (hc : cd) :
    EOk (isSto o.op) P w0 N g st st' r w (execOp a.eval o) := by
  have E := fun x => ev_sound hF hg x
  have RO_ : ∀ x : Option Operand, RO g (x.map (st.ev c)) (x.map a.eval) := fun x => by cases x with | none => trivial | some x => exact E x
  obtain ⟨dst, op, ty, pos, after, gd⟩ := o
  dsimp only at h
  unfold eop at h
  unfold execOp
  split at h
  · exact boxE_sound hτ H h hc (E _)
  · exact allocE_sound hτ H h
  · exact storeE_sound hτ H h hc (E _) (E _)
  · split at h
    · rename_i r0 cd0 hb
      obtain ⟨rfl, rfl, rfl⟩ := ER.inj h
      obtain ⟨z, h1, h2⟩ := buildq_sound hτ hF hg hb hc
      exact ⟨g, w, ⟨Gh.le.refl g, fun _ => Bs.refl g⟩, H, rfl, .inl ⟨z, by simp [h2 w], h1⟩⟩
    cases h
  · exact bslE_sound hτ H hF hg h hc
  · split at h
    · exact frzE_sound hτ H (hN _ rfl) h hc (E _) (RO_ _) (RO_ _)
    cases h
  · rename_i k
    obtain ⟨cal, args, ats⟩ := k
    dsimp only at h
    split at h
    · rename_i x y t t' e2 e3
      split at h
      · rename_i htt; subst htt
        obtain rfl : args = #[x, y] := Array.toList_inj.1 e2
        obtain rfl : ats = #[t, t] := Array.toList_inj.1 e3
        obtain ⟨g', w', k1, k2, k3, k4⟩ := appE_sound hτ H h hc (E x) (E y) ty
        refine ⟨g', w', k1, k2, k3, ?_⟩
        rcases k4 with ⟨z, h1, h2⟩ | ⟨h1, h2⟩
        · exact .inl ⟨z, by simpa [resolve, invoke, builtin] using h1, h2⟩
        exfalso; simp only [Sem.run_bind] at h1
        cases hr : (Builtin.append_ #[t, t] ty #[a.eval x, a.eval y]).run P w <;> rw [hr] at h1 <;> simp [Result.andThen] at h1
      cases h
    · rename_i x y t t' e2 e3
      obtain rfl : args = #[x, y] := Array.toList_inj.1 e2
      obtain rfl : ats = #[t, t'] := Array.toList_inj.1 e3
      obtain ⟨g', w', k1, k2, k3, k4⟩ := cpyE_sound hτ H h (E x) (E y) t' ty
      refine ⟨g', w', k1, k2, k3, ?_⟩
      rcases k4 with ⟨z, h1, h2⟩ | ⟨h1, h2⟩
      · exact .inl ⟨z, by simpa [resolve, invoke, builtin] using h1, h2⟩
      exfalso; simp only [Sem.run_bind] at h1
      cases hr : (Builtin.copy_ #[t, t'] ty #[a.eval x, a.eval y]).run P w <;> rw [hr] at h1 <;> simp [Result.andThen] at h1
    cases h
  · rcases orE_some h with h | h
    · exact mkE_sound hτ H hF hg h hc
    exact mkV_sound hτ H hF hg h hc
  cases h
theorem dropT_mem {d : Nat} {p : Nat × Gd × AV} : ∀ {l : List (Nat × Gd × AV)}, p ∈ dropT d l → p ∈ l ∧ p.1 ≠ d ∧ ∀ j b, p.2.1 = some (j, b) → j ≠ d
  | (k, none, x) :: l, h => by
    unfold dropT at h
    split at h
    · obtain ⟨h1, h2⟩ := dropT_mem h; exact ⟨List.mem_cons_of_mem _ h1, h2⟩
    rename_i hk
    rcases List.mem_cons.1 h with h | h
    · subst h; exact ⟨List.mem_cons_self, hk, fun j b e => by cases e⟩
    obtain ⟨h1, h2⟩ := dropT_mem h; exact ⟨List.mem_cons_of_mem _ h1, h2⟩
  | (k, some (i, c), x) :: l, h => by
    unfold dropT at h
    split at h
    · obtain ⟨h1, h2⟩ := dropT_mem h; exact ⟨List.mem_cons_of_mem _ h1, h2⟩
    rename_i hk
    rcases List.mem_cons.1 h with h | h
    · subst h; exact ⟨List.mem_cons_self, fun e => hk (.inl e), fun j b e => by injection e with e; injection e with e1 e2; subst e1; exact fun e => hk (.inr e)⟩
    obtain ⟨h1, h2⟩ := dropT_mem h; exact ⟨List.mem_cons_of_mem _ h1, h2⟩
theorem getD_put {a : Act} {d k : Nat} {v : Value} (h : k ≠ d) : (a.put (some d) v).tmps.getD k undef = a.tmps.getD k undef := by
  simp only [Act.put, Array.getD_eq_getD_getElem?]
  rw [Array.getElem?_setIfInBounds_ne (Ne.symm h)]
theorem getD_put_same {a : Act} {d : Nat} {v : Value} (h : d < a.tmps.size) : (a.put (some d) v).tmps.getD d undef = v := by
  simp [Act.put, h]
theorem FR.put {dst : Option Tmp} {c : Gd} (hF : FR g nt st a) (hd : okDst nt c dst = true) {v : Value} (hv : gholds a c → RV g r v) (ht : st'.t = st.t) (hu : ¬ gholds a c → v = undef) : FR g nt (st'.put dst c r) (a.put dst v) := by
  cases dst with
  | none => exact ⟨hF.sz, hF.df, by rw [show (st'.put none c r).t = st.t from ht]; exact hF.t, by rw [show (st'.put none c r).t = st.t from ht]; exact hF.u⟩
  | some d =>
    simp only [okDst, Bool.and_eq_true, decide_eq_true_eq] at hd
    obtain ⟨hd1, hd2⟩ := hd
    have hds : d < a.tmps.size := by rw [hF.sz]; exact hd1
    have same : ∀ q : Gd, (∀ j b, q = some (j, b) → j ≠ d) → (gholds (a.put (some d) v) q ↔ gholds a q) := fun q hq => by
      cases q with
      | none => exact Iff.rfl
      | some k => obtain ⟨j, b⟩ := k; show (a.put (some d) v).tmps.getD j undef = .bool b ↔ a.tmps.getD j undef = .bool b; rw [getD_put (hq j b rfl)]
    refine ⟨by simp [Act.put, hF.sz], hF.df, fun p hp hgp => ?_, fun p hp hgp => ?_⟩
    rotate_left
    · simp only [St.put, ht] at hp
      rcases List.mem_cons.1 hp with hp | hp
      · subst hp
        rw [getD_put_same hds]
        refine hu fun hc => hgp ((same c fun j b e => ?_).2 hc)
        subst e; simpa using hd2
      obtain ⟨h1, h2, h3⟩ := dropT_mem hp
      rw [getD_put h2]
      exact hF.u p h1 fun hc => hgp ((same p.2.1 h3).2 hc)
    simp only [St.put, ht] at hp
    rcases List.mem_cons.1 hp with hp | hp
    · subst hp
      rw [getD_put_same hds]
      refine hv ?_
      cases c with
      | none => trivial
      | some k =>
        obtain ⟨j, b⟩ := k
        have hj : j ≠ d := by simpa using hd2
        have : (a.put (some d) v).tmps.getD j undef = .bool b := hgp
        rw [getD_put hj] at this
        exact this
    obtain ⟨h1, h2, h3⟩ := dropT_mem hp
    rw [getD_put h2]
    refine hF.t p h1 ?_
    cases hc : p.2.1 with
    | none => trivial
    | some k =>
      obtain ⟨j, b⟩ := k
      rw [hc] at hgp
      have : (a.put (some d) v).tmps.getD j undef = .bool b := hgp
      rw [getD_put (h3 j b hc)] at this
      exact this
theorem FR.mono {g' : Gh} (hF : FR g nt st a) (hg : g.le g') : FR g' nt st a := ⟨hF.sz, hF.df, fun p hp h => (hF.t p hp h).mono hg, hF.u⟩
theorem gdOf_wanted {ops : Array Oper} {o : Oper} {c : Gd} (h : gdOf ops o = some c) : (Region.wanted o (yielded ops a.tmps) = true ↔ gholds a c) := by
  unfold gdOf at h
  split at h
  · rename_i e; injection h with h; subst h; simp [Region.wanted, e, gholds]
  rename_i j want e
  split at h
  · rename_i t ht
    injection h with h; subst h
    simp only [Region.wanted, e, gholds, yielded, ht, Option.bind_some, Array.getD_eq_getD_getElem?]
    cases hx : a.tmps[t]? with
    | none => simp [undef]
    | some x => cases x <;> simp
  cases h
theorem qop2_sound (hτ : τ.ok P) (hF : FR g nt st a) (hB : BR g st.bx) {c : Gd} (hg : gholds a c) {o : Oper} (h : qop2 τ st c o.op = some (r, cd)) (hc : cd) :
    ∃ z, RV g r z ∧ ∀ w, Mem g w → (execOp a.eval o).run P w = .ok (.value z) w := by
  unfold qop2 at h
  split at h
  · rename_i t ps ho
    obtain ⟨z, h1, h2⟩ := buildq_sound (P := P) hτ hF hg h hc
    exact ⟨z, h1, fun w _ => by unfold execOp; rw [ho]; simp [h2 w]⟩
  obtain ⟨z, h1, h2⟩ := qop_sound (P := P) hτ hF hB hg h hc
  exact ⟨z, h1, fun w hw => h2 w (.inr hw)⟩
theorem vstep_wpList {ops : Array Oper} {Q : Exit → Act → World → Prop} {rest : List Oper} {o : Oper} {md : Option Nat} (hτ : τ.ok P) (hN : ∀ q, md = some q → N.bx.length ≤ q) {cd : Prop} (h : vstep τ md nt ops o st = some (st', cd)) (hc : cd)
    (H : Rel P w0 N nt st a w) (k : ∀ a w, Rel P w0 N nt st' a w → wpList P ops Q rest a w) : wpList P ops Q (o :: rest) a w := by
  obtain ⟨g, HI, hF⟩ := H
  unfold vstep at h
  split at h
  · cases h
  rename_i c hgd
  split at h
  · rename_i hdst
    split at h
    · rename_i st1 r1 cd1 he
      split at he
      · rename_i hng
        injection h with h
        simp only [Prod.mk.injEq] at h
        obtain ⟨rfl, rfl⟩ := h
        have hcn : c = none := by cases c with | none => rfl | some k => simp [isNoneG] at hng
        subst hcn
        have hw : Region.wanted o (yielded ops a.tmps) = true := (gdOf_wanted hgd).2 trivial
        obtain ⟨g', w', k1, k2, k3, k4⟩ : EOk true P w0 N g st st1 r1 w (execOp a.eval o) := by
          rcases orE_some he with he | he
          · obtain ⟨g', w', k1, k⟩ := eop_sound hτ hN HI hF (c := none) trivial he hc
            exact ⟨g', w', ⟨k1.1, fun e => by cases e⟩, k⟩
          exact eopV_sound hτ HI hF (c := none) trivial he hc
        refine wpList_step fun K hK => ?_
        rw [if_pos hw]
        unfold Oper.wp
        rcases k4 with ⟨z, h1, h2⟩ | ⟨h1, h2⟩
        · rw [h1, Oper.upon_value]
          refine hK _ _ (k _ _ ⟨g', ?_, (hF.mono k1.1).put hdst (fun _ => h2) k3 (fun h => absurd trivial h)⟩)
          cases o.dst <;> exact k2
        rw [h1, Oper.upon_skip]
        refine hK _ _ (k _ _ ⟨g', ?_, (hF.mono k1.1).put hdst (fun _ => by rw [h2]; trivial) k3 (fun h => absurd trivial h)⟩)
        cases o.dst <;> exact k2
      cases he
    split at h
    · rename_i r1 cd1 hq
      injection h with h
      simp only [Prod.mk.injEq] at h
      obtain ⟨rfl, rfl⟩ := h
      refine wpList_step fun K hK => ?_
      by_cases hw : Region.wanted o (yielded ops a.tmps) = true
      · rw [if_pos hw]
        obtain ⟨z, h1, h2⟩ := qop2_sound (P := P) hτ hF HI.br ((gdOf_wanted hgd).1 hw) hq (gcond_elim hF hc ((gdOf_wanted hgd).1 hw))
        unfold Oper.wp
        rw [h2 w HI.mem, Oper.upon_value]
        refine hK _ _ (k _ _ ⟨g, ?_, hF.put hdst (fun _ => h1) rfl (fun h => absurd ((gdOf_wanted hgd).1 hw) h)⟩)
        cases o.dst <;> exact HI
      rw [if_neg hw]
      refine hK _ _ (k _ _ ⟨g, ?_, hF.put hdst (fun hg => absurd ((gdOf_wanted hgd).2 hg) hw) rfl (fun _ => rfl)⟩)
      cases o.dst <;> exact HI
    cases h
  cases h
theorem vrun_wpList {ops : Array Oper} {Q : Exit → Act → World → Prop} {md : Option Nat} (hτ : τ.ok P) (hN : ∀ q, md = some q → N.bx.length ≤ q) : ∀ (l : List Oper) (st : St) (c c' : Prop) (l' : List Oper), vrun τ md nt ops l st c = (st', c', l') → c' →
    ∀ (a : Act) (w : World), Rel P w0 N nt st a w → (∀ a w, Rel P w0 N nt st' a w → wpList P ops Q l' a w) → wpList P ops Q l a w := by
  intro l
  induction l with
  | nil => intro st c c' l' h _ a w H k; simp only [vrun, Prod.mk.injEq] at h; obtain ⟨rfl, rfl, rfl⟩ := h; exact k _ _ H
  | cons o l ih =>
    intro st c c' l' h hc a w H k
    unfold vrun at h
    split at h
    · rename_i st1 cd1 hs
      have hc1 : cd1 := by
        have key : ∀ (l : List Oper) (st : St) (c : Prop), (vrun τ md nt ops l st c).2.1 → c := by
          intro l
          induction l with
          | nil => intro st c h; exact h
          | cons o l ih =>
            intro st c h
            unfold vrun at h
            split at h
            · exact (ih _ _ h).1
            exact h
        have := key l st1 (c ∧ cd1)
        rw [h] at this
        exact (this hc).2
      exact vstep_wpList hτ hN hs hc1 H fun a w H' => ih st1 _ c' l' h hc a w H' k
    simp only [Prod.mk.injEq] at h
    obtain ⟨rfl, rfl, rfl⟩ := h
    exact k _ _ H
end
def chkD (P : Program) (t : TypeId) : D → Bool
  | .int k => (match P.underlying t with | some (.int k') => k == k' | _ => false)
  | .bool => (match P.underlying t with | some .bool => true | _ => false)
  | .str => (match P.underlying t with | some .string => true | _ => false)
  | .ptr e => (match P.underlying t with | some (.pointer e') => e == e' | _ => false)
  | .slc e => (match P.underlying t with | some (.slice e') => e == e' | _ => false)
  | .arr n e => (match P.underlying t with | some (.array n' e') => n == n' && e == e' && (P.info? e).isSome | _ => false)
  | .rcd fs => (match P.underlying t with | some (.struct F) => F.toList.map (fun f => (f.offset, f.type)) == fs && F.toList.all fun f => f.name != "_" && (P.info? f.type).isSome | _ => false)
  | .oth => true
theorem chkD_ok {P : Program} {t : TypeId} {d : D} (h : chkD P t d = true) : d.ok P t := by
  cases d with
  | arr n e =>
    simp only [chkD] at h
    split at h
    · rename_i n' e' hu
      simp only [Bool.and_eq_true, beq_iff_eq] at h
      obtain ⟨⟨rfl, rfl⟩, h3⟩ := h
      exact ⟨hu, h3⟩
    cases h
  | rcd fs =>
    simp only [chkD] at h
    split at h
    · rename_i F hu
      simp only [Bool.and_eq_true, beq_iff_eq, List.all_eq_true, bne_iff_ne] at h
      exact ⟨F, hu, h.1, h.2⟩
    cases h
  | oth => trivial
  | _ =>
    simp only [chkD] at h
    split at h
    · simp_all [D.ok]
    cases h
def chkT (P : Program) (t : TypeId) (i : TI) : Bool :=
  (match P.info? t with | some inf => inf.size == i.ty.size && inf.bytes == i.bytes | none => false) && (P.underlying t).isSome && aggB (P.underlying t) == i.ty.agg && chkD P t i.d && (!i.ty.agg || (!P.eqGuardType P.depth t && !P.stoodInHeld t))
theorem ti_ok {P : Program} {t : TypeId} {i : TI} {zc : List Value} (h : chkT P t i = true) (hz : ((P.info? t).bind (·.zero)).map (·.cells.toList) = some zc) (hr : ∀ g, RC g i.ty i.zero zc) (hi : ∀ k, i.d = .int k → i.zero = .v (.int k 0)) : i.ok P t := by
  unfold chkT at h
  simp only [Bool.and_eq_true, beq_iff_eq, Bool.or_eq_true, Bool.not_eq_true'] at h
  obtain ⟨⟨⟨⟨h1, h2⟩, h3⟩, h4⟩, h5⟩ := h
  cases hinf : P.info? t with
  | none => rw [hinf] at h1; cases h1
  | some inf =>
    rw [hinf] at h1 hz
    simp only [Bool.and_eq_true, beq_iff_eq] at h1
    cases hzz : inf.zero with
    | none => simp [hzz] at hz
    | some z =>
      simp only [Option.bind_some, hzz, Option.map_some, Option.some.injEq] at hz
      exact ⟨⟨inf, z, hinf, h1.1, h1.2, hzz, fun g => by rw [hz]; exact hr g⟩, ⟨h2, h3⟩, chkD_ok h4, hi, fun hT => by rcases h5 with h | h; (rw [h] at hT; cases hT); exact h⟩
def zchk : Ty → AV → Option (List Value)
  | .sc, .v x => if x.oneCell' then some [x] else none
  | .ba n, .ba l => if l.length = n then some (l.map B8) else none
  | .nl, .st [] => some []
  | .cn T Ts, .st (a :: az) => (zchk T a).bind fun c => (zchk Ts (.st az)).bind fun d => some (c ++ d)
  | _, _ => none
theorem zchk_ok {g : Gh} : ∀ {T : Ty} {a : AV} {cs : List Value}, zchk T a = some cs → RC g T a cs := by
  intro T
  induction T with
  | sc => intro a cs h; cases a <;> simp only [zchk] at h <;> first | cases h | (split at h <;> first | cases h | skip)
          exact .v ‹_›
  | ba n => intro a cs h; cases a <;> simp only [zchk] at h <;> first | cases h | (split at h <;> first | cases h | skip)
            exact .ba ‹_›
  | nl =>
    intro a cs h
    cases a with
    | st fs => cases fs with
      | nil => simp only [zchk, Option.some.injEq] at h; subst h; exact .nl
      | cons b m => simp only [zchk] at h; cases h
    | _ => simp only [zchk] at h; cases h
  | cn T Ts ih1 ih2 =>
    intro a cs h
    cases a with
    | st fs => cases fs with
      | nil => simp only [zchk] at h; cases h
      | cons b m =>
        simp only [zchk] at h
        obtain ⟨c, hc, h⟩ := Option.bind_eq_some_iff.1 h
        obtain ⟨d, hd, h⟩ := Option.bind_eq_some_iff.1 h
        injection h with h; subst h
        exact .cn (ih1 hc) (ih2 hd)
    | _ => simp only [zchk] at h; cases h
  | _ => intro a cs h; cases a <;> simp only [zchk] at h <;> cases h
def chkZi (i : TI) : Bool := (zchk i.ty i.zero).isSome && (match i.d with | .int k => (match i.zero with | .v (.int k' n) => k == k' && n == 0 | _ => false) | _ => true)
theorem tab_of {P : Program} {τ : Tab} (h : τ.all (fun p => chkT P p.1 p.2 && chkZi p.2) = true) (hz : τ.map (fun p => ((P.info? p.1).bind (·.zero)).map (·.cells.toList)) = τ.map fun p => zchk p.2.ty p.2.zero) : τ.ok P := fun p hp => by
  have h1 := List.all_eq_true.1 h p hp
  simp only [Bool.and_eq_true, chkZi] at h1
  obtain ⟨h1, h2, h3⟩ := h1
  obtain ⟨zc, hzc⟩ := Option.isSome_iff_exists.1 h2
  refine ti_ok (zc := zc) h1 ?_ (fun g => zchk_ok hzc) (fun k hk => ?_)
  · rw [← hzc]; exact List.map_inj_left.1 hz p hp
  rw [hk] at h3
  dsimp only at h3
  split at h3
  · rename_i e; simp only [Bool.and_eq_true, beq_iff_eq] at h3; rw [e, h3.1, h3.2]
  cases h3
def low (nb nr : Nat) : Nat → AV → Bool
  | _, .v _ => true
  | _, .ba _ => true
  | _, .ref _ _ => true
  | _, .bs _ none => true
  | _, .bs _ (some k) => decide (k < nr)
  | _, .bc _ _ none => true
  | _, .bc _ _ (some k) => decide (k < nb)
  | _, .sl _ _ none => true
  | _, .sl _ _ (some k) => decide (k < nr)
  | _, .ptr i _ => decide (i < nb)
  | _, .pti i _ _ => decide (i < nb)
  | _, .win i _ _ _ => decide (i < nb)
  | _, .vw i _ _ => decide (i < nb)
  | _, .pv i _ _ _ => decide (i < nb)
  | _, .mr i => decide (i < nb)
  | _, .slc _ _ _ => true
  | _, .vwc i _ _ _ => decide (i < nb)
  | _, .vc _ _ => true
  | _, .vb _ _ => true
  | _, .mp _ _ => true
  | d + 1, .st fs => fs.all (low nb nr d)
  | d + 1, .tup fs => fs.all (low nb nr d)
  | _, .any => true
  | _, _ => false
def Gh.cut (g : Gh) (nb nr : Nat) : Gh := ⟨g.ro, g.bx.take nb, g.rw.take nr⟩
section
variable {P : Program} {τ : Tab} {w0 w : World} {N : Gh} {g : Gh} {st st' : St} {nt : Nat} {a : Act} {nb nr : Nat}
theorem take_get {α : Type} {l : List α} {n i : Nat} (h : i < n) : (l.take n)[i]? = l[i]? := by rw [List.getElem?_take, if_pos h]
theorem RC.low_ : ∀ {d : Nat} {T : Ty} {a : AV} {cs : List Value}, RC g T a cs → low nb nr d a = true → RC (g.cut nb nr) T a cs := by
  intro d
  induction d with
  | zero =>
    intro T a cs h hp
    cases h with
    | v h => exact .v h
    | ba h => exact .ba h
    | bs hc hm hr ht => exact .bs hc hm hr fun i hi => by subst hi; simp only [low, decide_eq_true_eq] at hp; obtain ⟨r, h1, h2⟩ := ht i rfl; exact ⟨r, (take_get hp).trans h1, h2⟩
    | sl hc hm F hr hv ht => exact .sl hc hm F hr hv fun i hi => by subst hi; simp only [low, decide_eq_true_eq] at hp; obtain ⟨r, h1, h2⟩ := ht i rfl; exact ⟨r, (take_get hp).trans h1, h2⟩
    | bc hn hm hr ht => exact .bc hn hm hr fun i hi => by subst hi; simp only [low, decide_eq_true_eq] at hp; obtain ⟨r, h1, h2⟩ := ht i rfl; exact ⟨r, (take_get hp).trans h1, h2⟩
    | ref cs h hr => exact .ref cs h hr
    | ptr h ho => simp only [low, decide_eq_true_eq] at hp; exact .ptr ((take_get hp).trans h) ho
    | pti h ho hk => simp only [low, decide_eq_true_eq] at hp; exact .pti ((take_get hp).trans h) ho hk
    | win h ho hn hc hm hA => simp only [low, decide_eq_true_eq] at hp; exact .win ((take_get hp).trans h) ho hn hc hm hA
    | vw h hT hg hn hm hx => simp only [low, decide_eq_true_eq] at hp; exact .vw ((take_get hp).trans h) hT hg hn hm hx
    | pv h hT hg ho hx => simp only [low, decide_eq_true_eq] at hp; exact .pv ((take_get hp).trans h) hT hg ho hx
    | mr h hT => simp only [low, decide_eq_true_eq] at hp; exact .mr ((take_get hp).trans h) hT
    | slc hn hm F hr hv => exact .slc hn hm F hr hv
    | vwc h hk =>
      simp only [low, decide_eq_true_eq] at hp
      cases h with
      | vw h hT hg hn hm hx => exact .vwc (.vw ((take_get hp).trans h) hT hg hn hm hx) fun x hx1 => hk x ((take_get hp).symm.trans hx1)
    | _ => simp [low] at hp
  | succ d ih =>
    intro T a cs h
    have key : ∀ {T : Ty} {cs : List Value} {fs : List AV}, RC g T (.st fs) cs → fs.all (low nb nr d) = true → RC (g.cut nb nr) T (.st fs) cs := by
      intro T
      induction T with
      | cn T Ts _ ihs =>
        intro cs fs h hp
        cases h with
        | cn h hs =>
          simp only [List.all_cons, Bool.and_eq_true] at hp
          exact .cn (ih h hp.1) (ihs hs hp.2)
      | nl => intro cs fs h hp; cases h; exact .nl
      | _ => intro cs fs h hp; cases h
    intro hp
    cases h with
    | v h => exact .v h
    | ba h => exact .ba h
    | bs hc hm hr ht => exact .bs hc hm hr fun i hi => by subst hi; simp only [low, decide_eq_true_eq] at hp; obtain ⟨r, h1, h2⟩ := ht i rfl; exact ⟨r, (take_get hp).trans h1, h2⟩
    | sl hc hm F hr hv ht => exact .sl hc hm F hr hv fun i hi => by subst hi; simp only [low, decide_eq_true_eq] at hp; obtain ⟨r, h1, h2⟩ := ht i rfl; exact ⟨r, (take_get hp).trans h1, h2⟩
    | bc hn hm hr ht => exact .bc hn hm hr fun i hi => by subst hi; simp only [low, decide_eq_true_eq] at hp; obtain ⟨r, h1, h2⟩ := ht i rfl; exact ⟨r, (take_get hp).trans h1, h2⟩
    | ref cs h hr => exact .ref cs h hr
    | ptr h ho => simp only [low, decide_eq_true_eq] at hp; exact .ptr ((take_get hp).trans h) ho
    | pti h ho hk => simp only [low, decide_eq_true_eq] at hp; exact .pti ((take_get hp).trans h) ho hk
    | win h ho hn hc hm hA => simp only [low, decide_eq_true_eq] at hp; exact .win ((take_get hp).trans h) ho hn hc hm hA
    | vw h hT hg hn hm hx => simp only [low, decide_eq_true_eq] at hp; exact .vw ((take_get hp).trans h) hT hg hn hm hx
    | pv h hT hg ho hx => simp only [low, decide_eq_true_eq] at hp; exact .pv ((take_get hp).trans h) hT hg ho hx
    | mr h hT => simp only [low, decide_eq_true_eq] at hp; exact .mr ((take_get hp).trans h) hT
    | slc hn hm F hr hv => exact .slc hn hm F hr hv
    | vwc h hk =>
      simp only [low, decide_eq_true_eq] at hp
      cases h with
      | vw h hT hg hn hm hx => exact .vwc (.vw ((take_get hp).trans h) hT hg hn hm hx) fun x hx1 => hk x ((take_get hp).symm.trans hx1)
    | nl => exact .nl
    | cn h hs => exact key (.cn h hs) hp
theorem BC.of_rc {g g' : Gh} (hro : g'.ro = g.ro) {T : Ty} {a b : AV} {x : Bx} (h : BC g T a x) (hrc : RC g T a x.cells → RC g' T b x.cells) (hb : T.grows = true → b = a) : BC g' T b x := by
  have hbase : g'.base = g.base := by simp [Gh.base, hro]
  rcases h with ⟨h1, h2, h⟩ | ⟨T', γ, es, F, sp, h1, h2, h3, h4, h5, h6, h7, h8, h9, h10⟩ | ⟨γ, l, l2, h1, h2, h⟩ | ⟨K, V, ks, vs, es, clk, h1, h2, h3, h4, h5, h6, h7, h8⟩
  · exact .inl ⟨h1, h2, hrc h⟩
  · exact .inr (.inl ⟨T', γ, es, F, sp, h1, by rw [hb (by obtain ⟨_, h1, _⟩ := h1; rw [h1]; rfl), h2], h3, h4, h5, h6, h7, h8, h9, fun k hk => hbase ▸ h10 k hk⟩)
  · exact .inr (.inr (.inl ⟨γ, l, l2, h1, by rw [hb (by obtain ⟨_, h1, _⟩ := h1; rw [h1]; rfl), h2], h⟩))
  exact .inr (.inr (.inr ⟨K, V, ks, vs, es, clk, h1, by rw [hb (by rw [h1]; rfl), h2], h3, h4, h5, h6, h7, fun k hk k1 k2 => by
    obtain ⟨cs, ds, e1, e2, e3, e4⟩ := h8 k hk k1 k2
    exact ⟨cs, ds, hbase ▸ e1, e2, hbase ▸ e3, e4⟩⟩))
theorem RV1.low_ {d : Nat} {a : AV} {v : Value} (h : RV1 g a v) (hp : low nb nr d a = true) : RV1 (g.cut nb nr) a v := by
  rcases h with ⟨T, cs, h1, h2, h3⟩ | h
  · exact .inl ⟨T, cs, h1, h2.low_ hp, h3⟩
  exact .inr (h.low_ hp)
theorem RV.low_ {d : Nat} {a : AV} {v : Value} (h : RV g a v) (hp : low nb nr (d + 1) a = true) : RV (g.cut nb nr) a v := by
  cases a with
  | any => trivial
  | tup az =>
    obtain ⟨vs, h1, h2, h3⟩ := h
    simp only [low, List.all_eq_true] at hp
    exact ⟨vs, h1, h2, fun i a u ha hu => (h3 i a u ha hu).low_ (hp a (List.mem_of_getElem? ha))⟩
  | _ => exact RV1.low_ (d := d + 1) h hp
theorem Inv.cut (h : Inv P w0 N g st.bx st.fz st.rw w) (hn : N.bx.length ≤ nb) (hm : N.rw.length ≤ nr) (hb : (st.bx.take nb).all (fun x => low nb nr 4 x.2) = true) : Inv P w0 N (g.cut nb nr) (st.bx.take nb) st.fz (st.rw.take nr) w := by
  have hbx : ∀ {i : Nat} {x : Bx}, (g.cut nb nr).bx[i]? = some x → g.bx[i]? = some x := fun {i x} hx => by
    have : (g.bx.take nb)[i]? = some x := hx
    rw [List.getElem?_take] at this; split at this; exact this; cases this
  have hrw : ∀ {i : Nat} {x : Rw}, (g.cut nb nr).rw[i]? = some x → g.rw[i]? = some x := fun {i x} hx => by
    have : (g.rw.take nr)[i]? = some x := hx
    rw [List.getElem?_take] at this; split at this; exact this; cases this
  refine ⟨⟨h.mem.ro, fun i x hx => h.mem.bx i x (hbx hx), fun i x hx => h.mem.offc i x (hbx hx), fun i x hx => h.mem.mpc i x (hbx hx), fun i x hx => h.mem.rw i x (hrw hx), fun i x hx => h.mem.fro i x (hbx hx), fun i x hx => h.mem.bro i x (hbx hx), fun i j x y hx hy => h.mem.bb i j x y (hbx hx) (hbx hy), fun i r k hr => h.mem.rro i r k (hrw hr), fun i r k hr => h.mem.rwo i r k (hrw hr), fun i j x r hx hr => h.mem.rb i j x r (hbx hx) (hrw hr), fun i j r s k hr hs => h.mem.rr i j r s k (hrw hr) (hrw hs)⟩,
    ⟨h.fr.kept, fun i x hx => h.fr.bx i x (hbx hx), fun i r k hr => h.fr.rw i r k (hrw hr), h.fr.ro, ⟨h.fr.le.ro, fun i x hx => by
      obtain ⟨x', h1, h2⟩ := h.fr.le.bx i x hx
      exact ⟨x', (take_get (Nat.lt_of_lt_of_le (List.getElem?_eq_some_iff.1 hx).1 hn)).trans h1, h2⟩, fun i x hx => by
      obtain ⟨x', h1, h2⟩ := h.fr.le.rw i x hx
      exact ⟨x', (take_get (Nat.lt_of_lt_of_le (List.getElem?_eq_some_iff.1 hx).1 hm)).trans h1, h2⟩⟩⟩, ⟨?_, fun i T a hi => ?_⟩, fun i x hx => h.fz i x (hbx hx), ?_, fun r hr => h.wz r (List.mem_of_mem_take hr)⟩
  · show (g.bx.take nb).length = _; rw [List.length_take, List.length_take, h.br.len]
  · have hi' : st.bx[i]? = some (T, a) := by rw [List.getElem?_take] at hi; split at hi; exact hi; cases hi
    have hlt : i < nb := by rw [List.getElem?_take] at hi; split at hi; assumption; cases hi
    obtain ⟨x, h1, h2, h3⟩ := h.br.at_ i T a hi'
    have hl : low nb nr 4 a = true := by
      rw [List.all_eq_true] at hb
      exact hb (T, a) (List.mem_of_getElem? hi)
    exact ⟨x, (take_get hlt).trans h1, h2, h3.of_rc (g := g) (g' := g.cut nb nr) rfl (fun h => h.low_ hl) fun _ => rfl⟩
  show (g.rw.take nr).map _ = _; rw [List.map_take, h.wr]
def keepT (ks : List Nat) (nb nr : Nat) (l : List (Nat × Gd × AV)) : Bool := l.all fun p => !ks.contains p.1 || low nb nr 4 p.2.2
def St.keep (st : St) (ks : List Nat) (nb nr : Nat) : St := ⟨st.t.filter fun p => ks.contains p.1, st.bx.take nb, st.fz, st.rw.take nr⟩
theorem Rel.keep (H : Rel P w0 N nt st a w) (ks : List Nat) (nb nr : Nat) (hM : N.bx.length ≤ nb ∧ N.rw.length ≤ nr) (h1 : keepT ks nb nr st.t = true) (h2 : (st.bx.take nb).all (fun x => low nb nr 4 x.2) = true) : Rel P w0 N nt (st.keep ks nb nr) a w := by
  obtain ⟨g, HI, hF⟩ := H
  refine ⟨g.cut nb nr, HI.cut hM.1 hM.2 h2, hF.sz, hF.df, fun p hp hg => ?_, fun p hp hg => hF.u p (by simp only [St.keep, List.mem_filter] at hp; exact hp.1) hg⟩
  simp only [St.keep, List.mem_filter] at hp
  obtain ⟨hp1, hp2⟩ := hp
  simp only [keepT, List.all_eq_true, Bool.or_eq_true, Bool.not_eq_true'] at h1
  have hl : low nb nr 4 p.2.2 = true := by
    rcases h1 p hp1 with h | h
    · rw [h] at hp2; cases hp2
    exact h
  exact (hF.t p hp1 hg).low_ (d := 3) hl
def VPost (P : Program) (w0 : World) (N : Gh) (bx : List (Ty × AV)) (fz : List Nat) (rws : List (TypeId × Nat)) (res : AV) (e : Ending) (w' : World) : Prop :=
  ∃ g v, e = .returned v ∧ Inv P w0 N g bx fz rws w' ∧ RV g res v
def Fok (P : Program) (f : FuncId) : Prop := ∃ fn : Func, P.funcs[f]? = some fn ∧ (fn.name == "runtime.NumGoroutine") = false ∧ fn.body.isNone = false
def VX (P : Program) (f : FuncId) (bx : List (Ty × AV)) (fz : List Nat) (rw : List (TypeId × Nat)) (args : List AV) (bx' : List (Ty × AV)) (fz' : List Nat) (rw' : List (TypeId × Nat)) (res : AV) : Prop :=
  Fok P f ∧ ∀ (w : World) (N : Gh) (vs : List Value), Inv P w N N bx fz rw w → vs.length = args.length → (∀ (i : Nat) x v, args[i]? = some x → vs[i]? = some v → RV N x v) →
    Calls P f vs.toArray w (VPost P w N bx' fz' rw' res)
abbrev VC (P : Program) (f : FuncId) (args : List AV) (rws : List (TypeId × Nat)) (res : AV) : Prop := VX P f [] [] [] args [] [] rws res
def slots : Nat → List AV → List (Nat × Gd × AV)
  | _, [] => []
  | k, x :: l => (k, none, x) :: slots (k + 1) l
theorem slots_mem {p : Nat × Gd × AV} : ∀ {l : List AV} {k : Nat}, p ∈ slots k l → ∃ i, p.1 = k + i ∧ p.2.1 = none ∧ l[i]? = some p.2.2
  | x :: l, k, h => by
    unfold slots at h
    rcases List.mem_cons.1 h with h | h
    · subst h; exact ⟨0, rfl, rfl, rfl⟩
    obtain ⟨i, h1, h2, h3⟩ := slots_mem h
    exact ⟨i + 1, by omega, h2, h3⟩
theorem v_enter {f : FuncId} {fn : Func} {c : Code} {bx bx' : List (Ty × AV)} {fz fz' : List Nat} {rw rws : List (TypeId × Nat)} {args : List AV} {res : AV} (hf : P.funcs[f]? = some fn) (hb : fn.body = some c) (hnm : (fn.name == "runtime.NumGoroutine") = false) (hn : args.length ≤ fn.ntmps)
    (h : ∀ (N : Gh) (w0 : World) (a : Act) (w : World), N.bx.length ≤ bx.length → N.rw.length ≤ rw.length → Rel P w0 N fn.ntmps ⟨slots 0 args, bx, fz, rw⟩ a w → c.wp P (bodyPost P fn (VPost P w0 N bx' fz' rws res)) a w) : VX P f bx fz rw args bx' fz' rws res := by
  refine ⟨⟨fn, hf, hnm, by rw [hb]; rfl⟩, ?_⟩
  intro w N vs hI hl hv
  refine calls_of_wp hf hb (h N w _ w (by rw [hI.br.len]; exact Nat.le_refl _) (by rw [← hI.wr, List.length_map]; exact Nat.le_refl _) ⟨N, hI, ?_, rfl, fun p hp _ => ?_, fun p hp hg => absurd (by obtain ⟨_, _, h2, _⟩ := slots_mem hp; rw [h2]; trivial) hg⟩)
  · simp only [Array.size_append, List.size_toArray, Array.size_replicate, hl]; omega
  obtain ⟨i, h1, h2, h3⟩ := slots_mem hp
  have hi : i < vs.length := by rw [hl]; exact (List.getElem?_eq_some_iff.1 h3).1
  have := hv i p.2.2 vs[i] h3 (List.getElem?_eq_getElem hi)
  rw [h1, Nat.zero_add]
  have e : (vs.toArray ++ Array.replicate (fn.ntmps - vs.toArray.size) undef).getD i undef = vs[i] := by
    rw [Array.getD_eq_getD_getElem?, Array.getElem?_append_left (by simpa using hi)]; simp [hi]
  exact e ▸ this
theorem min_ex {p : Nat → Prop} (h : ∃ n, p n) : ∃ m, p m ∧ ∀ k, p k → m ≤ k := by
  obtain ⟨n, hn⟩ := h
  induction n using Nat.strongRecOn with
  | _ n ih =>
    by_cases hk : ∃ k, k < n ∧ p k
    · obtain ⟨k, h1, h2⟩ := hk; exact ih k h1 h2
    exact ⟨n, hn, fun k hp => Nat.le_of_not_lt fun hlt => hk ⟨k, hlt, hp⟩⟩
theorem v_loop {ι : Type} {c : Code} {Q : Exit → Act → World → Prop} (F : ι → St) (C : ι → Prop) (μ : ι → Nat) (i0 : ι) (h0 : C i0) (H : Rel P w0 N nt (F i0) a w)
    (round : ∀ i a w, C i → Rel P w0 N nt (F i) a w → c.wp P (Exit.then (fun a' w' => ∃ i', C i' ∧ μ i' < μ i ∧ Rel P w0 N nt (F i') a' w') Q) a w) : (Code.loop c).wp P Q a w := by
  have hp : ∀ a w, (∃ i, C i ∧ Rel P w0 N nt (F i) a w) → ∃ m, (∃ i, (C i ∧ Rel P w0 N nt (F i) a w) ∧ μ i = m) ∧ ∀ k, (∃ i, (C i ∧ Rel P w0 N nt (F i) a w) ∧ μ i = k) → m ≤ k := fun a w ⟨i, hi⟩ => min_ex ⟨_, i, hi, rfl⟩
  obtain ⟨m, hm⟩ : ∃ m : Act → World → Nat, ∀ a w, (∃ i, C i ∧ Rel P w0 N nt (F i) a w) → (∃ i, (C i ∧ Rel P w0 N nt (F i) a w) ∧ μ i = m a w) ∧ ∀ k, (∃ i, (C i ∧ Rel P w0 N nt (F i) a w) ∧ μ i = k) → m a w ≤ k := by
    classical
    refine ⟨fun a w => if h : ∃ i, C i ∧ Rel P w0 N nt (F i) a w then Classical.choose (hp a w h) else 0, fun a w h => ?_⟩
    have := Classical.choose_spec (hp a w h)
    simp only [dif_pos h]
    exact this
  refine wp_loop (fun a w => ∃ i, C i ∧ Rel P w0 N nt (F i) a w) m ⟨i0, h0, H⟩ fun a w hi => ?_
  obtain ⟨⟨i, hi', hmi⟩, _⟩ := hm a w hi
  refine Code.wp_mono (fun e a' w' q => ?_) (round i a w hi'.1 hi'.2)
  cases e with
  | normal => obtain ⟨i', h1, h2, h3⟩ := q; exact ⟨⟨i', h1, h3⟩, by have := (hm a' w' ⟨i', h1, h3⟩).2 _ ⟨i', ⟨h1, h3⟩, rfl⟩; omega⟩
  | _ => exact q
def SubT : List (Nat × Gd × AV) → List (Nat × Gd × AV) → Prop
  | [], _ => True
  | (k, gd, x) :: l, t => find k t = some (gd, x) ∧ SubT l t
theorem SubT.mem {p : Nat × Gd × AV} {t : List (Nat × Gd × AV)} : ∀ {l : List (Nat × Gd × AV)}, SubT l t → p ∈ l → p ∈ t
  | (k, gd, x) :: l, h, hp => by
    rcases List.mem_cons.1 hp with hp | hp
    · subst hp; exact find_mem h.1
    exact SubT.mem h.2 hp
theorem Rel.to (H : Rel P w0 N nt st a w) (nb nr : Nat) (hM : N.bx.length ≤ nb ∧ N.rw.length ≤ nr) {t2 : List (Nat × Gd × AV)} {bx2 : List (Ty × AV)} {rw2 : List (TypeId × Nat)} {fz2 : List Nat} (hs : SubT t2 st.t) (hb : st.bx.take nb = bx2) (hr : st.rw.take nr = rw2) (hf : st.fz = fz2) (h1 : t2.all (fun p => low nb nr 4 p.2.2) = true) (h2 : bx2.all (fun x => low nb nr 4 x.2) = true) :
    Rel P w0 N nt ⟨t2, bx2, fz2, rw2⟩ a w := by
  subst hb hr hf
  obtain ⟨g, HI, hF⟩ := H
  refine ⟨g.cut nb nr, HI.cut hM.1 hM.2 h2, hF.sz, hF.df, fun p hp hg => ?_, fun p hp hg => hF.u p (hs.mem hp) hg⟩
  exact (hF.t p (hs.mem hp) hg).low_ (d := 3) (List.all_eq_true.1 h1 p hp)
end
def ren (fb : Nat → Option Nat) (fr : Nat → Option Nat) : Nat → AV → AV
  | _, .bs l tok => .bs l (tok.bind fr)
  | _, .sl T es tok => .sl T es (tok.bind fr)
  | _, .bc l n tok => .bc l n (tok.bind fb)
  | _, .ptr i p => .ptr ((fb i).getD 0) p
  | _, .pti i p k => .pti ((fb i).getD 0) p k
  | _, .win i p o n => .win ((fb i).getD 0) p o n
  | _, .vw i γ n => .vw ((fb i).getD 0) γ n
  | _, .pv i γ k p => .pv ((fb i).getD 0) γ k p
  | _, .mr i => .mr ((fb i).getD 0)
  | _, .vwc i γ n k => .vwc ((fb i).getD 0) γ n k
  | d + 1, .st fs => .st (fs.map (ren fb fr d))
  | d + 1, .tup fs => .tup (fs.map (ren fb fr d))
  | _, a => a
def uses (fb : Nat → Option Nat) : Nat → AV → Bool
  | _, .v _ => true
  | _, .ba _ => true
  | _, .ref _ _ => true
  | _, .bs _ _ => true
  | _, .sl _ _ _ => true
  | _, .bc _ _ _ => true
  | _, .ptr i _ => (fb i).isSome
  | _, .pti i _ _ => (fb i).isSome
  | _, .win i _ _ _ => (fb i).isSome
  | _, .vw i _ _ => (fb i).isSome
  | _, .pv i _ _ _ => (fb i).isSome
  | _, .mr i => (fb i).isSome
  | _, .slc _ _ _ => true
  | _, .vwc i _ _ _ => (fb i).isSome
  | _, .vc _ _ => true
  | _, .vb _ _ => true
  | _, .mp _ _ => true
  | d + 1, .st fs => fs.all (uses fb d)
  | d + 1, .tup fs => fs.all (uses fb d)
  | _, .any => true
  | _, _ => false
def allP (p : AV → AV → Prop) : List AV → List AV → Prop
  | [], [] => True
  | a :: l, b :: m => p a b ∧ allP p l m
  | _, _ => False
def sub : Nat → AV → AV → Prop
  | _, .v (.slice none 0 0), .bs l none => l = []
  | _, .v (.slice none 0 0), .sl _ es none => es = []
  | _, .bs l _, .bs l' none => l = l'
  | _, .bc l n _, .bs l' none => l.take n = l'
  | _, .bc l n _, .bc l' n' none => l = l' ∧ n = n'
  | _, .sl T es _, .sl T' es' none => T = T' ∧ es = es'
  | _, .slc T es n, .sl T' es' none => T = T' ∧ es.take n = es'
  | _, .vwc i γ n _, .vw i' γ' n' => i = i' ∧ γ = γ' ∧ n = n'
  | d + 1, .st fs, .st fs' => allP (sub d) fs fs'
  | _, a, b => a = b
theorem allP_refl {p : AV → AV → Prop} (h : ∀ a, p a a) : ∀ l : List AV, allP p l l
  | [] => trivial
  | a :: l => ⟨h a, allP_refl h l⟩
theorem sub_refl : ∀ (d : Nat) (a : AV), sub d a a := by
  intro d
  induction d with
  | zero => intro a; unfold sub; split <;> first | rfl | (rename_i heq; simp at heq; done) | (rename_i heq; cases heq <;> first | rfl | exact ⟨rfl, rfl⟩) | (rename_i h1 heq; cases h1)
  | succ d ih => intro a; unfold sub; split <;> first | rfl | (rename_i heq; simp at heq; done) | (rename_i heq; cases heq <;> first | rfl | exact ⟨rfl, rfl⟩) | (rename_i h1 heq; cases h1; cases heq; exact allP_refl ih _)
section
variable {P : Program} {τ : Tab} {w0 w w' : World} {N : Gh} {g g1 g2 : Gh} {st st' : St} {nt : Nat} {a : Act} {fb fr : Nat → Option Nat}
theorem RC.ren_ (hro : g2.ro = g1.ro) (hb : ∀ i j x, fb i = some j → g1.bx[i]? = some x → g2.bx[j]? = some x) (hr : ∀ i j x, fr i = some j → g1.rw[i]? = some x → g2.rw[j]? = some x) :
    ∀ {d : Nat} {T : Ty} {a : AV} {cs : List Value}, RC g1 T a cs → uses fb d a = true → RC g2 T (ren fb fr d a) cs := by
  have hbase : g2.base = g1.base := by simp [Gh.base, hro]
  have leaf : ∀ {T : Ty} {a : AV} {cs : List Value} (d : Nat), RC g1 T a cs → uses fb d a = true → (∀ fs, a ≠ .st fs) → RC g2 T (ren fb fr d a) cs := by
    intro T a cs d h hp hst
    cases h with
    | v h => rw [show ren fb fr d (.v _) = .v _ from by cases d <;> rfl]; exact .v h
    | ba h => rw [show ren fb fr d (.ba _) = .ba _ from by cases d <;> rfl]; exact .ba h
    | nl => exact absurd rfl (hst _)
    | cn h hs => exact absurd rfl (hst _)
    | bs hc hm hr' ht =>
      rename_i l tok A c
      rw [show ren fb fr d (.bs l tok) = .bs l (tok.bind fr) from by cases d <;> rfl]
      refine .bs hc hm (by rw [hro]; exact hr') fun i hi => ?_
      obtain ⟨k, rfl, hk⟩ := Option.bind_eq_some_iff.1 hi
      obtain ⟨r, h1, h2⟩ := ht k rfl
      exact ⟨r, hr k i r hk h1, h2⟩
    | sl hc hm F hr' hv ht =>
      rename_i T es tok A c
      rw [show ren fb fr d (.sl T es tok) = .sl T es (tok.bind fr) from by cases d <;> rfl]
      refine .sl hc hm F (by rw [hro]; exact hr') (by rw [hbase]; exact hv) fun i hi => ?_
      obtain ⟨k, rfl, hk⟩ := Option.bind_eq_some_iff.1 hi
      obtain ⟨r, h1, h2⟩ := ht k rfl
      exact ⟨r, hr k i r hk h1, h2⟩
    | bc hn hm hr' ht =>
      rename_i l n tok A
      rw [show ren fb fr d (.bc l n tok) = .bc l n (tok.bind fb) from by cases d <;> rfl]
      refine .bc hn hm (by rw [hro]; exact hr') fun i hi => ?_
      obtain ⟨k, rfl, hk⟩ := Option.bind_eq_some_iff.1 hi
      obtain ⟨r, h1, h2⟩ := ht k rfl
      exact ⟨r, hb k i r hk h1, h2⟩
    | ref cs h hr' => rw [show ren fb fr d (.ref _ _) = .ref _ _ from by cases d <;> rfl]; exact .ref cs (by rw [hbase]; exact h) (by rw [hro]; exact hr')
    | ptr h ho =>
      rename_i i path x o T
      rw [show ren fb fr d (.ptr i path) = .ptr ((fb i).getD 0) path from by cases d <;> rfl]
      rw [show uses fb d (.ptr i path) = (fb i).isSome from by cases d <;> rfl] at hp
      obtain ⟨j, hj⟩ := Option.isSome_iff_exists.1 hp
      rw [hj]; exact .ptr (hb _ _ _ hj h) ho
    | pti h ho hk =>
      rename_i i path k x o n
      rw [show ren fb fr d (.pti i path k) = .pti ((fb i).getD 0) path k from by cases d <;> rfl]
      rw [show uses fb d (.pti i path k) = (fb i).isSome from by cases d <;> rfl] at hp
      obtain ⟨j, hj⟩ := Option.isSome_iff_exists.1 hp
      rw [hj]; exact .pti (hb _ _ _ hj h) ho hk
    | win h ho hn hc hm hA =>
      rename_i i path o1 n1 x o n c A
      rw [show ren fb fr d (.win i path o1 n1) = .win ((fb i).getD 0) path o1 n1 from by cases d <;> rfl]
      rw [show uses fb d (.win i path o1 n1) = (fb i).isSome from by cases d <;> rfl] at hp
      obtain ⟨j, hj⟩ := Option.isSome_iff_exists.1 hp
      rw [hj]; exact .win (hb _ _ _ hj h) ho hn hc hm hA
    | vw h hT hg hn hm hx =>
      rename_i i γ n c e x T A
      rw [show ren fb fr d (.vw i γ n) = .vw ((fb i).getD 0) γ n from by cases d <;> rfl]
      rw [show uses fb d (.vw i γ n) = (fb i).isSome from by cases d <;> rfl] at hp
      obtain ⟨j, hj⟩ := Option.isSome_iff_exists.1 hp
      rw [hj]; exact .vw (hb _ _ _ hj h) hT hg hn hm hx
    | pv h hT hg ho hx =>
      rename_i i γ k b o e path x T T'
      rw [show ren fb fr d (.pv i γ k path) = .pv ((fb i).getD 0) γ k path from by cases d <;> rfl]
      rw [show uses fb d (.pv i γ k path) = (fb i).isSome from by cases d <;> rfl] at hp
      obtain ⟨j, hj⟩ := Option.isSome_iff_exists.1 hp
      rw [hj]; exact .pv (hb _ _ _ hj h) hT hg ho hx
    | mr h hT =>
      rename_i i x K V
      rw [show ren fb fr d (.mr i) = .mr ((fb i).getD 0) from by cases d <;> rfl]
      rw [show uses fb d (.mr i) = (fb i).isSome from by cases d <;> rfl] at hp
      obtain ⟨j, hj⟩ := Option.isSome_iff_exists.1 hp
      rw [hj]; exact .mr (hb _ _ _ hj h) hT
    | slc hn hm F hr' hv => rw [show ren fb fr d (.slc _ _ _) = .slc _ _ _ from by cases d <;> rfl]; exact .slc hn hm F (by rw [hro]; exact hr') (by rw [hbase]; exact hv)
    | vwc h hk =>
      rename_i i γ n k v
      rw [show ren fb fr d (.vwc i γ n k) = .vwc ((fb i).getD 0) γ n k from by cases d <;> rfl]
      rw [show uses fb d (.vwc i γ n k) = (fb i).isSome from by cases d <;> rfl] at hp
      obtain ⟨j, hj⟩ := Option.isSome_iff_exists.1 hp
      rw [hj]
      cases h with
      | vw h hT hg hn hm hx =>
        refine .vwc (.vw (hb _ _ _ hj h) hT hg hn hm hx) fun y hy => ?_
        have := hb _ _ _ hj h
        rw [Option.getD_some] at hy
        rw [this] at hy; injection hy with hy; subst hy
        exact hk _ h
  intro d
  induction d with
  | zero =>
    intro T a cs h hp
    refine leaf 0 h hp fun fs e => ?_
    subst e; simp [uses] at hp
  | succ d ih =>
    have key : ∀ {T : Ty} {cs : List Value} {fs : List AV}, RC g1 T (.st fs) cs → fs.all (uses fb d) = true → RC g2 T (.st (fs.map (ren fb fr d))) cs := by
      intro T
      induction T with
      | cn T Ts _ ihs =>
        intro cs fs h hp
        cases h with
        | cn h hs =>
          simp only [List.all_cons, Bool.and_eq_true] at hp
          exact .cn (ih h hp.1) (ihs hs hp.2)
      | nl => intro cs fs h hp; cases h; exact .nl
      | _ => intro cs fs h hp; cases h
    intro T a cs h hp
    by_cases hst : ∃ fs, a = .st fs
    · obtain ⟨fs, rfl⟩ := hst; exact key h hp
    exact leaf (d + 1) h hp fun fs e => hst ⟨fs, e⟩
theorem RV1.ren_ (hro : g2.ro = g1.ro) (hb : ∀ i j x, fb i = some j → g1.bx[i]? = some x → g2.bx[j]? = some x) (hr : ∀ i j x, fr i = some j → g1.rw[i]? = some x → g2.rw[j]? = some x) {d : Nat} {a : AV} {v : Value} (h : RV1 g1 a v) (hp : uses fb d a = true) : RV1 g2 (ren fb fr d a) v := by
  rcases h with ⟨T, cs, h1, h2, h3⟩ | h
  · exact .inl ⟨T, cs, h1, h2.ren_ hro hb hr hp, h3⟩
  exact .inr (h.ren_ hro hb hr hp)
theorem RV.ren_ (hro : g2.ro = g1.ro) (hb : ∀ i j x, fb i = some j → g1.bx[i]? = some x → g2.bx[j]? = some x) (hr : ∀ i j x, fr i = some j → g1.rw[i]? = some x → g2.rw[j]? = some x) {d : Nat} {a : AV} {v : Value} (h : RV g1 a v) (hp : uses fb (d + 1) a = true) : RV g2 (ren fb fr (d + 1) a) v := by
  cases a with
  | any => trivial
  | tup az =>
    obtain ⟨vs, h1, h2, h3⟩ := h
    simp only [uses, List.all_eq_true] at hp
    refine ⟨vs, h1, by simpa using h2, fun i a u ha hu => ?_⟩
    rw [List.getElem?_map] at ha
    obtain ⟨x, hx, rfl⟩ := Option.map_eq_some_iff.1 ha
    exact (h3 i x u hx hu).ren_ hro hb hr (hp x (List.mem_of_getElem? hx))
  | _ => exact (RV1.ren_ hro hb hr (d := d + 1) (show RV1 g1 _ v from h) hp).rv
theorem RC.nil1 {l : List UInt8} (h : l = []) : RC g .sc (.bs l none) [.slice none 0 0] := by
  subst h; exact RC.bs (l := []) (A := none) (c := 0) (by simp) (by simp [maxLen]) (.inl rfl) fun i hi => by cases hi
theorem RC.nil2 {T : Ty} {es : List AV} (h : es = []) : RC g .sc (.sl T es none) [.slice none 0 0] := by
  subst h; exact RC.sl (es := []) (A := none) (c := 0) (by simp) (by simp [maxLen]) (fun _ => []) (.inl rfl) (fun k hk => absurd hk (by simp)) fun i hi => by cases hi
theorem RC.sub_ : ∀ {d : Nat} {T : Ty} {a b : AV} {cs : List Value}, RC g T a cs → sub d a b → RC g T b cs := by
  intro d
  induction d with
  | zero =>
    intro T a b cs h hs
    unfold sub at hs
    split at hs
    · cases h; exact .nil1 hs
    · cases h; exact .nil2 hs
    · subst hs; cases h with | bs hc hm hr ht => exact .bs hc hm hr fun i hi => by cases hi
    · subst hs; cases h with | bc hn hm hr ht => exact RC.asb hn hm hr
    · obtain ⟨rfl, rfl⟩ := hs; cases h with | bc hn hm hr ht => exact .bc hn hm hr fun i hi => by cases hi
    · obtain ⟨rfl, rfl⟩ := hs; cases h with | sl hc hm F hr hv ht => exact .sl hc hm F hr hv fun i hi => by cases hi
    · obtain ⟨rfl, rfl⟩ := hs; cases h with | slc hn hm F hr hv => exact RC.asl hn hm hr hv
    · obtain ⟨rfl, rfl, rfl⟩ := hs; cases h with | vwc h hk => exact h
    · rename_i heq; exact absurd heq (by simp)
    subst hs; exact h
  | succ d ih =>
    have key : ∀ {T : Ty} {cs : List Value} {fs fs' : List AV}, RC g T (.st fs) cs → allP (sub d) fs fs' → RC g T (.st fs') cs := by
      intro T
      induction T with
      | cn T Ts _ ihs =>
        intro cs fs fs' h hp
        cases h with
        | cn h hs =>
          cases fs' with
          | nil => exact hp.elim
          | cons b m => exact .cn (ih h hp.1) (ihs hs hp.2)
      | nl => intro cs fs fs' h hp; cases h; cases fs' with | nil => exact .nl | cons b m => exact hp.elim
      | _ => intro cs fs fs' h hp; cases h
    intro T a b cs h hs
    unfold sub at hs
    split at hs
    · cases h; exact .nil1 hs
    · cases h; exact .nil2 hs
    · subst hs; cases h with | bs hc hm hr ht => exact .bs hc hm hr fun i hi => by cases hi
    · subst hs; cases h with | bc hn hm hr ht => exact RC.asb hn hm hr
    · obtain ⟨rfl, rfl⟩ := hs; cases h with | bc hn hm hr ht => exact .bc hn hm hr fun i hi => by cases hi
    · obtain ⟨rfl, rfl⟩ := hs; cases h with | sl hc hm F hr hv ht => exact .sl hc hm F hr hv fun i hi => by cases hi
    · obtain ⟨rfl, rfl⟩ := hs; cases h with | slc hn hm F hr hv => exact RC.asl hn hm hr hv
    · obtain ⟨rfl, rfl, rfl⟩ := hs; cases h with | vwc h hk => exact h
    · rename_i heq; cases heq; exact key h hs
    subst hs; exact h
theorem RV1.sub_ {d : Nat} {a b : AV} {v : Value} (h : RV1 g a v) (hs : sub d a b) : RV1 g b v := by
  rcases h with ⟨T, cs, h1, h2, h3⟩ | h
  · exact .inl ⟨T, cs, h1, h2.sub_ hs, h3⟩
  exact .inr (h.sub_ hs)
theorem RV.rv1 {a : AV} {v : Value} (h : RV g a v) (h1 : isAny a = false) (h2 : ∀ az, a ≠ .tup az) : RV1 g a v := by
  cases a with
  | any => simp [isAny] at h1
  | tup az => exact absurd rfl (h2 az)
  | _ => exact h
def Gh.pick (g : Gh) (js ks : List Nat) : Gh := ⟨g.ro, js.filterMap (g.bx[·]?), ks.filterMap (g.rw[·]?)⟩
theorem pick_get {α : Type} {l : List α} : ∀ {js : List Nat}, (∀ j ∈ js, j < l.length) → ∀ i : Nat, (js.filterMap (l[·]?))[i]? = (js[i]?).bind (l[·]?)
  | [], _, i => by simp
  | j :: js, h, i => by
    have hj := h j List.mem_cons_self
    rw [List.filterMap_cons, List.getElem?_eq_getElem hj]
    cases i with
    | zero => simp [List.getElem?_eq_getElem hj]
    | succ i => simpa using pick_get (fun k hk => h k (List.mem_cons_of_mem _ hk)) i
def idx? (ks : List Nat) (i : Nat) : Option Nat := if ks.contains i then some (ks.idxOf i) else none
theorem idx_get {js : List Nat} {i : Nat} (h : i ∈ js) : js[js.idxOf i]? = some i := by
  have := List.idxOf_lt_length_of_mem h
  rw [List.getElem?_eq_getElem this]; simp
def pickB (js ks : List Nat) (bx : List (Ty × AV)) : List (Ty × AV) := js.filterMap fun j => (bx[j]?).map fun x => (x.1, ren (idx? js) (idx? ks) 4 x.2)
def bxs : List (Ty × AV) → List (Ty × AV) → Prop
  | [], [] => True
  | a :: l, b :: m => (a.1 = b.1 ∧ sub 4 a.2 b.2) ∧ bxs l m
  | _, _ => False
theorem bxs_get : ∀ {l m : List (Ty × AV)}, bxs l m → l.length = m.length ∧ ∀ (i : Nat) T b, m[i]? = some (T, b) → ∃ a, l[i]? = some (T, a) ∧ sub 4 a b
  | [], [], _ => ⟨rfl, fun i T b h => by simp at h⟩
  | a :: l, b :: m, h => by
    obtain ⟨h1, h2⟩ := bxs_get h.2
    refine ⟨by simp [h1], fun i T c hc => ?_⟩
    cases i with
    | zero => simp at hc; subst hc; exact ⟨a.2, by have := h.1.1; obtain ⟨a1, a2⟩ := a; simp at this ⊢; exact this, h.1.2⟩
    | succ i => simpa using h2 i T c (by simpa using hc)
theorem RC.pick_ {js ks : List Nat} (hj : ∀ j ∈ js, j < g.bx.length) (hk : ∀ k ∈ ks, k < g.rw.length) {d : Nat} {T : Ty} {a : AV} {cs : List Value} (h : RC g T a cs) (hu : uses (idx? js) d a = true) : RC (g.pick js ks) T (ren (idx? js) (idx? ks) d a) cs := by
  refine h.ren_ (g1 := g) (g2 := g.pick js ks) rfl (fun i j x hi hx => ?_) (fun i j x hi hx => ?_) hu
  · unfold idx? at hi
    split at hi
    · rename_i hc
      have hm : i ∈ js := by simpa using hc
      injection hi with hi; subst hi
      show (js.filterMap (g.bx[·]?))[_]? = _
      rw [pick_get hj, idx_get hm]; exact hx
    cases hi
  unfold idx? at hi
  split at hi
  · rename_i hc
    have hm : i ∈ ks := by simpa using hc
    injection hi with hi; subst hi
    show (ks.filterMap (g.rw[·]?))[_]? = _
    rw [pick_get hk, idx_get hm]; exact hx
  cases hi
theorem RV.pick_ {js ks : List Nat} (hj : ∀ j ∈ js, j < g.bx.length) (hk : ∀ k ∈ ks, k < g.rw.length) {d : Nat} {a : AV} {v : Value} (h : RV g a v) (hu : uses (idx? js) (d + 1) a = true) : RV (g.pick js ks) (ren (idx? js) (idx? ks) (d + 1) a) v := by
  refine h.ren_ (g1 := g) (g2 := g.pick js ks) rfl (fun i j x hi hx => ?_) (fun i j x hi hx => ?_) hu
  · unfold idx? at hi
    split at hi
    · rename_i hc
      have hm : i ∈ js := by simpa using hc
      injection hi with hi; subst hi
      show (js.filterMap (g.bx[·]?))[_]? = _
      rw [pick_get hj, idx_get hm]; exact hx
    cases hi
  unfold idx? at hi
  split at hi
  · rename_i hc
    have hm : i ∈ ks := by simpa using hc
    injection hi with hi; subst hi
    show (ks.filterMap (g.rw[·]?))[_]? = _
    rw [pick_get hk, idx_get hm]; exact hx
  cases hi
theorem BC.grown {g : Gh} {T : Ty} {a : AV} {x : Bx} (h : BC g T a x) (hT : T.grows = true) : (∃ γ es, a = .vc γ es) ∨ (∃ γ l, a = .vb γ l) ∨ ∃ ks vs, a = .mp ks vs := by
  rcases h with ⟨_, _, h⟩ | ⟨T', γ, es, F, sp, _, rfl, _⟩ | ⟨γ, l, l2, _, rfl, _⟩ | ⟨K, V, ks, vs, es, clk, _, rfl, _⟩
  · rw [h.grows] at hT; cases hT
  · exact .inl ⟨_, _, rfl⟩
  · exact .inr (.inl ⟨_, _, rfl⟩)
  exact .inr (.inr ⟨_, _, rfl⟩)
theorem ren_grows {fb fr : Nat → Option Nat} {d : Nat} {a : AV} (h : (∃ γ es, a = .vc γ es) ∨ (∃ γ l, a = .vb γ l) ∨ ∃ ks vs, a = .mp ks vs) : ren fb fr d a = a := by
  rcases h with ⟨γ, es, rfl⟩ | ⟨γ, l, rfl⟩ | ⟨ks, vs, rfl⟩ <;> cases d <;> rfl
theorem sub_grows {d : Nat} {a b : AV} (h : (∃ γ es, a = .vc γ es) ∨ (∃ γ l, a = .vb γ l) ∨ ∃ ks vs, a = .mp ks vs) (hs : sub d a b) : b = a := by
  rcases h with ⟨γ, es, rfl⟩ | ⟨γ, l, rfl⟩ | ⟨ks, vs, rfl⟩ <;> cases d <;> exact hs.symm
theorem nodup_get {js : List Nat} (h : js.Nodup) {i j k : Nat} (h1 : js[i]? = some k) (h2 : js[j]? = some k) : i = j := by
  obtain ⟨a1, b1⟩ := List.getElem?_eq_some_iff.1 h1
  obtain ⟨a2, b2⟩ := List.getElem?_eq_some_iff.1 h2
  have hp := List.pairwise_iff_getElem.1 h
  rcases Nat.lt_trichotomy i j with e | e | e
  · exact absurd (b1.trans b2.symm) (hp i j a1 a2 e)
  · exact e
  exact absurd (b2.trans b1.symm) (hp j i a2 a1 e)
theorem Inv.pick {bx bx2 : List (Ty × AV)} {fz fz2 : List Nat} {rw_ rw2 : List (TypeId × Nat)} (h : Inv P w0 N g bx fz rw_ w) (js ks : List Nat) (hj : ∀ j ∈ js, j < bx.length) (hk : ∀ k ∈ ks, k < rw_.length) (nj : js.Nodup) (nk : ks.Nodup)
    (hu : ∀ j ∈ js, ∀ x, bx[j]? = some x → uses (idx? js) 4 x.2 = true) (hb : bxs (pickB js ks bx) bx2) (hf : ∀ i j, js[i]? = some j → j ∈ fz → i ∈ fz2) (hr : ks.filterMap (rw_[·]?) = rw2)
    {w1 : World} {N1 : Gh} (hfr : Fr w1 N1 (g.pick js ks) w) : Inv P w1 N1 (g.pick js ks) bx2 fz2 rw2 w := by
  have hj' : ∀ j ∈ js, j < g.bx.length := fun j hm => by rw [h.br.len]; exact hj j hm
  have hk' : ∀ k ∈ ks, k < g.rw.length := fun k hm => by have := hk k hm; rw [← h.wr, List.length_map] at this; exact this
  have gb : ∀ {i : Nat} {x : Bx}, (g.pick js ks).bx[i]? = some x → ∃ j, js[i]? = some j ∧ g.bx[j]? = some x := fun {i x} hx => by
    have hx' : (js.filterMap (g.bx[·]?))[i]? = some x := hx
    rw [pick_get hj'] at hx'
    exact Option.bind_eq_some_iff.1 hx'
  have gr : ∀ {i : Nat} {x : Rw}, (g.pick js ks).rw[i]? = some x → ∃ j, ks[i]? = some j ∧ g.rw[j]? = some x := fun {i x} hx => by
    have hx' : (ks.filterMap (g.rw[·]?))[i]? = some x := hx
    rw [pick_get hk'] at hx'
    exact Option.bind_eq_some_iff.1 hx'
  refine ⟨⟨h.mem.ro, fun i x hx => ?_, fun i x hx => ?_, fun i x hx => ?_, fun i x hx => ?_, fun i x hx => ?_, fun i x hx => ?_, fun i j x y hx hy hxo hyo he => ?_, fun i r k hr' => ?_, fun i r k hr' => ?_, fun i j x r hx hr' hxo => ?_, fun i j r s k hr' hs h1 h2 => ?_⟩, hfr, ⟨?_, fun i T b hi => ?_⟩, fun i x hx hxf => ?_, ?_, fun r hm => ?_⟩
  · obtain ⟨j, _, h2⟩ := gb hx; exact h.mem.bx j x h2
  · obtain ⟨j, _, h2⟩ := gb hx; exact h.mem.offc j x h2
  · obtain ⟨j, _, h2⟩ := gb hx; exact h.mem.mpc j x h2
  · obtain ⟨j, _, h2⟩ := gr hx; exact h.mem.rw j x h2
  · obtain ⟨j, _, h2⟩ := gb hx; exact h.mem.fro j x h2
  · obtain ⟨j, _, h2⟩ := gb hx; exact h.mem.bro j x h2
  · obtain ⟨k, h1, h2⟩ := gb hx; obtain ⟨l, h3, h4⟩ := gb hy
    have := h.mem.bb k l x y h2 h4 hxo hyo he; subst this
    exact nodup_get nj h1 h3
  · obtain ⟨j, _, h2⟩ := gr hr'; exact h.mem.rro j r k h2
  · obtain ⟨j, _, h2⟩ := gr hr'; exact h.mem.rwo j r k h2
  · obtain ⟨k, _, h2⟩ := gb hx; obtain ⟨l, _, h4⟩ := gr hr'; exact h.mem.rb k l x r h2 h4 hxo
  · obtain ⟨m, e1, e2⟩ := gr hr'; obtain ⟨l, e3, e4⟩ := gr hs
    have := h.mem.rr m l r s k e2 e4 h1 h2; subst this
    exact nodup_get nk e1 e3
  · have hlen : ∀ js : List Nat, (∀ j ∈ js, j < bx.length) → (js.filterMap (g.bx[·]?)).length = js.length ∧ ∀ f : Ty × AV → Ty × AV, (js.filterMap fun j => (bx[j]?).map f).length = js.length := by
      intro js
      induction js with
      | nil => intro _; exact ⟨rfl, fun _ => rfl⟩
      | cons j js ih =>
        intro hj
        have h1 := hj j List.mem_cons_self
        obtain ⟨e1, e2⟩ := ih fun k hk => hj k (List.mem_cons_of_mem _ hk)
        have h2 : j < g.bx.length := by rw [h.br.len]; exact h1
        refine ⟨by rw [List.filterMap_cons, List.getElem?_eq_getElem h2]; simp [e1], fun f => ?_⟩
        rw [List.filterMap_cons, List.getElem?_eq_getElem h1]; simp [e2 f]
    show (js.filterMap (g.bx[·]?)).length = _
    rw [(hlen js hj).1, ← (bxs_get hb).1]
    exact ((hlen js hj).2 _).symm
  · obtain ⟨a, ha, hs⟩ := (bxs_get hb).2 i T b hi
    have hpb : ∀ (js : List Nat) (f : Ty × AV → Ty × AV), (∀ j ∈ js, j < bx.length) → ∀ i : Nat, (js.filterMap fun j => (bx[j]?).map f)[i]? = (js[i]?).bind fun j => (bx[j]?).map f := by
      intro js f
      induction js with
      | nil => intro _ i; simp
      | cons j js ih =>
        intro hj i
        have h1 := hj j List.mem_cons_self
        rw [List.filterMap_cons, List.getElem?_eq_getElem h1]
        cases i with
        | zero => simp [List.getElem?_eq_getElem h1]
        | succ i => simpa using ih (fun k hk => hj k (List.mem_cons_of_mem _ hk)) i
    unfold pickB at ha
    rw [hpb js _ hj] at ha
    obtain ⟨j, hji, hx⟩ := Option.bind_eq_some_iff.1 ha
    obtain ⟨x, hx1, hx2⟩ := Option.map_eq_some_iff.1 hx
    simp only [Prod.mk.injEq] at hx2
    obtain ⟨rfl, rfl⟩ := hx2
    obtain ⟨y, hy, hty, hrc⟩ := h.br.at_ j x.1 x.2 hx1
    have hjm : j ∈ js := List.mem_of_getElem? hji
    refine ⟨y, ?_, hty, hrc.of_rc (g := g) (g' := g.pick js ks) rfl (fun h => (h.pick_ hj' hk' (hu j hjm x hx1)).sub_ hs) fun hg => ?_⟩
    rotate_left
    · have e1 := hrc.grown hg
      have e2 := ren_grows (fb := idx? js) (fr := idx? ks) (d := 4) e1
      rw [e2] at hs
      exact sub_grows e1 hs
    show (js.filterMap (g.bx[·]?))[i]? = _
    rw [pick_get hj', hji]; exact hy
  · obtain ⟨j, h1, h2⟩ := gb hx
    exact hf i j h1 (h.fz j x h2 hxf)
  · rw [← hr, ← h.wr]
    show (ks.filterMap (g.rw[·]?)).map _ = _
    rw [List.map_filterMap]
    congr 1
    funext k
    rw [List.getElem?_map]
  obtain ⟨k, _, hk2⟩ := List.mem_filterMap.1 (show r ∈ ks.filterMap (g.rw[·]?) from hm)
  exact h.wz r (List.mem_of_getElem? hk2)
end
def setAll {α : Type} : List α → List Nat → List α → List α
  | l, j :: js, x :: xs => setAll (l.set j x) js xs
  | l, _, _ => l
def mergeL {α : Type} (l : List α) (js : List Nat) (l' : List α) : List α := setAll l js l' ++ l'.drop js.length
def nth (js : List Nat) (n i : Nat) : Nat := js.getD i (n + (i - js.length))
section
variable {α : Type}
theorem setAll_len : ∀ {js : List Nat} {l l' : List α}, (setAll l js l').length = l.length
  | [], l, l' => by cases l' <;> rfl
  | j :: js, l, [] => rfl
  | j :: js, l, x :: xs => by rw [setAll, setAll_len, List.length_set]
theorem setAll_out : ∀ {js : List Nat} {l l' : List α} {k : Nat}, k ∉ js → (setAll l js l')[k]? = l[k]?
  | [], l, l', k, _ => by cases l' <;> rfl
  | j :: js, l, [], k, _ => rfl
  | j :: js, l, x :: xs, k, h => by
    rw [setAll, setAll_out (fun e => h (List.mem_cons_of_mem _ e)), List.getElem?_set, if_neg (fun e => h (by rw [e]; exact List.mem_cons_self))]
theorem setAll_in : ∀ {js : List Nat} {l l' : List α} {i k : Nat}, js.Nodup → (∀ j ∈ js, j < l.length) → js.length ≤ l'.length → js[i]? = some k → (setAll l js l')[k]? = l'[i]?
  | [], l, l', i, k, _, _, _, h => by simp at h
  | j :: js, l, [], i, k, _, _, hl, _ => by simp at hl
  | j :: js, l, x :: xs, i, k, hn, hj, hl, h => by
    rw [List.nodup_cons] at hn
    cases i with
    | zero =>
      simp at h; subst h
      rw [setAll, setAll_out hn.1, List.getElem?_set, if_pos rfl, if_pos (hj _ List.mem_cons_self)]; rfl
    | succ i =>
      rw [setAll, setAll_in hn.2 (fun k hk => by rw [List.length_set]; exact hj k (List.mem_cons_of_mem _ hk)) (by simpa using hl) (by simpa using h)]; simp
theorem setAll_map {β : Type} (f : α → β) : ∀ {js : List Nat} {l l' : List α}, (setAll l js l').map f = setAll (l.map f) js (l'.map f)
  | [], l, l' => by cases l' <;> rfl
  | j :: js, l, [] => rfl
  | j :: js, l, x :: xs => by rw [setAll, setAll_map f, List.map_set, List.map_cons, setAll]
theorem mergeL_map {β : Type} (f : α → β) {js : List Nat} {l l' : List α} : (mergeL l js l').map f = mergeL (l.map f) js (l'.map f) := by
  unfold mergeL; rw [List.map_append, setAll_map, List.map_drop]
variable {js : List Nat} {l l' : List α} (nj : js.Nodup) (hj : ∀ j ∈ js, j < l.length) (hl : js.length ≤ l'.length)
theorem nth_lt {i n : Nat} (h : i < js.length) : js[i]? = some (nth js n i) := by unfold nth; rw [List.getD_eq_getElem?_getD, List.getElem?_eq_getElem h]; rfl
theorem nth_ge {i n : Nat} (h : js.length ≤ i) : nth js n i = n + (i - js.length) := by unfold nth; rw [List.getD_eq_getElem?_getD, List.getElem?_eq_none h]; rfl
include nj hj hl in
theorem merge_new {i : Nat} {x : α} (h : l'[i]? = some x) : (mergeL l js l')[nth js l.length i]? = some x := by
  unfold mergeL
  rcases Nat.lt_or_ge i js.length with h1 | h1
  · have h2 := nth_lt (n := l.length) h1
    rw [List.getElem?_append_left (by rw [setAll_len]; exact hj _ (List.mem_of_getElem? h2)), setAll_in nj hj hl h2]; exact h
  rw [nth_ge h1, List.getElem?_append_right (by rw [setAll_len]; omega), setAll_len, Nat.add_sub_cancel_left, List.getElem?_drop, show js.length + (i - js.length) = i by omega]; exact h
theorem merge_old {k : Nat} {x : α} (hk : k ∉ js) (h : l[k]? = some x) : (mergeL l js l')[k]? = some x := by
  unfold mergeL
  have := (List.getElem?_eq_some_iff.1 h).1
  rw [List.getElem?_append_left (by rw [setAll_len]; exact this), setAll_out hk]; exact h
include nj hj hl in
theorem merge_cases {k : Nat} {x : α} (h : (mergeL l js l')[k]? = some x) : (∃ i, l'[i]? = some x ∧ nth js l.length i = k) ∨ (k ∉ js ∧ l[k]? = some x) := by
  unfold mergeL at h
  rcases Nat.lt_or_ge k l.length with h1 | h1
  · rw [List.getElem?_append_left (by rw [setAll_len]; exact h1)] at h
    by_cases hk : k ∈ js
    · obtain ⟨i, hi⟩ := List.getElem?_of_mem hk
      rw [setAll_in nj hj hl hi] at h
      refine .inl ⟨i, h, ?_⟩
      have := nth_lt (n := l.length) (List.getElem?_eq_some_iff.1 hi).1
      rw [hi] at this; injection this with this; exact this.symm
    rw [setAll_out hk] at h; exact .inr ⟨hk, h⟩
  rw [List.getElem?_append_right (by rw [setAll_len]; exact h1), setAll_len, List.getElem?_drop] at h
  exact .inl ⟨_, h, by rw [nth_ge (by omega)]; omega⟩
end
section
variable {P : Program} {τ : Tab} {w0 w w' : World} {N : Gh} {g g1 : Gh} {st st' : St} {nt : Nat} {a : Act}
theorem uses_some {f : Nat → Nat} : ∀ {d : Nat} {a : AV}, uses some d a = true → uses (fun k => some (f k)) d a = true
  | 0, a, h => by cases a <;> simp_all [uses]
  | d + 1, a, h => by
    cases a with
    | st fs => simp only [uses, List.all_eq_true] at *; exact fun x hx => uses_some (h x hx)
    | tup fs => simp only [uses, List.all_eq_true] at *; exact fun x hx => uses_some (h x hx)
    | _ => simp_all [uses]
def renB (js ks : List Nat) (nb nr : Nat) (l : List (Ty × AV)) : List (Ty × AV) := l.map fun x => (x.1, ren (fun k => some (nth js nb k)) (fun k => some (nth ks nr k)) 4 x.2)
theorem Inv.call {bx bx' : List (Ty × AV)} {fz fz' : List Nat} {rw_ rw' : List (TypeId × Nat)} (h : Inv P w0 N g bx fz rw_ w) {js ks : List Nat} (h' : Inv P w (g.pick js ks) g1 bx' fz' rw' w')
    (hj : ∀ j ∈ js, j < bx.length) (hk : ∀ k ∈ ks, k < rw_.length) (nj : js.Nodup) (nk : ks.Nodup) (hu : ∀ x ∈ bx', uses some 4 x.2 = true) :
    let gm : Gh := ⟨g1.ro, mergeL g.bx js g1.bx, mergeL g.rw ks g1.rw⟩
    g.le gm ∧ Inv P w0 N gm (mergeL bx js (renB js ks bx.length rw_.length bx')) (fz ++ fz'.map (nth js bx.length)) (mergeL rw_ ks rw') w' ∧
      (∀ i x, g1.bx[i]? = some x → gm.bx[nth js bx.length i]? = some x) ∧ (∀ i x, g1.rw[i]? = some x → gm.rw[nth ks rw_.length i]? = some x) := by
  intro gm
  have lb : g.bx.length = bx.length := h.br.len
  have lr : g.rw.length = rw_.length := by rw [← h.wr, List.length_map]
  have hj' : ∀ j ∈ js, j < g.bx.length := fun j hm => by rw [lb]; exact hj j hm
  have hk' : ∀ k ∈ ks, k < g.rw.length := fun k hm => by rw [lr]; exact hk k hm
  have plen : ∀ {α : Type} {l : List α} {js : List Nat}, (∀ j ∈ js, j < l.length) → (js.filterMap (l[·]?)).length = js.length := by
    intro α l js
    induction js with
    | nil => intro _; rfl
    | cons j js ih => intro hj; rw [List.filterMap_cons, List.getElem?_eq_getElem (hj j List.mem_cons_self)]; simp [ih fun k hk => hj k (List.mem_cons_of_mem _ hk)]
  have pb : ∀ {i j : Nat} {x : Bx}, js[i]? = some j → g.bx[j]? = some x → (g.pick js ks).bx[i]? = some x := fun {i j x} hi hx => by
    show (js.filterMap (g.bx[·]?))[i]? = _
    rw [pick_get hj', hi]; exact hx
  have pr : ∀ {i j : Nat} {x : Rw}, ks[i]? = some j → g.rw[j]? = some x → (g.pick js ks).rw[i]? = some x := fun {i j x} hi hx => by
    show (ks.filterMap (g.rw[·]?))[i]? = _
    rw [pick_get hk', hi]; exact hx
  have gb : ∀ {i : Nat} {x : Bx}, (g.pick js ks).bx[i]? = some x → ∃ j, js[i]? = some j ∧ g.bx[j]? = some x := fun {i x} hx => by
    have hx' : (js.filterMap (g.bx[·]?))[i]? = some x := hx
    rw [pick_get hj'] at hx'
    exact Option.bind_eq_some_iff.1 hx'
  have gr : ∀ {i : Nat} {x : Rw}, (g.pick js ks).rw[i]? = some x → ∃ j, ks[i]? = some j ∧ g.rw[j]? = some x := fun {i x} hx => by
    have hx' : (ks.filterMap (g.rw[·]?))[i]? = some x := hx
    rw [pick_get hk'] at hx'
    exact Option.bind_eq_some_iff.1 hx'
  have hl : js.length ≤ g1.bx.length := by
    rcases Nat.lt_or_ge g1.bx.length js.length with h1 | h1
    · have h2 : g1.bx.length < (g.pick js ks).bx.length := by show _ < (js.filterMap (g.bx[·]?)).length; rw [plen hj']; exact h1
      obtain ⟨x', h3, _⟩ := h'.fr.le.bx _ _ (List.getElem?_eq_getElem h2)
      have := (List.getElem?_eq_some_iff.1 h3).1; omega
    exact h1
  have hlr : ks.length ≤ g1.rw.length := by
    rcases Nat.lt_or_ge g1.rw.length ks.length with h1 | h1
    · have h2 : g1.rw.length < (g.pick js ks).rw.length := by show _ < (ks.filterMap (g.rw[·]?)).length; rw [plen hk']; exact h1
      obtain ⟨x', h3, _⟩ := h'.fr.le.rw _ _ (List.getElem?_eq_getElem h2)
      have := (List.getElem?_eq_some_iff.1 h3).1; omega
    exact h1
  have cb : ∀ {k : Nat} {x : Bx}, gm.bx[k]? = some x → (∃ i, g1.bx[i]? = some x ∧ nth js g.bx.length i = k) ∨ (k ∉ js ∧ g.bx[k]? = some x) := fun {k x} hx => merge_cases nj hj' hl hx
  have cr : ∀ {k : Nat} {x : Rw}, gm.rw[k]? = some x → (∃ i, g1.rw[i]? = some x ∧ nth ks g.rw.length i = k) ∨ (k ∉ ks ∧ g.rw[k]? = some x) := fun {k x} hx => merge_cases nk hk' hlr hx
  have nb : ∀ {k : Nat} {x : Bx}, k ∉ js → g.bx[k]? = some x → x.off = false → ¬ (g.pick js ks).has x.blk := fun {k x} hk1 hx hxo hh => by
    rcases hh with ⟨y, hy, hyo, he⟩ | ⟨r, hr, he⟩
    · obtain ⟨i, hi⟩ := List.getElem?_of_mem hy
      obtain ⟨j, h1, h2⟩ := gb hi
      have := h.mem.bb j k y x h2 hx hyo hxo he; subst this
      exact hk1 (List.mem_of_getElem? h1)
    obtain ⟨i, hi⟩ := List.getElem?_of_mem hr
    obtain ⟨j, h1, h2⟩ := gr hi
    exact h.mem.rb k j x r hx h2 hxo he
  have nr : ∀ {k : Nat} {r : Rw} {b : Nat}, k ∉ ks → g.rw[k]? = some r → r.v.ownBlock = some b → ¬ (g.pick js ks).has b := fun {k r b} hk1 hx hb hh => by
    rcases hh with ⟨y, hy, hyo, he⟩ | ⟨s, hr, he⟩
    · obtain ⟨i, hi⟩ := List.getElem?_of_mem hy
      obtain ⟨j, h1, h2⟩ := gb hi
      exact h.mem.rb j k y r h2 hx hyo (by rw [he]; exact hb)
    obtain ⟨i, hi⟩ := List.getElem?_of_mem hr
    obtain ⟨j, h1, h2⟩ := gr hi
    have := h.mem.rr j k s r b h2 hx he hb; subst this
    exact hk1 (List.mem_of_getElem? h1)
  have ob : ∀ {i : Nat} {x : Bx}, g1.bx[i]? = some x → x.off = false → w.heap.size ≤ x.blk ∨ ∃ j y, js[i]? = some j ∧ g.bx[j]? = some y ∧ y.off = false ∧ y.blk = x.blk := fun {i x} hx hxo => by
    rcases h'.fr.bx i x hx hxo with h1 | ⟨y, h1, h2, h5⟩
    · exact .inl h1
    obtain ⟨j, h3, h4⟩ := gb h1; exact .inr ⟨j, y, h3, h4, h2, h5⟩
  have or_ : ∀ {i : Nat} {r : Rw} {b : Nat}, g1.rw[i]? = some r → r.v.ownBlock = some b → w.heap.size ≤ b ∨ ∃ j s, ks[i]? = some j ∧ g.rw[j]? = some s ∧ s.v.ownBlock = some b := fun {i r b} hx hb => by
    rcases h'.fr.rw i r b hx hb with h1 | ⟨y, h1, h2⟩
    · exact .inl h1
    obtain ⟨j, h3, h4⟩ := gr h1; exact .inr ⟨j, y, h3, h4, h2⟩
  have hN : ∀ b, b < w0.heap.size → (g.pick js ks).has b → N.has b := fun b hb hh => by
    rcases hh with ⟨y, hy, hyo, he⟩ | ⟨s, hr, he⟩
    · obtain ⟨i, hi⟩ := List.getElem?_of_mem hy
      obtain ⟨j, h1, h2⟩ := gb hi
      rcases h.fr.bx j y h2 hyo with h3 | ⟨z, h3, h4, h5⟩
      · omega
      exact .inl ⟨z, List.mem_of_getElem? h3, h4, h5.trans he⟩
    obtain ⟨i, hi⟩ := List.getElem?_of_mem hr
    obtain ⟨j, h1, h2⟩ := gr hi
    rcases h.fr.rw j s b h2 he with h3 | ⟨z, h3, h4⟩
    · omega
    exact .inr ⟨z, List.mem_of_getElem? h3, h4⟩
  have nthb : ∀ {i j : Nat}, js[i]? = some j → nth js g.bx.length i = j := fun {i j} hi => by
    have := nth_lt (n := g.bx.length) (List.getElem?_eq_some_iff.1 hi).1
    rw [hi] at this; injection this with this; exact this.symm
  have nthr : ∀ {i j : Nat}, ks[i]? = some j → nth ks g.rw.length i = j := fun {i j} hi => by
    have := nth_lt (n := g.rw.length) (List.getElem?_eq_some_iff.1 hi).1
    rw [hi] at this; injection this with this; exact this.symm
  have mb : ∀ (i : Nat) (x : Bx), g1.bx[i]? = some x → gm.bx[nth js bx.length i]? = some x := fun i x hx => by rw [← lb]; exact merge_new nj hj' hl hx
  have mr : ∀ (i : Nat) (x : Rw), g1.rw[i]? = some x → gm.rw[nth ks rw_.length i]? = some x := fun i x hx => by rw [← lr]; exact merge_new nk hk' hlr hx
  have hle : g.le gm := by
    refine ⟨h'.fr.le.ro, fun k x hx => ?_, fun k r hr => ?_⟩
    · by_cases hm : k ∈ js
      · obtain ⟨i, hi⟩ := List.getElem?_of_mem hm
        obtain ⟨x', h1, h2⟩ := h'.fr.le.bx i x (pb hi hx)
        exact ⟨x', by have := mb i x' h1; rwa [← lb, nthb hi] at this, h2⟩
      exact ⟨x, merge_old hm hx, x.same⟩
    by_cases hm : k ∈ ks
    · obtain ⟨i, hi⟩ := List.getElem?_of_mem hm
      obtain ⟨x', h1, h2⟩ := h'.fr.le.rw i r (pr hi hr)
      exact ⟨x', by have := mr i x' h1; rwa [← lr, nthr hi] at this, h2⟩
    exact ⟨r, merge_old hm hr, rfl, rfl, rfl, Nat.le_refl _, fun _ => rfl⟩
  have hkept := h'.fr.kept
  refine ⟨hle, ⟨⟨h'.mem.ro, fun k x hx hxo => ?_, fun k x hx hxo => ?_, fun k x hx hxo => ?_, fun k r hr => ?_, fun k x hx hf o u hu => ?_, fun k x hx hxo hf o => ?_, fun k l x y hx hy hxo hyo he => ?_, fun k r b hr hb o ho => ?_, fun k r b hr hb o u hu => ?_, fun k l x r hx hr hxo => ?_, fun k l r s b hr hs hb1 hb2 => ?_⟩,
    ⟨h.fr.kept.trans hkept hN, fun k x hx hxo => ?_, fun k r b hr hb => ?_, fun b hb hn o => ?_, h.fr.le.trans hle⟩, ⟨?_, fun k T b hi => ?_⟩, fun k x hx hf => ?_, ?_, fun r hr => ?_⟩, mb, mr⟩
  · rcases cb hx with ⟨i, h1, _⟩ | ⟨h1, h2⟩
    · exact h'.mem.bx i x h1 hxo
    have := h.mem.bx k x h2 hxo
    exact this.keep (hkept.block _ this.lt (nb h1 h2 hxo))
  · rcases cb hx with ⟨i, h1, _⟩ | ⟨h1, h2⟩
    · exact h'.mem.offc i x h1 hxo
    exact h.mem.offc k x h2 hxo
  · rcases cb hx with ⟨i, h1, _⟩ | ⟨h1, h2⟩
    · exact h'.mem.mpc i x h1 hxo
    exact h.mem.mpc k x h2 hxo
  · rcases cr hr with ⟨i, h1, _⟩ | ⟨h1, h2⟩
    · exact h'.mem.rw i r h1
    exact (h.mem.rw k r h2).keep fun b hb => hkept.block b ((h.mem.rw k r h2).lt hb) (nr h1 h2 hb)
  · rcases cb hx with ⟨i, h1, _⟩ | ⟨h1, h2⟩
    · exact h'.mem.fro i x h1 hf o u hu
    exact hle.ro _ _ _ (h.mem.fro k x h2 hf o u hu)
  · rcases cb hx with ⟨i, h1, _⟩ | ⟨h1, h2⟩
    · exact h'.mem.bro i x h1 hxo hf o
    exact (h'.fr.ro _ (h.mem.bx k x h2 hxo).lt (nb h1 h2 hxo) o).trans (h.mem.bro k x h2 hxo hf o)
  · rcases cb hx with ⟨i, h1, e1⟩ | ⟨h1, h2⟩ <;> rcases cb hy with ⟨i', h1', e1'⟩ | ⟨h1', h2'⟩
    · have := h'.mem.bb i i' x y h1 h1' hxo hyo he; rw [← e1, ← e1', this]
    · rcases ob h1 hxo with h3 | ⟨j, z, h3, h4, h6, h5⟩
      · have := (h.mem.bx l y h2' hyo).lt; omega
      have := h.mem.bb j l z y h4 h2' h6 hyo (h5.trans he); subst this; exact absurd (List.mem_of_getElem? h3) h1'
    · rcases ob h1' hyo with h3 | ⟨j, z, h3, h4, h6, h5⟩
      · have := (h.mem.bx k x h2 hxo).lt; omega
      have := h.mem.bb j k z x h4 h2 h6 hxo (h5.trans he.symm); subst this; exact absurd (List.mem_of_getElem? h3) h1
    exact h.mem.bb k l x y h2 h2' hxo hyo he
  · rcases cr hr with ⟨i, h1, _⟩ | ⟨h1, h2⟩
    · exact h'.mem.rro i r b h1 hb o ho
    exact (h'.fr.ro _ ((h.mem.rw k r h2).lt hb) (nr h1 h2 hb) o).trans (h.mem.rro k r b h2 hb o ho)
  · rcases cr hr with ⟨i, h1, _⟩ | ⟨h1, h2⟩
    · exact h'.mem.rwo i r b h1 hb o u hu
    exact hle.ro _ _ _ (h.mem.rwo k r b h2 hb o u hu)
  · intro he
    rcases cb hx with ⟨i, h1, _⟩ | ⟨h1, h2⟩ <;> rcases cr hr with ⟨i', h1', _⟩ | ⟨h1', h2'⟩
    · exact h'.mem.rb i i' x r h1 h1' hxo he
    · rcases ob h1 hxo with h3 | ⟨j, z, h3, h4, h6, h5⟩
      · have := (h.mem.rw l r h2').lt he; omega
      exact h.mem.rb j l z r h4 h2' h6 (by rw [he, h5])
    · rcases or_ h1' he with h3 | ⟨j, z, h3, h4, h5⟩
      · have := (h.mem.bx k x h2 hxo).lt; omega
      exact h.mem.rb k j x z h2 h4 hxo h5
    exact h.mem.rb k l x r h2 h2' hxo he
  · rcases cr hr with ⟨i, h1, e1⟩ | ⟨h1, h2⟩ <;> rcases cr hs with ⟨i', h1', e1'⟩ | ⟨h1', h2'⟩
    · have := h'.mem.rr i i' r s b h1 h1' hb1 hb2; rw [← e1, ← e1', this]
    · rcases or_ h1 hb1 with h3 | ⟨j, z, h3, h4, h5⟩
      · have := (h.mem.rw l s h2').lt hb2; omega
      have := h.mem.rr j l z s b h4 h2' h5 hb2; subst this; exact absurd (List.mem_of_getElem? h3) h1'
    · rcases or_ h1' hb2 with h3 | ⟨j, z, h3, h4, h5⟩
      · have := (h.mem.rw k r h2).lt hb1; omega
      have := h.mem.rr j k z r b h4 h2 h5 hb1; subst this; exact absurd (List.mem_of_getElem? h3) h1
    exact h.mem.rr k l r s b h2 h2' hb1 hb2
  · rcases cb hx with ⟨i, h1, e1⟩ | ⟨h1, h2⟩
    · rcases ob h1 hxo with h3 | ⟨j, z, h3, h4, h6, h5⟩
      · exact .inl (Nat.le_trans h.fr.kept.size h3)
      rw [← e1, nthb h3, ← h5]; exact h.fr.bx j z h4 h6
    exact h.fr.bx k x h2 hxo
  · rcases cr hr with ⟨i, h1, e1⟩ | ⟨h1, h2⟩
    · rcases or_ h1 hb with h3 | ⟨j, z, h3, h4, h5⟩
      · exact .inl (Nat.le_trans h.fr.kept.size h3)
      rw [← e1, nthr h3]; exact h.fr.rw j z b h4 h5
    exact h.fr.rw k r b h2 hb
  · have := h.fr.kept.size
    exact (h'.fr.ro b (by omega) (fun hh => hn (hN b hb hh)) o).trans (h.fr.ro b hb hn o)
  · show (mergeL g.bx js g1.bx).length = _
    unfold mergeL renB
    rw [List.length_append, List.length_append, setAll_len, setAll_len, List.length_drop, List.length_drop, List.length_map, lb, h'.br.len]
  · have hl2 : js.length ≤ (renB js ks bx.length rw_.length bx').length := by unfold renB; rw [List.length_map, ← h'.br.len]; exact hl
    rcases merge_cases nj hj hl2 hi with ⟨i, h1, e1⟩ | ⟨h1, h2⟩
    · unfold renB at h1
      rw [List.getElem?_map] at h1
      obtain ⟨y, hy, e⟩ := Option.map_eq_some_iff.1 h1
      simp only [Prod.mk.injEq] at e
      obtain ⟨rfl, rfl⟩ := e
      obtain ⟨x, h3, h4, h5⟩ := h'.br.at_ i y.1 y.2 hy
      refine ⟨x, by rw [← e1]; exact mb i x h3, h4, ?_⟩
      exact h5.of_rc (g := g1) (g' := gm) rfl (fun h5 => h5.ren_ (g1 := g1) (g2 := gm) (fb := fun k => some (nth js bx.length k)) rfl (fun i j x hij hx => by injection hij with hij; subst hij; exact mb i x hx) (fun i j x hij hx => by injection hij with hij; subst hij; exact mr i x hx) (uses_some (hu y (List.mem_of_getElem? hy)))) (fun hg => ren_grows (h5.grown hg))
    obtain ⟨x, h3, h4, h5⟩ := h.br.at_ k T b h2
    exact ⟨x, merge_old h1 h3, h4, h5.mono hle⟩
  · rcases cb hx with ⟨i, h1, e1⟩ | ⟨h1, h2⟩
    · exact List.mem_append_right _ (List.mem_map.2 ⟨i, h'.fz i x h1 hf, by rw [← lb]; exact e1⟩)
    exact List.mem_append_left _ (h.fz k x h2 hf)
  · show (mergeL g.rw ks g1.rw).map _ = _
    rw [mergeL_map, h.wr, h'.wr]
  obtain ⟨k, hk2⟩ := List.getElem?_of_mem hr
  rcases cr hk2 with ⟨i, h1, _⟩ | ⟨_, h2⟩
  · exact h'.wz r (List.mem_of_getElem? h1)
  exact h.wz r (List.mem_of_getElem? h2)
def okSel : List Nat → Nat → Bool
  | [], _ => true
  | j :: js, n => decide (j < n) && !js.contains j && okSel js n
theorem okSel_ok {n : Nat} : ∀ {js : List Nat}, okSel js n = true → (∀ j ∈ js, j < n) ∧ js.Nodup
  | [], _ => ⟨fun j h => (by cases h), List.nodup_nil⟩
  | j :: js, h => by
    simp only [okSel, Bool.and_eq_true, decide_eq_true_eq, Bool.not_eq_true'] at h
    obtain ⟨h1, h2⟩ := okSel_ok h.2
    refine ⟨fun k hk => ?_, List.nodup_cons.2 ⟨fun hm => ?_, h2⟩⟩
    · rcases List.mem_cons.1 hk with rfl | hk
      · exact h.1.1
      exact h1 k hk
    have : js.contains j = true := by simpa using hm
    rw [this] at h; exact absurd h.1.2 (by simp)
def fzOk : List Nat → List Nat → List Nat → Nat → Bool
  | [], _, _, _ => true
  | j :: js, fz, fz2, i => (!fz.contains j || fz2.contains i) && fzOk js fz fz2 (i + 1)
theorem fzOk_ok {fz fz2 : List Nat} : ∀ {js : List Nat} {n : Nat}, fzOk js fz fz2 n = true → ∀ i j, js[i]? = some j → j ∈ fz → n + i ∈ fz2
  | [], _, _, i, j, h, _ => by simp at h
  | k :: js, n, h, i, j, hi, hm => by
    simp only [fzOk, Bool.and_eq_true, Bool.or_eq_true, Bool.not_eq_true'] at h
    cases i with
    | zero =>
      simp at hi; subst hi
      rcases h.1 with h1 | h1
      · have : fz.contains k = true := by simpa using hm
        rw [this] at h1; cases h1
      simpa using h1
    | succ i =>
      have := fzOk_ok h.2 i j (by simpa using hi) hm
      rw [show n + (i + 1) = n + 1 + i by omega]; exact this
def usesB (js : List Nat) (bx : List (Ty × AV)) : Bool := js.all fun j => match bx[j]? with | some x => uses (idx? js) 4 x.2 | none => false
theorem usesB_ok {js : List Nat} {bx : List (Ty × AV)} (h : usesB js bx = true) : ∀ j ∈ js, ∀ x, bx[j]? = some x → uses (idx? js) 4 x.2 = true := fun j hj x hx => by
  have := List.all_eq_true.1 h j hj
  rw [hx] at this; exact this
def argOk (js : List Nat) (x : AV) : Bool := uses (idx? js) 4 x && !isAny x && (match x with | .tup _ => false | _ => true)
def cargs (st : St) (js ks : List Nat) (xs : List Operand) : List AV := xs.map fun x => ren (idx? js) (idx? ks) 4 (st.ev none x)
theorem allP_get {p : AV → AV → Prop} : ∀ {l m : List AV}, allP p l m → l.length = m.length ∧ ∀ (i : Nat) b, m[i]? = some b → ∃ a, l[i]? = some a ∧ p a b
  | [], [], _ => ⟨rfl, fun i b h => by simp at h⟩
  | a :: l, b :: m, h => by
    obtain ⟨h1, h2⟩ := allP_get h.2
    refine ⟨by simp [h1], fun i c hc => ?_⟩
    cases i with
    | zero => simp at hc; subst hc; exact ⟨a, by simp, h.1⟩
    | succ i => simpa using h2 i c (by simpa using hc)
theorem ren_tup {fb fr : Nat → Option Nat} {d : Nat} {x : AV} (h : ∀ az, x ≠ .tup az) : ∀ az, ren fb fr d x ≠ .tup az := by
  intro az
  cases x <;> cases d <;> simp [ren] at * <;> exact h _ rfl
theorem ren_any {fb fr : Nat → Option Nat} {d : Nat} {x : AV} (h : isAny x = false) : isAny (ren fb fr d x) = false := by
  cases x <;> cases d <;> simp_all [ren, isAny]
theorem cargs_ok (HI : Inv P w0 N g st.bx st.fz st.rw w) (hF : FR g nt st a) {js ks : List Nat} (hj : ∀ j ∈ js, j < st.bx.length) (hk : ∀ k ∈ ks, k < st.rw.length) {xs : List Operand} {args : List AV} (hx : xs.all (fun x => argOk js (st.ev none x)) = true) (ha : allP (sub 4) (cargs st js ks xs) args) :
    args.length = xs.length ∧ ∀ (i : Nat) x v, args[i]? = some x → (xs.map a.eval)[i]? = some v → RV (g.pick js ks) x v := by
  obtain ⟨h1, h2⟩ := allP_get ha
  refine ⟨by rw [← h1]; simp [cargs], fun i x v hi hv => ?_⟩
  obtain ⟨y, hy, hs⟩ := h2 i x hi
  unfold cargs at hy
  rw [List.getElem?_map] at hy hv
  obtain ⟨o, ho, rfl⟩ := Option.map_eq_some_iff.1 hy
  rw [ho] at hv
  simp only [Option.map_some, Option.some.injEq] at hv
  subst hv
  have hc := List.all_eq_true.1 hx o (List.mem_of_getElem? ho)
  simp only [argOk, Bool.and_eq_true, Bool.not_eq_true'] at hc
  have hr := ev_sound hF (c := none) trivial o
  have hlr : g.rw.length = st.rw.length := by rw [← HI.wr, List.length_map]
  have hp := hr.pick_ (js := js) (ks := ks) (d := 3) (fun j hm => by rw [HI.br.len]; exact hj j hm) (fun k hm => by rw [hlr]; exact hk k hm) hc.1.1
  have ht : ∀ az, st.ev none o ≠ .tup az := fun az e => by rw [e] at hc; simp at hc
  exact ((hp.rv1 (ren_any hc.1.2) (ren_tup ht)).sub_ hs).rv
theorem run_callF {f : FuncId} (hf : Fok P f) (xs : List Operand) (ats : Array TypeId) {o : Oper} (ho : o.op = .call ⟨.value (.func f), xs.toArray, ats⟩) (w : World) : (execOp a.eval o).run P w = .ok (.enter f (xs.map a.eval).toArray) w := by
  obtain ⟨fn, h1, h2, h3⟩ := hf
  have h2' : fn.name ≠ "runtime.NumGoroutine" := by simpa using h2
  have h3' : fn.body ≠ none := by intro e; rw [e] at h3; cases h3
  unfold execOp
  simp [ho, resolve, invoke, Act.eval, Deferred.ofValue, callFunc, h1, h2', h3']
theorem v_call {ops : Array Oper} {Q : Exit → Act → World → Prop} {rest : List Oper} {o : Oper} {f : FuncId} {xs : List Operand} {ats : Array TypeId} {bxc bx' : List (Ty × AV)} {fzc fz' : List Nat} {rwc rw' : List (TypeId × Nat)} {args : List AV} {res : AV} (js ks : List Nat)
    (hc : VX P f bxc fzc rwc args bx' fz' rw' res) (H : Rel P w0 N nt st a w)
    (hgd : o.guard = none) (ho : o.op = .call ⟨.value (.func f), xs.toArray, ats⟩) (hchk : (okSel js st.bx.length && okSel ks st.rw.length && usesB js st.bx && fzOk js st.fz fzc 0 && xs.all (fun x => argOk js (st.ev none x)) && uses some 4 res && bx'.all (fun x => uses some 4 x.2) && okDst nt none o.dst) = true)
    (hb : bxs (pickB js ks st.bx) bxc) (hr : ks.filterMap (st.rw[·]?) = rwc) (ha : allP (sub 4) (cargs st js ks xs) args)
    (k : ∀ a w, Rel P w0 N nt ((⟨st.t, mergeL st.bx js (renB js ks st.bx.length st.rw.length bx'), st.fz ++ fz'.map (nth js st.bx.length), mergeL st.rw ks rw'⟩ : St).put o.dst none (ren (fun k => some (nth js st.bx.length k)) (fun k => some (nth ks st.rw.length k)) 4 res)) a w → wpList P ops Q rest a w) : wpList P ops Q (o :: rest) a w := by
  obtain ⟨hfok, hcall⟩ := hc
  obtain ⟨g, HI, hF⟩ := H
  simp only [Bool.and_eq_true] at hchk
  obtain ⟨⟨⟨⟨⟨⟨⟨c1, c2⟩, c3⟩, c4⟩, c5⟩, c6⟩, c7⟩, c8⟩ := hchk
  obtain ⟨hj, nj⟩ := okSel_ok c1
  obtain ⟨hk, nk⟩ := okSel_ok c2
  obtain ⟨h1, h2⟩ := cargs_ok HI hF hj hk c5 ha
  refine wpList_plain hgd fun K hK => ?_
  unfold Oper.wp
  rw [run_callF hfok xs ats ho w, Oper.upon_enter]
  have HP : Inv P w (g.pick js ks) (g.pick js ks) bxc fzc rwc w := HI.pick js ks hj hk nj nk (usesB_ok c3) hb (fun i j hi hm => by simpa using fzOk_ok c4 i j hi hm) hr
    ⟨Kept.refl _ _, fun i x hx hxo => .inr ⟨x, hx, hxo, rfl⟩, fun i r k hr hrk => .inr ⟨r, hr, hrk⟩, fun _ _ _ _ => rfl, Gh.le.refl _⟩
  refine (hcall w (g.pick js ks) (xs.map a.eval) HP (by simp [h1]) h2).mono fun e w' hp => ?_
  obtain ⟨g1, v, rfl, HI1, hv⟩ := hp
  obtain ⟨k1, k2, k3, k4⟩ := HI.call HI1 hj hk nj nk (fun x hx => List.all_eq_true.1 c7 x hx)
  have hv' := hv.ren_ (g1 := g1) (g2 := ⟨g1.ro, mergeL g.bx js g1.bx, mergeL g.rw ks g1.rw⟩) (fb := fun k => some (nth js st.bx.length k)) (fr := fun k => some (nth ks st.rw.length k)) (d := 3) rfl (fun i j x hij hx => by injection hij with hij; subst hij; exact k3 i x hx) (fun i j x hij hx => by injection hij with hij; subst hij; exact k4 i x hx) (uses_some c6)
  refine hK _ _ (k _ _ ⟨_, ?_, (hF.mono k1).put c8 (fun _ => hv') rfl (fun h => absurd trivial h)⟩)
  cases o.dst <;> exact k2
def resC (τ : Tab) (st : St) (p : Tmp) (t : TypeId) : AV :=
  match ld τ st.bx t (st.tmp none p) with
  | some (x, _) => x
  | none => .any
def resv (τ : Tab) (st : St) : ResultVar → AV
  | .tmp t => st.tmp none t
  | .cell p t => resC τ st p t
theorem resv_sound (hτ : τ.ok P) (HI : Inv P w0 N g st.bx st.fz st.rw w) (hF : FR g nt st a) (x : ResultVar) (hx : isAny (resv τ st x) = false) : ∃ v, (match x with
    | .tmp t => (pure (a.tmps.getD t undef) : Sem Value)
    | .cell p t => (do loadVar t (← asAddr (a.tmps.getD p undef)) : Sem Value)).run P w = .ok v w ∧ RV g (resv τ st x) v := by
  cases x with
  | tmp t => exact ⟨_, rfl, tmp_sound hF (c := none) trivial t⟩
  | cell p t =>
    show ∃ v, (do loadVar t (← asAddr (a.tmps.getD p undef)) : Sem Value).run P w = .ok v w ∧ RV g (resC τ st p t) v
    have hx' : isAny (resC τ st p t) = false := hx
    unfold resC at hx' ⊢
    cases hl : ld τ st.bx t (st.tmp none p) with
    | none => rw [hl] at hx'; simp [isAny] at hx'
    | some q =>
      obtain ⟨x, c⟩ := q
      have hp := tmp_sound hF (c := none) trivial p
      obtain ⟨z, h1, h2⟩ := ld_sound (P := P) hτ HI.br hl hp
      refine ⟨z, ?_, h1⟩
      have h3 := h2 w HI.mem
      generalize hu : a.tmps.getD p undef = u at h3 ⊢
      cases u with
      | pointer q => cases q with
        | some q => simpa [Instr.loadAt, Instr.sureAddr, asAddr] using h3
        | none => simp [Instr.loadAt, Instr.sureAddr] at h3
      | _ => simp [Instr.loadAt, Instr.sureAddr] at h3
def tupOf : List AV → AV
  | [x] => x
  | l => .tup l
def preOk (js : List Nat) (n : Nat) : Bool := (List.range n).all fun j => js[j]? == some j
theorem preOk_ok {js : List Nat} {n : Nat} (h : preOk js n = true) : ∀ j, j < n → js[j]? = some j := fun j hj => by
  have := List.all_eq_true.1 h j (List.mem_range.2 hj)
  simpa using this
theorem v_end {fn : Func} {rs : List ResultVar} {nb nr : Nat} (js ks : List Nat) (hτ : τ.ok P) (hM : N.bx.length ≤ nb ∧ N.rw.length ≤ nr) (hr : fn.results = rs.toArray) (H : Rel P w0 N nt st a w)
    (hchk : (okSel js st.bx.length && okSel ks st.rw.length && usesB js st.bx && preOk js nb && preOk ks nr && rs.all (fun x => argOk js (resv τ st x))) = true)
    {bx' : List (Ty × AV)} {fz' : List Nat} {rw' : List (TypeId × Nat)} {ress : List AV} {res : AV} (hf : fzOk js st.fz fz' 0 = true) (hb : bxs (pickB js ks st.bx) bx') (hw : ks.filterMap (st.rw[·]?) = rw')
    (he : allP (sub 4) (rs.map fun x => ren (idx? js) (idx? ks) 4 (resv τ st x)) ress) (ht : tupOf ress = res) :
    a.defers = [] ∧ ∃ v, (results fn a.tmps).run P w = .ok v w ∧ VPost P w0 N bx' fz' rw' res (.returned v) w := by
  subst ht
  obtain ⟨g, HI, hF⟩ := H
  simp only [Bool.and_eq_true] at hchk
  obtain ⟨⟨⟨⟨⟨c1, c2⟩, c3⟩, c4⟩, c5⟩, c6⟩ := hchk
  obtain ⟨hj, nj⟩ := okSel_ok c1
  obtain ⟨hk, nk⟩ := okSel_ok c2
  have hlr : g.rw.length = st.rw.length := by rw [← HI.wr, List.length_map]
  have hj' : ∀ j ∈ js, j < g.bx.length := fun j hm => by rw [HI.br.len]; exact hj j hm
  have hk' : ∀ k ∈ ks, k < g.rw.length := fun k hm => by rw [hlr]; exact hk k hm
  have p1 := fun j hj => preOk_ok c4 j (Nat.lt_of_lt_of_le hj hM.1)
  have p2 := fun j hj => preOk_ok c5 j (Nat.lt_of_lt_of_le hj hM.2)
  have hfr : Fr w0 N (g.pick js ks) w := by
    refine ⟨HI.fr.kept, fun i x hx hxo => ?_, fun i r k hr hrk => ?_, HI.fr.ro, ⟨HI.fr.le.ro, fun i x hx => ?_, fun i r hr => ?_⟩⟩
    · have hx' : (js.filterMap (g.bx[·]?))[i]? = some x := hx
      rw [pick_get hj'] at hx'
      obtain ⟨j, h1, h2⟩ := Option.bind_eq_some_iff.1 hx'
      rcases HI.fr.bx j x h2 hxo with h3 | ⟨y, h3, h4⟩
      · exact .inl h3
      have := nodup_get nj h1 (p1 j (List.getElem?_eq_some_iff.1 h3).1); subst this
      exact .inr ⟨y, h3, h4⟩
    · have hx' : (ks.filterMap (g.rw[·]?))[i]? = some r := hr
      rw [pick_get hk'] at hx'
      obtain ⟨j, h1, h2⟩ := Option.bind_eq_some_iff.1 hx'
      rcases HI.fr.rw j r k h2 hrk with h3 | ⟨y, h3, h4⟩
      · exact .inl h3
      have := nodup_get nk h1 (p2 j (List.getElem?_eq_some_iff.1 h3).1); subst this
      exact .inr ⟨y, h3, h4⟩
    · obtain ⟨x', h1, h2⟩ := HI.fr.le.bx i x hx
      refine ⟨x', ?_, h2⟩
      show (js.filterMap (g.bx[·]?))[i]? = _
      rw [pick_get hj', p1 i (List.getElem?_eq_some_iff.1 hx).1]; exact h1
    obtain ⟨x', h1, h2⟩ := HI.fr.le.rw i r hr
    refine ⟨x', ?_, h2⟩
    show (ks.filterMap (g.rw[·]?))[i]? = _
    rw [pick_get hk', p2 i (List.getElem?_eq_some_iff.1 hr).1]; exact h1
  have HP : Inv P w0 N (g.pick js ks) bx' fz' rw' w := HI.pick js ks hj hk nj nk (usesB_ok c3) hb (fun i j hi hm => by simpa using fzOk_ok hf i j hi hm) hw hfr
  have key : ∀ (l : List ResultVar) (ress : List AV), l.all (fun x => argOk js (resv τ st x)) = true → allP (sub 4) (l.map fun x => ren (idx? js) (idx? ks) 4 (resv τ st x)) ress → ∃ vs : List Value, (l.mapM fun x : ResultVar => (match x with
      | .tmp t => pure (a.tmps.getD t undef)
      | .cell p t => (do loadVar t (← asAddr (a.tmps.getD p undef))) : Sem Value)).run P w = .ok vs w ∧ vs.length = l.length ∧ vs.length = ress.length ∧ ∀ (i : Nat) x v, ress[i]? = some x → vs[i]? = some v → RV1 (g.pick js ks) x v := by
    intro l
    induction l with
    | nil => intro ress _ he; cases ress with
      | nil => exact ⟨[], rfl, rfl, rfl, fun i x v h => by simp at h⟩
      | cons _ _ => exact he.elim
    | cons x l ih =>
      intro ress hp he
      cases ress with
      | nil => exact he.elim
      | cons y ress =>
      simp only [List.all_cons, Bool.and_eq_true] at hp
      obtain ⟨vs, h1, h2, h2', h3⟩ := ih ress hp.2 he.2
      have hc := hp.1
      simp only [argOk, Bool.and_eq_true, Bool.not_eq_true'] at hc
      obtain ⟨v, h4, h5⟩ := resv_sound (P := P) hτ HI hF x hc.1.2
      have ht : ∀ az, resv τ st x ≠ .tup az := fun az e => by rw [e] at hc; simp at hc
      have h6 := ((h5.pick_ (d := 3) hj' hk' hc.1.1).rv1 (ren_any hc.1.2) (ren_tup ht)).sub_ he.1
      refine ⟨v :: vs, ?_, by simp [h2], by simp [h2'], fun i z u hz hu => ?_⟩
      · rw [List.mapM_cons]
        simp only [Sem.run_bind, h4, Result.andThen_ok, h1, Sem.run_pure]
      cases i with
      | zero =>
        simp only [List.getElem?_cons_zero, Option.some.injEq] at hz hu
        subst hz hu; exact h6
      | succ i => exact h3 i z u (by simpa using hz) (by simpa using hu)
  obtain ⟨vs, h1, h2, h2', h3⟩ := key rs ress c6 he
  have hres : (results fn a.tmps).run P w = .ok (if h : vs.length = 1 then vs[0] else .tuple vs.toArray) w := by
    have e : results fn a.tmps = (do
        let vs ← rs.toArray.mapM fun x : ResultVar => (match x with
          | .tmp t => pure (a.tmps.getD t undef)
          | .cell p t => (do loadVar t (← asAddr (a.tmps.getD p undef))) : Sem Value)
        pure (if h : vs.size = 1 then vs[0] else .tuple vs)) := by unfold results; rw [hr]; rfl
    rw [e]
    simp only [Sem.run_bind, Array.mapM_eq_mapM_toList, Sem.run_map]
    rw [h1]
    simp
  refine ⟨hF.df, _, hres, ⟨_, _, rfl, HP, ?_⟩⟩
  by_cases hl : vs.length = 1
  · rw [dif_pos hl]
    obtain ⟨x, rfl⟩ : ∃ x, ress = [x] := by
      match ress, h2' with
      | [x], _ => exact ⟨x, rfl⟩
      | [], h => simp at h; rw [h] at hl; cases hl
      | x :: y :: l, h => simp at h; omega
    exact (h3 0 _ _ rfl (List.getElem?_eq_getElem (by omega))).rv
  rw [dif_neg hl]
  have htu : tupOf ress = .tup ress := by
    match ress, h2' with
    | [x], h => simp at h; exact absurd h hl
    | [], h => rfl
    | x :: y :: l, h => rfl
  rw [htu]
  exact ⟨vs, rfl, h2', fun i x u hx hu => h3 i x u hx hu⟩
end
end Go.Proofs.YtgffimanhmpohaaGreat
