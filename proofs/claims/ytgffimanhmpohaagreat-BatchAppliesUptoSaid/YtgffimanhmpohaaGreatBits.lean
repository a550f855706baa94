/- The slab of a store's nodes: what lies in memory; none, at, Get, Set, Take, New. -/
import Derived.Test.YtgffimanhmpohaaGreatZa
import Derived.Test.YtgffimanhmpohaaGreatA1
import Derived.BigQuiet
import Derived.BigRegion
import Derived.Deep.Draws
import Derived.Deep.LoopGhost
import Derived.Outline
import Derived.Lib.Hide
import Derived.Test.YtgffimanhmpohaaGreatA4
import Derived.Laws.BitsAllLaws
import Derived.Lib.BitFns
set_option linter.unusedSimpArgs false
set_option linter.unusedVariables false
namespace Go.Proofs.YtgffimanhmpohaaGreat
open Go Go.RowKit
structure SN where
  dg : List UInt8
  k : UInt8
  d : Int
  key : List UInt8
  val : List UInt8
  hs : List UInt8
  l : Int
  r : Int
  sz : Int
  hd : Int
structure SN.wf (n : SN) : Prop where
  dg : n.dg.length = 32
  key : n.key.length = 32
  hs : n.hs.length = 32
def SN.av (n : SN) : AV := .st [.st [.ba n.dg], .v (B8 n.k), .v (.int .i64 n.d), .ba n.key, .bs n.val none, .ba n.hs, .v (.int .i64 n.l), .v (.int .i64 n.r), .v (.int .i64 n.sz), .v (.int .i64 n.hd)]
def SN.zero : SN := ⟨List.replicate 32 0, 0, 0, List.replicate 32 0, [], List.replicate 32 0, 0, 0, 0, 0⟩
theorem SN.zero_wf : SN.zero.wf := ⟨List.length_replicate, List.length_replicate, List.length_replicate⟩
def zNd : AV := .st [.st [.ba (List.replicate 32 0)], .v (.int .u8 0), .v (.int .i64 0), .ba (List.replicate 32 0), .v (.slice none 0 0), .ba (List.replicate 32 0), .v (.int .i64 0), .v (.int .i64 0), .v (.int .i64 0), .v (.int .i64 0)]
def slA : Option (SN × Nat) → AV
  | some (n, c) => .st [n.av, .v (.int .i64 (c : Int))]
  | none => .st [zNd, .v (.int .i64 0)]
def inA (n : Int) : AV := .v (.int .i64 n)
abbrev sltT : Ty := ti148.ty
abbrev slbT : Ty := ti124.ty
abbrev sndT : Ty := ti81.ty
structure Slb where
  γ : Nat
  δ : Nat
  sl : List (Option (SN × Nat))
  fs : List Int
  m : Nat
  room : Nat
  used : Nat
abbrev slbB (γ δ n m room used : Nat) (es fs : List AV) : List (Ty × AV) := [(slbT, .st [.vw 1 γ n, .vw 2 δ m, .v (.int .i64 (room : Int)), .v (.int .i64 (used : Int))]), (.vc 148 sltT, .vc γ es), (.vc 3 .sc, .vc δ fs)]
abbrev Slb.bx (s : Slb) : List (Ty × AV) := slbB s.γ s.δ s.sl.length s.m s.room s.used (s.sl.map slA) (s.fs.map inA)
structure Slb.wf (s : Slb) : Prop where
  room : 0 < s.room ∧ s.room ≤ 65536
  len : s.sl.length ≤ 65536
  pos : ∀ x c, some (x, c) ∈ s.sl → 0 < c ∧ c ≤ 1073741824 ∧ x.wf
def Slb.at_ (s : Slb) (h : Int) : Option (SN × Nat) := if 1 ≤ h then (s.sl[(h - 1).toNat]?).join else none
def Slb.get_ (s : Slb) (h : Int) : SN := match s.at_ h with
  | some (x, _) => x
  | none => SN.zero
def Slb.ok_ (s : Slb) (h : Int) : Bool := (s.at_ h).isSome
def Slb.set_ (s : Slb) (h : Int) (n : SN) : Slb := match s.at_ h with
  | some (_, c) => { s with sl := s.sl.set (h - 1).toNat (some (n, c)) }
  | none => s
def Slb.push (s : Slb) (n : SN) : Slb := { s with γ := s.γ + 1, sl := s.sl ++ [some (n, 1)], used := s.used + 1 }
theorem Slb.at_some {s : Slb} {h : Int} {x : SN} {c : Nat} (hh : s.at_ h = some (x, c)) : ∃ i : Nat, h = (i : Int) + 1 ∧ i < s.sl.length ∧ s.sl[i]? = some (some (x, c)) := by
  unfold Slb.at_ at hh
  split at hh
  · refine ⟨(h - 1).toNat, by omega, ?_⟩
    cases hg : s.sl[(h - 1).toNat]? with
    | none => rw [hg] at hh; cases hh
    | some y => rw [hg] at hh; exact ⟨(List.getElem?_eq_some_iff.1 hg).1, congrArg some hh⟩
  cases hh
theorem Slb.at_pos {s : Slb} (hs : s.wf) {h : Int} {x : SN} {c : Nat} (hh : s.at_ h = some (x, c)) : 0 < c ∧ c ≤ 1073741824 ∧ x.wf := by
  obtain ⟨i, _, _, hi⟩ := Slb.at_some hh
  exact hs.pos x c (List.mem_of_getElem? hi)
theorem Slb.at_none {s : Slb} {h : Int} (hh : s.at_ h = none) : h < 1 ∨ (s.sl.length : Int) < h ∨ ∃ i : Nat, h = (i : Int) + 1 ∧ i < s.sl.length ∧ s.sl[i]? = some none := by
  unfold Slb.at_ at hh
  split at hh
  · by_cases hl : (s.sl.length : Int) < h
    · exact .inr (.inl hl)
    have hi : (h - 1).toNat < s.sl.length := by omega
    refine .inr (.inr ⟨(h - 1).toNat, by omega, hi, ?_⟩)
    rw [List.getElem?_eq_getElem hi] at hh ⊢
    exact congrArg some hh
  exact .inl (by omega)
theorem sl_get (sl : List (Option (SN × Nat))) (i : Nat) (x : Option (SN × Nat)) (h : sl[i]? = some x) : (sl.map slA).getD i .any = slA x := by
  rw [List.getD_eq_getElem?_getD, List.getElem?_map, h]; rfl
theorem slbNone_v (γ δ n m room used : Nat) (es fs : List AV) (h : 0 < room) :
    VX Tryz.prog 73 (slbB γ δ n m room used es fs) [] [] [.ptr 0 []] (slbB γ δ n m room used es fs) [] [] (.v (.bool false)) := by
  have hr : decide ((room : Int) = 0) = false := decide_eq_false (by omega)
  refine mE Tryz.func73 ?_; intro N w0 a w hN hR H
  have hX := @hr
  refine mW ?_; clear H; intro a w H
  refine wp_ret ?_; exact mEnd [0, 1, 2] [] [.tmp 2] [_] hN hR H
set_option maxRecDepth 20000 in
set_option maxHeartbeats 4000000 in
theorem slbAt_ok (γ δ m room used : Nat) (sl : List (Option (SN × Nat))) (fs : List AV) (h : 0 < room) (i : Nat) (x : SN) (c : Nat) (hx : sl[i]? = some (some (x, c))) (hc : 0 < c) (hl : sl.length ≤ 65536) :
    VX Tryz.prog 85 (slbB γ δ sl.length m room used (sl.map slA) fs) [] [] [.ptr 0 [], .v (.int .i64 ((i : Int) + 1))] (slbB γ δ sl.length m room used (sl.map slA) fs) [] [] (.pv 1 γ i []) := by
  have hg := sl_get sl i _ hx
  simp only [slA, SN.av] at hg
  have hi : i < sl.length := (List.getElem?_eq_some_iff.1 hx).1
  have hn := slbNone_v γ δ sl.length m room used (sl.map slA) fs h
  have hml : (sl.map slA).length = sl.length := List.length_map ..
  have d1 : decide ((i : Int) + 1 < 1) = false := decide_eq_false (by omega)
  have d2 : decide ((sl.length : Int) < (i : Int) + 1) = false := decide_eq_false (by omega)
  have d3 : decide ((c : Int) = 0) = false := decide_eq_false (by omega)
  have e1 : ((i : Int) + 1 - 1).toNat = i := by omega
  generalize sl.map slA = es at *
  refine mE Tryz.func85 ?_; intro N w0 a w hN hR H
  refine mW ?_; clear H; intro a w H
  refine mCall [0, 1, 2] [] (hn) H ?_; clear H; intro a w H; try refine wpList_nil ?_
  have hX := And.intro @hml (And.intro @d1 (And.intro @d2 (And.intro @d3 (And.intro @e1 (@hg)))))
  (try refine wp_region_lit ?_); refine mN 3 hN H ?_; clear H; intro a w H
  (try refine wp_region_lit ?_); refine mN 9 hN H ?_; clear H; intro a w H
  (try refine wp_region_lit ?_); refine mN 9 hN H ?_; clear H; intro a w H
  (try refine wp_region_lit ?_); refine mN 2 hN H ?_; clear H; intro a w H
  refine mW ?_; clear H; intro a w H
  refine mC H (fun hb => ?_) (fun hb => ?_)
  · exact absurd hb (by decide)
  clear hb
  refine mW ?_; clear H; intro a w H
  refine wp_ret ?_; exact mEnd [0, 1, 2] [] [.tmp 4] [_] hN hR H
set_option maxRecDepth 20000 in
set_option maxHeartbeats 4000000 in
theorem slbAt_no (γ δ m room used : Nat) (sl : List (Option (SN × Nat))) (fs : List AV) (hr : 0 < room) (h : Int) (hl : sl.length ≤ 65536) (hh : h < 1 ∨ (sl.length : Int) < h ∨ ∃ i : Nat, h = (i : Int) + 1 ∧ i < sl.length ∧ sl[i]? = some none) :
    VX Tryz.prog 85 (slbB γ δ sl.length m room used (sl.map slA) fs) [] [] [.ptr 0 [], .v (.int .i64 h)] (slbB γ δ sl.length m room used (sl.map slA) fs) [] [] (.v (.pointer none)) := by
  have hn := slbNone_v γ δ sl.length m room used (sl.map slA) fs hr
  have hml : (sl.map slA).length = sl.length := List.length_map ..
  by_cases h1 : h < 1
  · have d1 : decide (h < 1) = true := decide_eq_true h1
    clear hh
    generalize sl.map slA = es at *
    refine mE Tryz.func85 ?_; intro N w0 a w hN hR H
    refine mW ?_; clear H; intro a w H
    refine mCall [0, 1, 2] [] (hn) H ?_; clear H; intro a w H; try refine wpList_nil ?_
    have hX := And.intro @hml (@d1)
    (try refine wp_region_lit ?_); refine mN 3 hN H ?_; clear H; intro a w H
    (try refine wp_region_lit ?_); refine mN 9 hN H ?_; clear H; intro a w H
    (try refine wp_region_lit ?_); refine mN 8 hN H ?_; clear H; intro a w H
    refine mSk (.v (.int .i64 0)) H ?_; clear H; intro a w H
    refine mSk (.v (.int .i64 0)) H ?_; clear H; intro a w H
    refine mSk (.v (.int .i64 0)) H ?_; clear H; intro a w H
    refine mSk (.v (.bool false)) H ?_; clear H; intro a w H
    refine mW ?_; clear H; intro a w H
    refine mC H (fun hb => ?_) (fun hb => ?_)
    · refine mW ?_; clear H; intro a w H
      refine wp_ret ?_; exact mEnd [0, 1, 2] [] [.tmp 4] [_] hN hR H
    exact absurd hb (by decide)
  have d1 : decide (h < 1) = false := decide_eq_false h1
  by_cases h2 : (sl.length : Int) < h
  · have d2 : decide ((sl.length : Int) < h) = true := decide_eq_true h2
    clear hh
    generalize sl.map slA = es at *
    refine mE Tryz.func85 ?_; intro N w0 a w hN hR H
    have hX := And.intro @hml (@d1)
    refine mW ?_; clear H; intro a w H
    refine mCall [0, 1, 2] [] (hn) H ?_; clear H; intro a w H; try refine wpList_nil ?_
    clear hX; have hX := And.intro @hml (And.intro @d1 (@d2))
    (try refine wp_region_lit ?_); refine mN 3 hN H ?_; clear H; intro a w H
    (try refine wp_region_lit ?_); refine mN 9 hN H ?_; clear H; intro a w H
    (try refine wp_region_lit ?_); refine mN 8 hN H ?_; clear H; intro a w H
    refine mSk (.v (.int .i64 0)) H ?_; clear H; intro a w H
    refine mSk (.v (.int .i64 0)) H ?_; clear H; intro a w H
    refine mSk (.v (.int .i64 0)) H ?_; clear H; intro a w H
    refine mSk (.v (.bool false)) H ?_; clear H; intro a w H
    refine mW ?_; clear H; intro a w H
    refine mC H (fun hb => ?_) (fun hb => ?_)
    · refine mW ?_; clear H; intro a w H
      refine wp_ret ?_; exact mEnd [0, 1, 2] [] [.tmp 4] [_] hN hR H
    exact absurd hb (by decide)
  have d2 : decide ((sl.length : Int) < h) = false := decide_eq_false h2
  obtain ⟨i, rfl, hi, hx⟩ : ∃ i : Nat, h = (i : Int) + 1 ∧ i < sl.length ∧ sl[i]? = some none := by
    rcases hh with hh | hh | hh
    · exact absurd hh h1
    · exact absurd hh h2
    exact hh
  have hg := sl_get sl i _ hx
  simp only [slA, zNd] at hg
  have e1 : ((i : Int) + 1 - 1).toNat = i := by omega
  generalize sl.map slA = es at *
  refine mE Tryz.func85 ?_; intro N w0 a w hN hR H
  have hX := And.intro @hml (And.intro @d1 (@d2))
  refine mW ?_; clear H; intro a w H
  refine mCall [0, 1, 2] [] (hn) H ?_; clear H; intro a w H; try refine wpList_nil ?_
  clear hX; have hX := And.intro @hml (And.intro @d1 (And.intro @d2 (And.intro @e1 (@hg))))
  (try refine wp_region_lit ?_); refine mN 3 hN H ?_; clear H; intro a w H
  (try refine wp_region_lit ?_); refine mN 9 hN H ?_; clear H; intro a w H
  (try refine wp_region_lit ?_); refine mN 9 hN H ?_; clear H; intro a w H
  (try refine wp_region_lit ?_); refine mN 2 hN H ?_; clear H; intro a w H
  refine mW ?_; clear H; intro a w H
  refine mC H (fun hb => ?_) (fun hb => ?_)
  · refine mW ?_; clear H; intro a w H
    refine wp_ret ?_; exact mEnd [0, 1, 2] [] [.tmp 4] [_] hN hR H
  exact absurd hb (by decide)
theorem bss_len (ls : List (List UInt8)) : (bss ls).length = ls.length := by simp [bss]
theorem bss_get (ls : List (List UInt8)) (k : Nat) (hk : k < ls.length) : (bss ls).getD k .any = .bs ls[k] none := by simp [bss, List.getD, hk]
theorem flat_take (ls : List (List UInt8)) (k : Nat) (hk : k < ls.length) : (ls.take (k + 1)).flatten = (ls.take k).flatten ++ ls[k] := by rw [List.take_succ_eq_append_getElem hk, List.flatten_append]; simp only [List.flatten_cons, List.flatten_nil, List.append_nil]
theorem flat_take_le (ls : List (List UInt8)) (k : Nat) : (ls.take k).flatten.length ≤ ls.flatten.length := by
  conv => rhs; rw [← List.take_append_drop k ls]
  rw [List.flatten_append, List.length_append]; omega
abbrev W32 (x : BitVec 32) : Value := .int .u32 (n32 x)
theorem and31 : ∀ k : Fin 32, 0 < k.val → bits .and .u64 (IntKind.u64.wrap (-(k.val:Int))) 31 = 32 - (k.val : Int) := by decide +kernel
theorem rot_any (x : BitVec 32) (k : Nat) (hk : 0 < k) (hk2 : k < 32) (w : World) :
    Calls Tryz.prog 166 #[.int .u32 (n32 x), .int .i64 (-(k:Int))] w fun e w' => e = .returned (.int .u32 (n32 (ror x k))) ∧ w' = w := by
  have h1 : bits .and .u64 (IntKind.u64.wrap (-(k:Int))) 31 = (32 - (k : Int)) := and31 ⟨k, hk2⟩ hk
  have h2 : (0 : Int) ≤ 32 - (k:Int) := by omega
  have h3 : (32 - (k:Int)) ≤ 32 := by omega
  go_enter Tryz.func166, Tryz.ntmps166
  go_wp2
  go_ret
  refine ⟨?_, rfl⟩
  show Ending.returned (.int .u32 (bits BinOp.or IntKind.u32 (n32 x * 2 ^ (32 - k) % 4294967296) (n32 x / 2 ^ (32 - (32 - k))))) = _
  rw [u32_shl, u32_shr, u32_or, show 32 - (32 - k) = k by omega]; rfl
theorem right_any (x : BitVec 32) (k : Nat) (hk : 0 < k) (hk2 : k < 32) (w : World) :
    Calls Tryz.prog 152 #[.int .u32 (n32 x), .int .i64 k] w fun e w' => e = .returned (.int .u32 (n32 (ror x k))) ∧ w' = w := by
  go_enter Tryz.func152, Tryz.ntmps152
  go_wp2_with (go_at_call 166; refine (rot_any _ _ (by omega) (by omega) _).mono ?_; rintro e w' ⟨rfl, rfl⟩)
  go_ret
  exact ⟨rfl, rfl⟩
theorem right_int (x : BitVec 32) (n : Int) (h0 : 0 < n) (h1 : n < 32) (w : World) :
    Calls Tryz.prog 152 #[.int .u32 (n32 x), .int .i64 n] w fun e w' => e = .returned (.int .u32 (n32 (ror x n.toNat))) ∧ w' = w := by
  obtain ⟨k, rfl⟩ := Int.eq_ofNat_of_zero_le (Int.le_of_lt h0)
  exact right_any x k (by omega) (by omega) w
theorem row_next (xs : List (BitVec 32)) (n : Nat) (x : BitVec 32) (hn : 0 < n) : ((xs ++ List.replicate n 0).map W32).toArray.setIfInBounds xs.length (W32 x) = ((xs ++ [x] ++ List.replicate (n - 1) 0).map W32).toArray := by
  obtain ⟨m, rfl⟩ : ∃ m, n = m + 1 := ⟨n - 1, by omega⟩
  simp [List.replicate_succ, List.set_append]
attribute [local go_sem] or_bytes u32_shr10 u32_shr3 u32_xor u32_and u32_or u32_add u32_add' u32_not
set_option maxRecDepth 100000 in
theorem schedule_any (bs : List UInt8) (hbs : bs.length = 64) (w : World) :
    Calls Tryz.prog 150 #[.agg (bs.map B8).toArray] w fun e w' => e = .returned (.agg ((sched (words bs 16) 48).map W32).toArray) ∧ Below w.heap.size w w' := by
  go_enter Tryz.func150, Tryz.ntmps150
  go_wp2
  go_loopw [4, 10] (fun _ i wr => ∃ k : Nat, k ≤ 16 ∧ i = .int .i64 k ∧ Blk wr w.heap.size 186 (bs.map B8).toArray ∧ (∃ c1 : Array Value, c1.size = 64 ∧ Blk wr (w.heap.size + 1) 210 c1) ∧
      Blk wr (w.heap.size + 1 + 1) 210 ((words bs k ++ List.replicate (64 - k) 0).map W32).toArray ∧ Below w.heap.size w wr) (fun _ i _ => 16 - (intOf i).toNat)
  case atStart =>
    refine ⟨0, by omega, rfl, ((Blk.new _ _ _).alloc _).alloc _, ⟨_, by rfl, (Blk.newAt _ _ _ (by simp)).alloc _⟩, by rw [words_zero]; exact Blk.newAt _ _ _ (by simp), ?_⟩
    exact (((Below.refl _ _).alloc (Nat.le_refl _) _).alloc (by simp) _).alloc (by simp; omega) _
  case round =>
    obtain ⟨k, hk, rfl, h1, ⟨c1, hc1, h2⟩, h3, hb⟩ := hrel
    by_cases hlt : k < 16
    · have a0 : wr.cell? ⟨w.heap.size, 4 * k, none⟩ = some (B8 (bs.getD (4 * k) 0)) := by rw [h1.cell]; simp [show 4 * k < bs.length by omega]
      have a1 : wr.cell? ⟨w.heap.size, 4 * k + 1, none⟩ = some (B8 (bs.getD (4 * k + 1) 0)) := by rw [h1.cell]; simp [show 4 * k + 1 < bs.length by omega]
      have a2 : wr.cell? ⟨w.heap.size, 4 * k + 2, none⟩ = some (B8 (bs.getD (4 * k + 2) 0)) := by rw [h1.cell]; simp [show 4 * k + 2 < bs.length by omega]
      have a3 : wr.cell? ⟨w.heap.size, 4 * k + 3, none⟩ = some (B8 (bs.getD (4 * k + 3) 0)) := by rw [h1.cell]; simp [show 4 * k + 3 < bs.length by omega]
      have a4 : wr.cell? ⟨w.heap.size + 1 + 1, k, none⟩ = some (W32 0) := by
        rw [h3.cell]; simp [List.getElem?_append, words_length, show 0 < 64 - k by omega]
      have a5 := h3.free k
      have b0 := (bs.getD (4 * k) 0).toNat_lt
      have b1 := (bs.getD (4 * k + 1) 0).toNat_lt
      have b2 := (bs.getD (4 * k + 2) 0).toNat_lt
      have b3 := (bs.getD (4 * k + 3) 0).toNat_lt
      have hn : ((words bs k ++ List.replicate (64 - k) 0).map W32).toArray.setIfInBounds k (W32 (wordAt bs k)) = ((words bs (k + 1) ++ List.replicate (64 - (k + 1)) 0).map W32).toArray := by
        have := row_next (words bs k) (64 - k) (wordAt bs k) (by omega)
        rw [words_length] at this; rw [this, words_succ, show 64 - k - 1 = 64 - (k + 1) by omega]
      have h3' : ∀ x, x = wordAt bs k → Blk (wr.setCell ⟨w.heap.size + 1 + 1, k, none⟩ (W32 x)) (w.heap.size + 1 + 1) 210 ((words bs (k + 1) ++ List.replicate (64 - (k + 1)) 0).map W32).toArray := by
        rintro x rfl; have := h3.put k (W32 (wordAt bs k)); rw [hn] at this; exact this
      have HX : Hid (wordAt bs k = word4 (bs.getD (4 * k) 0) (bs.getD (4 * k + 1) 0) (bs.getD (4 * k + 2) 0) (bs.getD (4 * k + 3) 0)) := wordAt_def _ _
      generalize bs.getD (4 * k) 0 = x0 at *
      generalize bs.getD (4 * k + 1) 0 = x1 at *
      generalize bs.getD (4 * k + 2) 0 = x2 at *
      generalize bs.getD (4 * k + 3) 0 = x3 at *
      have H1 := Lib.hid h1; have H2 := Lib.hid h2; have H3 := Lib.hid h3'; have HB := Lib.hid hb; have HC := Lib.hid hc1; clear h1 h2 h3 h3' hb hc1 hn
      go_wp2
      refine wp_region_T [31] [] (fun _ => True) (by kernel_rfl) (by kernel_rfl) trivial ?_
      repeat (first
        | (refine wpT_here (by rfl) (by rfl) (by rfl) (fun K hK => ?_); go_big_quiet_op; refine hK _ ?_; clear hK K)
        | (refine wpT_loud (by rfl) (by rfl) (fun K hK => ?_); go_big_op; refine hK _ _ trivial ?_; clear hK K))
      refine wpT_nil ?_
      go_wp2
      go_roundw
      case rel => exact ⟨k + 1, by omega, by go_num, (H1.out.far (by simp; omega) _).drew, ⟨c1, HC.out, (H2.out.far (by simp) _).drew⟩, (H3.out _ HX.out.symm).drew, (HB.out.setCell (by simp; omega) _).drew⟩
      case measure => simp [intOf]; omega
    obtain rfl : k = 16 := by omega
    rw [show ((16 : Nat) : Int) = (16 : Int) from rfl]
    have H1 := Lib.hid h1; have H2 := Lib.hid h2; have H3 := Lib.hid h3; have HB := Lib.hid hb; have HC := Lib.hid hc1; clear h1 h2 h3 hb hc1
    go_wp2
    go_loopw [5, 6, 7, 8, 9] (fun i _ _ _ _ wr => ∃ t : Nat, 16 ≤ t ∧ t ≤ 64 ∧ i = .int .i64 t ∧ Blk wr w.heap.size 186 (bs.map B8).toArray ∧ (∃ c1 : Array Value, c1.size = 64 ∧ Blk wr (w.heap.size + 1) 210 c1) ∧
        Blk wr (w.heap.size + 1 + 1) 210 ((sched (words bs 16) (t - 16) ++ List.replicate (64 - t) 0).map W32).toArray ∧ Below w.heap.size w wr) (fun i _ _ _ _ _ => 64 - (intOf i).toNat)
    case atStart => exact ⟨16, by omega, by omega, rfl, H1.out, ⟨c1, HC.out, H2.out⟩, by rw [show 16 - 16 = 0 from rfl, sched_zero]; exact H3.out, HB.out⟩
    case round =>
      clear H1 H2 H3 HB HC hk hlt
      obtain ⟨t, ht1, ht2, rfl, h1, ⟨c1, hc1, h2⟩, h3, hb⟩ := hrel
      by_cases hlt : t < 64
      · have hl : (sched (words bs 16) (t - 16)).length = t := by rw [sched_length, words_length]; omega
        have HN : Hid (sched (words bs 16) (t + 1 - 16) = sched (words bs 16) (t - 16) ++ [nextWord (sched (words bs 16) (t - 16))]) := by
          rw [show t + 1 - 16 = (t - 16) + 1 by omega]; exact sched_succ _ _
        generalize sched (words bs 16) (t - 16) = s at *
        have cell : ∀ i, i < t → wr.cell? ⟨w.heap.size + 1 + 1, i, none⟩ = some (W32 (s.getD i 0)) := by
          intro i hi; rw [h3.cell]; simp [List.getElem?_append, hl, hi]
        have a2 := cell (t - 2) (by omega)
        have a7 := cell (t - 7) (by omega)
        have a15 := cell (t - 15) (by omega)
        have a16 := cell (t - 16) (by omega)
        have at_ : wr.cell? ⟨w.heap.size + 1 + 1, t, none⟩ = some (W32 0) := by
          rw [h3.cell]; simp [List.getElem?_append, hl, show 0 < 64 - t by omega]
        have af := h3.free t
        have HX : Hid (nextWord s = sg1 (s.getD (t - 2) 0) + s.getD (t - 7) 0 + sg0 (s.getD (t - 15) 0) + s.getD (t - 16) 0) := by unfold nextWord; rw [hl]; exact rfl
        have hn : ((s ++ List.replicate (64 - t) 0).map W32).toArray.setIfInBounds t (W32 (nextWord s)) = (((s ++ [nextWord s]) ++ List.replicate (64 - (t + 1)) 0).map W32).toArray := by
          have := row_next s (64 - t) (nextWord s) (by omega)
          rw [hl] at this; rw [this, show 64 - t - 1 = 64 - (t + 1) by omega]
        have h3' : ∀ x, x = nextWord s → Blk (wr.setCell ⟨w.heap.size + 1 + 1, t, none⟩ (W32 x)) (w.heap.size + 1 + 1) 210 (((s ++ [nextWord s]) ++ List.replicate (64 - (t + 1)) 0).map W32).toArray := by
          rintro x rfl; have := h3.put t (W32 (nextWord s)); rw [hn] at this; exact this
        have H1 := Lib.hid h1; have H2 := Lib.hid h2; have H3 := Lib.hid h3'; have HB := Lib.hid hb; have HC := Lib.hid hc1; have HL := Lib.hid hl
        clear h1 h2 h3 h3' hb hc1 hn cell hl
        generalize s.getD (t - 2) 0 = x2 at *
        generalize s.getD (t - 7) 0 = x7 at *
        generalize s.getD (t - 15) 0 = x15 at *
        generalize s.getD (t - 16) 0 = x16 at *
        go_wp2
        refine wp_region_T [] [] (fun _ => True) (by kernel_rfl) (by kernel_rfl) trivial ?_
        repeat (first
          | (refine wpT_here (by rfl) (by rfl) (by rfl) (fun K hK => ?_); go_big_quiet_op; refine hK _ ?_; clear hK K)
          | (refine wpT_loud (by rfl) (by rfl) (fun K hK => ?_); go_big_op; refine hK _ _ trivial ?_; clear hK K))
        refine wpT_nil ?_
        go_wp2_with (go_at_call 152; refine (right_int _ _ (by omega) (by omega) _).mono ?_; rintro e w' ⟨rfl, rfl⟩)
        refine wp_region_T [15] [] (fun _ => True) (by kernel_rfl) (by kernel_rfl) trivial ?_
        repeat (first
          | (refine wpT_here (by rfl) (by rfl) (by rfl) (fun K hK => ?_); go_big_quiet_op; refine hK _ ?_; clear hK K)
          | (refine wpT_loud (by rfl) (by rfl) (fun K hK => ?_); go_big_op; refine hK _ _ trivial ?_; clear hK K))
        refine wpT_nil ?_
        go_wp2
        go_roundw
        case rel =>
          refine ⟨t + 1, by omega, by omega, by go_num, (H1.out.far (by simp; omega) _).drew.drew, ⟨c1, HC.out, (H2.out.far (by simp) _).drew.drew⟩, ?_, (HB.out.setCell (by simp; omega) _).drew.drew⟩
          rw [HN.out]
          exact (H3.out _ HX.out.symm).drew.drew
        case measure => simp [intOf]; omega
      obtain rfl : t = 64 := by omega
      rw [show ((64 : Nat) : Int) = (64 : Int) from rfl]
      have hl : ((sched (words bs 16) 48).map W32).length = 64 := by simp [sched_length, words_length]
      have h3' : Blk wr (w.heap.size + 1 + 1) 210 ((sched (words bs 16) 48).map W32).toArray := by simpa using h3
      have H1 := Lib.hid h1; have H2 := Lib.hid h2; have H3 := Lib.hid h3'; have HB := Lib.hid hb; have HC := Lib.hid hc1; have HL := Lib.hid hl
      clear h1 h2 h3 h3' hb hc1 hl
      go_wp2_with (first
        | (refine wpList_ldAll rfl 210 _ rfl H3.out rfl (by kernel_rfl) (by rw [HL.out]; kernel_rfl) ?_)
        | (refine wpList_stAll rfl 210 _ _ rfl H2.out rfl rfl (by rw [HL.out]; kernel_rfl) (by rw [HL.out, HC.out]) (one_map _ _ fun _ => rfl) ?_))
      refine bodyPost_ret (results_ldAll (mid := (sched (words bs 16) 48).map W32) rfl _ (H2.out.row _) rfl (by kernel_rfl) (by rw [HL.out]; kernel_rfl)) rfl ⟨rfl, Below.row HB.out (by omega) _⟩
end Go.Proofs.YtgffimanhmpohaaGreat
namespace Go.Proofs.YtgffimanhmpohaaGreat
open Go Go.RowKit
abbrev S8.arr (s : S8) : Array Value := #[W32 s.a, W32 s.b, W32 s.c, W32 s.d, W32 s.e, W32 s.f, W32 s.g, W32 s.h]
set_option maxRecDepth 100000 in
theorem constants_any (w : World) : Calls Tryz.prog 151 #[] w fun e w' => e = .returned (.agg (kList.map W32).toArray) ∧ Below w.heap.size w w' := by
  go_enter Tryz.func151, Tryz.ntmps151
  go_wp2_with (first
    | (refine wpList_build rfl 210 _ rfl (.agg (kList.map W32).toArray) (fun _ => by kernel_rfl) ?_)
    | (refine wpList_stAll rfl 210 _ _ rfl (Blk.new _ _ _) rfl rfl (by kernel_rfl) (by rw [List.length_map, kList_length]; rfl) (one_map _ _ fun _ => rfl) ?_))
  refine bodyPost_ret (results_ldAll (mid := kList.map W32) rfl _ (g := w.heap.size) (t := 210) ?_ rfl (by kernel_rfl) (by kernel_rfl)) rfl ⟨rfl, ?_⟩
  · exact (Blk.new _ _ _).row _
  exact Below.row ((Below.refl _ _).alloc (Nat.le_refl _) _) (Nat.le_refl _) _
attribute [local go_sem] or_bytes u32_shr10 u32_shr3 u32_xor u32_and u32_or u32_add u32_add' u32_not u32_not'
set_option maxRecDepth 100000 in
theorem step_any (s : S8) (bs : List UInt8) (hbs : bs.length = 64) (w : World) :
    Calls Tryz.prog 124 #[.agg s.arr, .agg (bs.map B8).toArray] w fun e w' => e = .returned (.agg (step s bs).arr) ∧ Below w.heap.size w w' := by
  have hsl : ((sched (words bs 16) 48).map W32).length = 64 := by simp [sched_length, words_length]
  have hbl : (bs.map B8).length = 64 := by simpa using hbs
  have HSL := Lib.hid hsl; have HBL := Lib.hid hbl; clear hsl hbl
  have HBS := Lib.hid hbs; clear hbs
  go_enter Tryz.func124, Tryz.ntmps124
  go_wp2_with (refine wpList_ldAll rfl 186 _ rfl (g := w.heap.size + 1) (t := 186) (mid := bs.map B8) ((Blk.newAt _ _ _ (by simp)).alloc _) rfl (by kernel_rfl) (by rw [HBL.out]; kernel_rfl) ?_)
  refine (schedule_any _ HBS.out _).mono ?_
  rintro e w1 ⟨rfl, hb1⟩; have HB1 := Lib.hid hb1; clear hb1
  go_wp2_with fail
  refine (constants_any _).mono ?_
  rintro e w2 ⟨rfl, hb2⟩; have HB2 := Lib.hid hb2; clear hb2
  dsimp only
  iterate 7 go_step
  refine wpList_stAll rfl 210 (.tmp 5) _ rfl ((Blk.new _ _ _).alloc _) rfl rfl (by rw [HSL.out]; kernel_rfl) (by rw [HSL.out]; rfl) (one_map _ _ fun _ => rfl) ?_
  refine wpList_stAll rfl 210 (.tmp 6) _ rfl ((Blk.newAt _ _ _ (by simp)).rowFar (by simp) _) rfl rfl (by kernel_rfl) (by rw [List.length_map, kList_length]; rfl) (one_map _ _ fun _ => rfl) ?_
  have hz1 : w.heap.size + 1 + 1 + 1 ≤ w1.heap.size := by have := HB1.out.size; simpa using this
  have hz2 : w1.heap.size ≤ w2.heap.size := HB2.out.size
  refine wpList_forget (fun w3 => Blk w3 w.heap.size 184 s.arr ∧ (∃ z, z.size = 8 ∧ Blk w3 (w.heap.size + 1 + 1) 184 z) ∧ Blk w3 w2.heap.size 210 ((sched (words bs 16) 48).map W32).toArray ∧ Blk w3 (w2.heap.size + 1) 210 (kList.map W32).toArray ∧ Below w.heap.size w w3 ∧ w2.heap.size + 1 < w3.heap.size) ?_ ?_
  · have b0 : Blk w1 w.heap.size 184 s.arr := (((Blk.new _ _ _).alloc _).alloc _).below HB1.out (by simp; omega)
    have b2 : Blk w1 (w.heap.size + 1 + 1) 184 _ := (Blk.newAt _ _ _ (by simp)).below HB1.out (by simp)
    have bb : Below w.heap.size w w1 := ((((Below.refl _ _).alloc (Nat.le_refl _) _).alloc (by simp) _).alloc (by simp; omega) _).trans (HB1.out.mono (by simp; omega))
    refine ⟨((((b0.below HB2.out (by omega)).alloc _).alloc _).rowFar (by omega) _).rowFar (by omega) _, ⟨_, by rfl, ((((b2.below HB2.out (by omega)).alloc _).alloc _).rowFar (by omega) _).rowFar (by omega) _⟩,
      (((Blk.new _ _ _).alloc _).row _).rowFar (by omega) _, ((Blk.newAt _ _ _ (by simp)).rowFar (by simp) _).row _, ?_, by simp⟩
    exact Below.row (Below.row (((bb.trans (HB2.out.mono (by omega))).alloc (by omega) _).alloc (by simp; omega) _) (by omega) _) (by omega) _
  rintro w3 ⟨c1, ⟨z, hz, c2⟩, c3, c4, c5, hz3⟩
  have C1 := Lib.hid c1; have C2 := Lib.hid c2; have C3 := Lib.hid c3; have C4 := Lib.hid c4; have C5 := Lib.hid c5; have HZ := Lib.hid hz
  clear c1 c2 c3 c4 c5 hz HB1 HB2
  go_wp2_with ((with_reducible show wpList _ _ _ _ _ _); refine wpList_ldAll rfl 184 (.tmp 2) rfl (mid := s.arr.toList) C1.out rfl (by kernel_rfl) (by kernel_rfl) ?_)
  have HB0 := Lib.hid ((C5.out.alloc (by have := C5.out.size; omega) (Obj.cells s.arr 184)))
  have H7 : Hid (Blk (w3.alloc (Obj.cells s.arr 184)) w3.heap.size 184 s.arr) := Blk.new _ _ _
  have hw3 : w.heap.size + 1 + 1 < w3.heap.size := by omega
  go_loopw [8, 9, 10, 11, 12, 18] (fun _ _ _ _ _ i wr => ∃ t : Nat, t ≤ 64 ∧ i = .int .i64 t ∧ Blk wr w.heap.size 184 s.arr ∧ (∃ z : Array Value, z.size = 8 ∧ Blk wr (w.heap.size + 1 + 1) 184 z) ∧
      Blk wr w2.heap.size 210 ((sched (words bs 16) 48).map W32).toArray ∧ Blk wr (w2.heap.size + 1) 210 (kList.map W32).toArray ∧ Blk wr w3.heap.size 184 (rnds (sched (words bs 16) 48) s t).arr ∧ Below w.heap.size w wr)
    (fun _ _ _ _ _ i _ => 64 - (intOf i).toNat)
  case atStart => exact ⟨0, by omega, rfl, C1.out.alloc _, ⟨z, HZ.out, C2.out.alloc _⟩, C3.out.alloc _, C4.out.alloc _, by rw [rnds_zero]; exact H7.out, HB0.out⟩
  case round =>
    obtain ⟨t, ht, rfl, d1, ⟨z2, hz2', d2⟩, d3, d4, d5, d6⟩ := hrel
    clear C1 C2 C3 C4 C5 HZ HB0 H7
    by_cases hlt : t < 64
    · have HN := Lib.hid (rnds_succ (sched (words bs 16) 48) s t)
      have k1 : wr.cell? ⟨w2.heap.size + 1, t, none⟩ = some (W32 (kList.getD t 0)) := by
        rw [d4.cell]; have := kList_length; simp [show t < kList.length by omega]
      have k2 : wr.cell? ⟨w2.heap.size, t, none⟩ = some (W32 ((sched (words bs 16) 48).getD t 0)) := by
        rw [d3.cell]; have := HSL.out; simp only [List.length_map] at this; simp [show t < (sched (words bs 16) 48).length by omega]
      generalize kList.getD t 0 = kt at *
      generalize (sched (words bs 16) 48).getD t 0 = wt at *
      have r0 : wr.cell? ⟨w3.heap.size, 0, none⟩ = some (W32 (rnds (sched (words bs 16) 48) s t).a) := d5.cell 0
      have r1 : wr.cell? ⟨w3.heap.size, 1, none⟩ = some (W32 (rnds (sched (words bs 16) 48) s t).b) := d5.cell 1
      have r2 : wr.cell? ⟨w3.heap.size, 2, none⟩ = some (W32 (rnds (sched (words bs 16) 48) s t).c) := d5.cell 2
      have r3 : wr.cell? ⟨w3.heap.size, 3, none⟩ = some (W32 (rnds (sched (words bs 16) 48) s t).d) := d5.cell 3
      have r4 : wr.cell? ⟨w3.heap.size, 4, none⟩ = some (W32 (rnds (sched (words bs 16) 48) s t).e) := d5.cell 4
      have r5 : wr.cell? ⟨w3.heap.size, 5, none⟩ = some (W32 (rnds (sched (words bs 16) 48) s t).f) := d5.cell 5
      have r6 : wr.cell? ⟨w3.heap.size, 6, none⟩ = some (W32 (rnds (sched (words bs 16) 48) s t).g) := d5.cell 6
      have r7 : wr.cell? ⟨w3.heap.size, 7, none⟩ = some (W32 (rnds (sched (words bs 16) 48) s t).h) := d5.cell 7
      have D1 := Lib.hid d1; have D2 := Lib.hid d2; have D3 := Lib.hid d3; have D4 := Lib.hid d4; have D5 := Lib.hid d5; have D6 := Lib.hid d6; have HX := Lib.hid HN.out; have HZ := Lib.hid hz2'
      clear d1 d2 d3 d4 d5 d6 HN hz2'
      generalize rnds (sched (words bs 16) 48) s t = r at *
      go_wp2
      refine wp_region_T [] [] (fun _ => True) (by kernel_rfl) (by kernel_rfl) trivial ?_
      repeat (first
        | (refine wpT_here (by rfl) (by rfl) (by rfl) (fun K hK => ?_); go_big_quiet_op; refine hK _ ?_; clear hK K)
        | (refine wpT_loud (by rfl) (by rfl) (fun K hK => ?_); go_big_op; refine hK _ _ trivial ?_; clear hK K))
      refine wpT_nil ?_
      go_wp2
      refine wp_region_T [3, 5, 8] [0, 1, 4, 6, 7, 11, 12, 13, 14, 15, 16, 17, 18, 19, 20, 22, 23, 24, 26, 27, 28] (fun w' => w' = wr.drew.drew) (by kernel_rfl) (by kernel_rfl) rfl ?_
      repeat (first
        | (refine wpT_here (by rfl) (by rfl) (by rfl) (fun K hK => ?_); go_big_quiet_op; refine hK _ ?_; clear hK K)
        | (refine wpT_amb (by rfl) (by rfl) (by rfl) rfl (fun K hK => ?_); go_big_quiet_op; refine hK _ ?_; clear hK K)
        | (refine wpT_loud (by rfl) (by rfl) (fun K hK => ?_); go_step; refine (right_int _ _ (by omega) (by omega) _).mono ?_; rintro e w' ⟨rfl, rfl⟩; dsimp only; refine hK _ _ rfl ?_; clear hK K))
      refine wpT_nil ?_
      go_wp2
      refine wp_region_T [1, 3, 6] [2, 4, 5, 8, 9, 10, 11, 12, 13, 14, 15, 16, 17, 18, 19, 20, 21, 22] (fun w' => w' = wr.drew.drew.drew) (by kernel_rfl) (by kernel_rfl) rfl ?_
      repeat (first
        | (refine wpT_here (by rfl) (by rfl) (by rfl) (fun K hK => ?_); go_big_quiet_op; refine hK _ ?_; clear hK K)
        | (refine wpT_amb (by rfl) (by rfl) (by rfl) rfl (fun K hK => ?_); go_big_quiet_op; refine hK _ ?_; clear hK K)
        | (refine wpT_loud (by rfl) (by rfl) (fun K hK => ?_); go_step; refine (right_int _ _ (by omega) (by omega) _).mono ?_; rintro e w' ⟨rfl, rfl⟩; dsimp only; refine hK _ _ rfl ?_; clear hK K))
      refine wpT_nil ?_
      go_wp2_with ((with_reducible show wpList _ _ _ _ _ _); refine wpList_stAll rfl 184 (.tmp 7) _ rfl D5.out rfl rfl (by kernel_rfl) rfl (by simp [Value.oneCell']) ?_)
      go_roundw
      case rel =>
        exact ⟨t + 1, by omega, by go_num, D1.out.drew.drew.drew.rowFar (by omega) _, ⟨z2, HZ.out, D2.out.drew.drew.drew.rowFar (by omega) _⟩, D3.out.drew.drew.drew.rowFar (by omega) _, D4.out.drew.drew.drew.rowFar (by omega) _, by rw [HX.out, u32_sum5, u32_sum14]; exact D5.out.drew.drew.drew.row _, Below.row D6.out.drew.drew.drew (by omega) _⟩
      case measure => simp [intOf]; omega
    obtain rfl : t = 64 := by omega
    rw [show ((64 : Nat) : Int) = (64 : Int) from rfl]
    have D1 := Lib.hid d1; have D2 := Lib.hid d2; have D5 := Lib.hid d5; have D6 := Lib.hid d6; have HZ := Lib.hid hz2'; have HD := Lib.hid (step_def s bs)
    clear d1 d2 d3 d4 d5 d6 hz2'
    obtain ⟨r, hr⟩ : ∃ r, r = rnds (sched (words bs 16) 48) s 64 := ⟨_, rfl⟩
    rw [← hr] at D5 HD
    clear hr
    go_wp2
    go_loopw [13, 98] (fun _ i wr' => ∃ k : Nat, k ≤ 8 ∧ i = .int .i64 k ∧ Blk wr' w.heap.size 184 ((mix s r k).map W32).toArray ∧ (∃ z : Array Value, z.size = 8 ∧ Blk wr' (w.heap.size + 1 + 1) 184 z) ∧
        Blk wr' w3.heap.size 184 (r.l.map W32).toArray ∧ Below w.heap.size w wr') (fun _ i _ => 8 - (intOf i).toNat)
    case atStart => exact ⟨0, by omega, rfl, by rw [mix_zero]; exact D1.out, ⟨z2, HZ.out, D2.out⟩, D5.out, D6.out⟩
    case round =>
      obtain ⟨k, hk, rfl, e1, ⟨z3, hz3', e2⟩, e5, e6⟩ := hrel
      clear D1 D2 D5 D6 HZ
      by_cases hlk : k < 8
      · have hl : r.l.length = 8 := rfl
        have k1 : wr.cell? ⟨w.heap.size, k, none⟩ = some (W32 (s.l.getD k 0)) := by
          rw [e1.cell]; simp [mix_at s r k hlk]
        have k2 : wr.cell? ⟨w3.heap.size, k, none⟩ = some (W32 (r.l.getD k 0)) := by
          rw [e5.cell]; simp [show k < r.l.length by omega]
        have k3 := e1.free k
        have hs : Blk (wr.setCell ⟨w.heap.size, k, none⟩ (W32 (s.l.getD k 0 + r.l.getD k 0))) w.heap.size 184 ((mix s r (k + 1)).map W32).toArray := by
          have := e1.put k (W32 (s.l.getD k 0 + r.l.getD k 0))
          rw [List.setIfInBounds_toArray, ← List.map_set, mix_set s r k hlk] at this
          exact this
        generalize s.l.getD k 0 = x at *
        generalize r.l.getD k 0 = y at *
        have E1 := Lib.hid hs; have E2 := Lib.hid e2; have E5 := Lib.hid e5; have E6 := Lib.hid e6; have HZ := Lib.hid hz3'
        clear e1 e2 e5 e6 hz3' hs hl
        go_wp2
        refine wp_region_T [8] [] (fun _ => True) (by kernel_rfl) (by kernel_rfl) trivial ?_
        repeat (first
          | (refine wpT_here (by rfl) (by rfl) (by rfl) (fun K hK => ?_); go_big_quiet_op; refine hK _ ?_; clear hK K)
          | (refine wpT_loud (by rfl) (by rfl) (fun K hK => ?_); go_big_op; refine hK _ _ trivial ?_; clear hK K))
        refine wpT_nil ?_
        go_wp2
        go_roundw
        case rel => exact ⟨k + 1, by omega, by go_num, E1.out.drew, ⟨z3, HZ.out, (E2.out.farAt (by omega) _).drew⟩, (E5.out.farAt (by omega) _).drew, (below_putAt E6.out (by omega) _).drew⟩
        case measure => simp [intOf]; omega
      obtain rfl : k = 8 := by omega
      rw [show ((8 : Nat) : Int) = (8 : Int) from rfl]
      rw [mix_eight] at e1
      have E1 := Lib.hid e1; have E2 := Lib.hid e2; have E6 := Lib.hid e6; have HZ := Lib.hid hz3'
      clear e1 e2 e5 e6 hz3'
      go_wp2_with ((with_reducible show wpList _ _ _ _ _ _); first
        | (refine wpList_ldAll rfl 184 (.tmp 2) rfl E1.out rfl (by kernel_rfl) (by kernel_rfl) ?_)
        | (refine wpList_stAll rfl 184 (.tmp 4) _ rfl E2.out rfl rfl (by kernel_rfl) HZ.out (one_map _ _ fun _ => rfl) ?_))
      refine bodyPost_ret (results_ldAll (mid := (addS s r).l.map W32) rfl _ (E2.out.row _) rfl (by kernel_rfl) (by kernel_rfl)) rfl ⟨?_, Below.row E6.out (by omega) _⟩
      rw [HD.out]; rfl
end Go.Proofs.YtgffimanhmpohaaGreat
namespace Go.Proofs.YtgffimanhmpohaaGreat
open Go Go.RowKit
theorem turned_any (x : BitVec 32) (k : Nat) (hk : 0 < k) (hk2 : k < 32) (w : World) :
    Calls Tryz.prog 165 #[.int .u32 (n32 x), .int .i64 k] w fun e w' => e = .returned (.int .u32 (n32 (ror x k))) ∧ ∃ n, w' = w.drewN n := by
  have h2 : (0 : Int) ≤ 32 - (k:Int) := by omega
  have h3 : (32 - (k:Int)) ≤ 32 := by omega
  go_enter Tryz.func165, Tryz.ntmps165
  go_wp2
  refine wp_region_T [] [] (fun _ => True) (by kernel_rfl) (by kernel_rfl) trivial ?_
  repeat (first
    | (refine wpT_here (by rfl) (by rfl) (by rfl) (fun K hK => ?_); go_big_quiet_op; refine hK _ ?_; clear hK K)
    | (refine wpT_loud (by rfl) (by rfl) (fun K hK => ?_); go_big_op; refine hK _ _ trivial ?_; clear hK K))
  refine wpT_nil ?_
  go_wp2
  go_ret
  refine ⟨?_, 1, rfl⟩
  show Ending.returned (.int .u32 (bits BinOp.or IntKind.u32 (n32 x / 2 ^ k) (n32 x * 2 ^ (32 - k) % 4294967296))) = _
  rw [u32_shl, u32_shr, u32_or, BitVec.or_comm]; rfl
theorem turned_int (x : BitVec 32) (n : Int) (h0 : 0 < n) (h1 : n < 32) (w : World) :
    Calls Tryz.prog 165 #[.int .u32 (n32 x), .int .i64 n] w fun e w' => e = .returned (.int .u32 (n32 (ror x n.toNat))) ∧ ∃ n, w' = w.drewN n := by
  obtain ⟨k, rfl⟩ := Int.eq_ofNat_of_zero_le (Int.le_of_lt h0)
  exact turned_any x k (by omega) (by omega) w
set_option maxRecDepth 100000 in
theorem constantsR_any (w : World) : Calls Tryz.prog 164 #[] w fun e w' => e = .returned (.agg (kList.map W32).toArray) ∧ Below w.heap.size w w' := by
  go_enter Tryz.func164, Tryz.ntmps164
  go_wp2_with (first
    | (refine wpList_build rfl 210 _ rfl (.agg (kList.map W32).toArray) (fun _ => by kernel_rfl) ?_)
    | (refine wpList_stAll rfl 210 _ _ rfl (Blk.new _ _ _) rfl rfl (by kernel_rfl) (by rw [List.length_map, kList_length]; rfl) (one_map _ _ fun _ => rfl) ?_))
  refine bodyPost_ret (results_ldAll (mid := kList.map W32) rfl _ (g := w.heap.size) (t := 210) ?_ rfl (by kernel_rfl) (by kernel_rfl)) rfl ⟨rfl, ?_⟩
  · exact (Blk.new _ _ _).row _
  exact Below.row ((Below.refl _ _).alloc (Nat.le_refl _) _) (Nat.le_refl _) _
theorem row_here (xs : List (BitVec 32)) (n : Nat) (x y : BitVec 32) : ((xs ++ [x] ++ List.replicate n 0).map W32).toArray.setIfInBounds xs.length (W32 y) = ((xs ++ [y] ++ List.replicate n 0).map W32).toArray := by
  simp
attribute [local go_sem] or_bytes u32_shr10 u32_shr3 u32_xor u32_and u32_or u32_add u32_add' u32_not u32_next u32_sum3 u32_sum4
set_option maxRecDepth 100000 in
theorem wordsR_any (bs : List UInt8) (hbs : bs.length = 64) (A : Option Addr) (c : Nat) (w : World) (hr : Rd byteE w w.heap.size A bs) :
    Calls Tryz.prog 163 #[.slice A 64 c] w fun e w' => e = .returned (.agg ((sched (words bs 16) 48).map W32).toArray) ∧ Below w.heap.size w w' := by
  obtain ⟨g, o, rfl, hg, hcell⟩ := rd_byte hr (k := 0) (by omega)
  clear hr
  have HC := Lib.hid hcell; have HL := Lib.hid hbs; clear hcell hbs
  go_enter Tryz.func163, Tryz.ntmps163
  go_wp2
  go_loopw [4, 5] (fun i _ wr => ∃ k : Nat, k ≤ 16 ∧ i = .int .i64 k ∧ (∃ c1 : Array Value, c1.size = 64 ∧ Blk wr w.heap.size 210 c1) ∧
      Blk wr (w.heap.size + 1) 210 ((words bs k ++ List.replicate (64 - k) 0).map W32).toArray ∧ Below w.heap.size w wr) (fun i _ _ => 16 - (intOf i).toNat)
  case atStart =>
    refine ⟨0, by omega, rfl, ⟨_, by rfl, (Blk.new _ _ _).alloc _⟩, by rw [words_zero]; exact Blk.newAt _ _ _ (by simp), ?_⟩
    exact ((Below.refl _ _).alloc (Nat.le_refl _) _).alloc (by simp) _
  case round =>
    obtain ⟨k, hk, rfl, ⟨c1, hc1, h2⟩, h3, hb⟩ := hrel
    by_cases hlt : k < 16
    · have H2 := Lib.hid h2; have H3 := Lib.hid h3; have HB := Lib.hid hb; have HC1 := Lib.hid hc1; clear h2 h3 hb hc1
      go_wp2
      obtain ⟨wo, rfl⟩ : ∃ wo : World, wo = wr := ⟨_, rfl⟩
      go_loopw [5] (fun i wr => ∃ j : Nat, j ≤ 4 ∧ i = .int .i64 j ∧ Blk wr w.heap.size 210 c1 ∧
          Blk wr (w.heap.size + 1) 210 ((words bs k ++ [part bs k j] ++ List.replicate (63 - k) 0).map W32).toArray ∧ Below w.heap.size w wr) (fun i _ => 4 - (intOf i).toNat)
      case atStart =>
        refine ⟨0, by omega, rfl, H2.out, ?_, HB.out⟩
        rw [part_zero, List.append_assoc, List.singleton_append, ← List.replicate_succ, show 63 - k + 1 = 64 - k by omega]; exact H3.out
      case round =>
        obtain ⟨j, hj, rfl, e2, e3, eb⟩ := hrel
        by_cases hlj : j < 4
        · have hl := HL.out
          have a1 : wr.cell? ⟨g, o + (4 * k + j), none⟩ = some (B8 (bs.getD (4 * k + j) 0)) := by
            have hlt' : 4 * k + j < bs.length := by omega
            rw [eb.cell (p := ⟨g, o + (4 * k + j), none⟩) hg, HC.out _ hlt', List.getD_eq_getElem?_getD, List.getElem?_eq_getElem hlt']; rfl
          have a2 : wr.cell? ⟨w.heap.size + 1, k, none⟩ = some (W32 (part bs k j)) := by
            rw [e3.cell]; simp [words_length]
          have a3 := e3.free k
          have hn : Blk (wr.setCell ⟨w.heap.size + 1, k, none⟩ (W32 (part bs k (j + 1)))) (w.heap.size + 1) 210 ((words bs k ++ [part bs k (j + 1)] ++ List.replicate (63 - k) 0).map W32).toArray := by
            have := e3.put k (W32 (part bs k (j + 1)))
            have hh := row_here (words bs k) (63 - k) (part bs k j) (part bs k (j + 1))
            rw [words_length] at hh; rw [hh] at this; exact this
          have HP := Lib.hid (part_succ bs k j)
          rw [part_succ] at hn
          generalize bs.getD (4 * k + j) 0 = x at *
          have E2 := Lib.hid e2; have E3 := Lib.hid hn; have EB := Lib.hid eb
          clear e2 e3 eb hn hl H2 H3 HB
          go_wp2
          refine wp_region_T [15] [] (fun _ => True) (by kernel_rfl) (by kernel_rfl) trivial ?_
          repeat (first
            | (refine wpT_here (by rfl) (by rfl) (by rfl) (fun K hK => ?_); go_big_quiet_op; refine hK _ ?_; clear hK K)
            | (refine wpT_loud (by rfl) (by rfl) (fun K hK => ?_); go_big_op; refine hK _ _ trivial ?_; clear hK K))
          refine wpT_nil ?_
          go_wp2
          go_roundw
          case rel => exact ⟨j + 1, by omega, by go_num, (E2.out.farAt (by omega) _).drew, by rw [HP.out]; exact E3.out.drew, (below_putAt EB.out (by omega) _).drew⟩
          case measure => simp [intOf]; omega
        obtain rfl : j = 4 := by omega
        rw [show ((4 : Nat) : Int) = (4 : Int) from rfl]
        rw [part_four, ← words_succ, show 63 - k = 64 - (k + 1) by omega] at e3
        have E2 := Lib.hid e2; have E3 := Lib.hid e3; have EB := Lib.hid eb
        clear e2 e3 eb H2 H3 HB
        go_wp2
        go_roundw
        case rel => exact ⟨k + 1, by omega, by go_num, ⟨c1, HC1.out, E2.out⟩, E3.out, EB.out⟩
        case measure => simp [intOf]; omega
    obtain rfl : k = 16 := by omega
    rw [show ((16 : Nat) : Int) = (16 : Int) from rfl]
    have H2 := Lib.hid h2; have H3 := Lib.hid h3; have HB := Lib.hid hb; have HC1 := Lib.hid hc1; clear h2 h3 hb hc1
    go_wp2
    go_loopw [6, 7, 8, 9, 10] (fun i _ _ _ _ wr => ∃ t : Nat, 16 ≤ t ∧ t ≤ 64 ∧ i = .int .i64 t ∧ (∃ c1 : Array Value, c1.size = 64 ∧ Blk wr w.heap.size 210 c1) ∧
        Blk wr (w.heap.size + 1) 210 ((sched (words bs 16) (t - 16) ++ List.replicate (64 - t) 0).map W32).toArray ∧ Below w.heap.size w wr) (fun i _ _ _ _ _ => 64 - (intOf i).toNat)
    case atStart => exact ⟨16, by omega, by omega, rfl, ⟨c1, HC1.out, H2.out⟩, by rw [show 16 - 16 = 0 from rfl, sched_zero]; exact H3.out, HB.out⟩
    case round =>
      clear H2 H3 HB HC1 hk hlt
      obtain ⟨t, ht1, ht2, rfl, ⟨c1, hc1, h2⟩, h3, hb⟩ := hrel
      by_cases hlt : t < 64
      · have hl : (sched (words bs 16) (t - 16)).length = t := by rw [sched_length, words_length]; omega
        have HN : Hid (sched (words bs 16) (t + 1 - 16) = sched (words bs 16) (t - 16) ++ [nextWord (sched (words bs 16) (t - 16))]) := by
          rw [show t + 1 - 16 = (t - 16) + 1 by omega]; exact sched_succ _ _
        generalize sched (words bs 16) (t - 16) = s at *
        have cell : ∀ i, i < t → wr.cell? ⟨w.heap.size + 1, i, none⟩ = some (W32 (s.getD i 0)) := by
          intro i hi; rw [h3.cell]; simp [List.getElem?_append, hl, hi]
        have a2 := cell (t - 2) (by omega)
        have a7 := cell (t - 7) (by omega)
        have a15 := cell (t - 15) (by omega)
        have a16 := cell (t - 16) (by omega)
        have at_ : wr.cell? ⟨w.heap.size + 1, t, none⟩ = some (W32 0) := by
          rw [h3.cell]; simp [hl, show 0 < 64 - t by omega]
        have af := h3.free t
        have HX : Hid (nextWord s = sg1 (s.getD (t - 2) 0) + s.getD (t - 7) 0 + sg0 (s.getD (t - 15) 0) + s.getD (t - 16) 0) := by unfold nextWord; rw [hl]; exact rfl
        have hn : ((s ++ List.replicate (64 - t) 0).map W32).toArray.setIfInBounds t (W32 (nextWord s)) = (((s ++ [nextWord s]) ++ List.replicate (64 - (t + 1)) 0).map W32).toArray := by
          have := row_next s (64 - t) (nextWord s) (by omega)
          rw [hl] at this; rw [this, show 64 - t - 1 = 64 - (t + 1) by omega]
        have h3' : ∀ x, x = nextWord s → Blk (wr.setCell ⟨w.heap.size + 1, t, none⟩ (W32 x)) (w.heap.size + 1) 210 (((s ++ [nextWord s]) ++ List.replicate (64 - (t + 1)) 0).map W32).toArray := by
          rintro x rfl; have := h3.put t (W32 (nextWord s)); rw [hn] at this; exact this
        have H2 := Lib.hid h2; have H3 := Lib.hid h3'; have HB := Lib.hid hb; have HC1 := Lib.hid hc1
        clear h2 h3 h3' hb hc1 hn cell hl
        generalize s.getD (t - 2) 0 = x2 at *
        generalize s.getD (t - 7) 0 = x7 at *
        generalize s.getD (t - 15) 0 = x15 at *
        generalize s.getD (t - 16) 0 = x16 at *
        go_wp2_with (go_at_call 165; refine (turned_int _ _ (by omega) (by omega) _).mono ?_; rintro e w' ⟨rfl, n, rfl⟩)
        refine wp_region_T [15] [] (fun _ => True) (by kernel_rfl) (by kernel_rfl) trivial ?_
        repeat (first
          | (refine wpT_here (by rfl) (by rfl) (by rfl) (fun K hK => ?_); go_big_quiet_op; refine hK _ ?_; clear hK K)
          | (refine wpT_loud (by rfl) (by rfl) (fun K hK => ?_); go_big_op; refine hK _ _ trivial ?_; clear hK K))
        refine wpT_nil ?_
        go_wp2
        go_roundw
        case rel =>
          refine ⟨t + 1, by omega, by omega, by go_num, ⟨c1, HC1.out, (H2.out.farAt (by omega) _).drewN _⟩, ?_, below_drewN (below_putAt HB.out (by omega) _) _⟩
          rw [HN.out]
          exact (H3.out _ HX.out.symm).drewN _
        case measure => simp [intOf]; omega
      obtain rfl : t = 64 := by omega
      rw [show ((64 : Nat) : Int) = (64 : Int) from rfl]
      have hl : ((sched (words bs 16) 48).map W32).length = 64 := by simp [sched_length, words_length]
      have h3' : Blk wr (w.heap.size + 1) 210 ((sched (words bs 16) 48).map W32).toArray := by simpa using h3
      have H2 := Lib.hid h2; have H3 := Lib.hid h3'; have HB := Lib.hid hb; have HC := Lib.hid hc1; have HL := Lib.hid hl
      clear h2 h3 h3' hb hc1 hl
      go_wp2_with ((with_reducible show wpList _ _ _ _ _ _); first
        | (refine wpList_ldAll rfl 210 _ rfl H3.out rfl (by kernel_rfl) (by rw [HL.out]; kernel_rfl) ?_)
        | (refine wpList_stAll rfl 210 _ _ rfl H2.out rfl rfl (by rw [HL.out]; kernel_rfl) (by rw [HL.out, HC.out]) (one_map _ _ fun _ => rfl) ?_))
      refine bodyPost_ret (results_ldAll (mid := (sched (words bs 16) 48).map W32) rfl _ (H2.out.row _) rfl (by kernel_rfl) (by rw [HL.out]; kernel_rfl)) rfl ⟨rfl, Below.row HB.out (by omega) _⟩
end Go.Proofs.YtgffimanhmpohaaGreat
namespace Go.Proofs.YtgffimanhmpohaaGreat
open Go Go.RowKit
attribute [local go_sem] or_bytes u32_shr10 u32_shr3 u32_xor u32_and u32_or u32_add u32_add' u32_not u32_not' u32_not2
set_option maxRecDepth 100000 in
theorem stepR_any (s : S8) (bs : List UInt8) (hbs : bs.length = 64) (A : Option Addr) (c : Nat) (w : World) (hr : Rd byteE w w.heap.size A bs) :
    Calls Tryz.prog 149 #[.agg s.arr, .slice A 64 c] w fun e w' => e = .returned (.agg (step s bs).arr) ∧ Below w.heap.size w w' := by
  have hsl : ((sched (words bs 16) 48).map W32).length = 64 := by simp [sched_length, words_length]
  have HSL := Lib.hid hsl; clear hsl
  have HBS := Lib.hid hbs; clear hbs
  have HR := Lib.hid hr; clear hr
  go_enter Tryz.func149, Tryz.ntmps149
  go_wp2_with fail
  refine (wordsR_any bs HBS.out A c _ (((HR.out.alloc (Nat.le_refl _) _).alloc (by simp) _).more (by simp; omega))).mono ?_
  rintro e w1 ⟨rfl, hb1⟩; have HB1 := Lib.hid hb1; clear hb1
  dsimp only
  go_wp2_with ((with_reducible show wpList _ _ _ _ _ _); refine wpList_stAll rfl 210 (.tmp 5) _ rfl (Blk.new _ _ _) rfl rfl (by rw [HSL.out]; kernel_rfl) (by rw [HSL.out]; rfl) (one_map _ _ fun _ => rfl) ?_)
  have hz1 : w.heap.size + 1 + 1 ≤ w1.heap.size := by have := HB1.out.size; simpa using this
  refine (constantsR_any _).mono ?_
  rintro e w2 ⟨rfl, hb2⟩
  have hz2 : w1.heap.size < w2.heap.size := by have := hb2.size; simp at this; omega
  have HB2 := Lib.hid hb2; clear hb2
  dsimp only
  go_wp2_with (first
   | (with_reducible show wpList _ _ _ _ _ _); refine wpList_ldAll rfl 184 (.tmp 2) rfl (mid := s.arr.toList) C1.out rfl (by kernel_rfl) (by kernel_rfl) ?_
   | (with_reducible show wpList _ _ _ _ _ _)
     refine wpList_stAll rfl 210 (.tmp 6) _ rfl (Blk.new _ _ _) rfl rfl (by kernel_rfl) (by rw [List.length_map, kList_length]; rfl) (one_map _ _ fun _ => rfl) ?_
     refine wpList_forget (fun w3 => Blk w3 w.heap.size 184 s.arr ∧ (∃ z : Array Value, z.size = 8 ∧ Blk w3 (w.heap.size + 1) 184 z) ∧ Blk w3 w1.heap.size 210 ((sched (words bs 16) 48).map W32).toArray ∧ Blk w3 w2.heap.size 210 (kList.map W32).toArray ∧ Below w.heap.size w w3 ∧ w2.heap.size < w3.heap.size) ?hf ?_
     rotate_left
     rintro w3 ⟨c1, ⟨z, hz, c2⟩, c3, c4, c5, hz3⟩
     have C1 := Lib.hid c1; have C2 := Lib.hid c2; have C3 := Lib.hid c3; have C4 := Lib.hid c4; have C5 := Lib.hid c5; have HZ := Lib.hid hz
     clear c1 c2 c3 c4 c5 hz HB1 HB2)
  case hf =>
    have b0 : Blk w1 w.heap.size 184 s.arr := ((Blk.new _ _ _).alloc _).below HB1.out (by simp; omega)
    have b2 : Blk w1 (w.heap.size + 1) 184 _ := (Blk.newAt _ _ _ (by simp)).below HB1.out (by simp)
    have bb : Below w.heap.size w w1 := (((Below.refl _ _).alloc (Nat.le_refl _) _).alloc (by simp) _).trans (HB1.out.mono (by simp; omega))
    have b5 : Blk w2 w1.heap.size 210 _ := ((Blk.new w1 _ _).row _).below HB2.out (by simp)
    refine ⟨((((b0.alloc _).rowFar (by omega) _).below HB2.out (by simp; omega)).alloc _).rowFar (by omega) _, ⟨_, by rfl, ((((b2.alloc _).rowFar (by omega) _).below HB2.out (by simp; omega)).alloc _).rowFar (by omega) _⟩,
      (b5.alloc _).rowFar (by omega) _, (Blk.new _ _ _).row _, ?_, by simp⟩
    exact Below.row (((Below.row (bb.alloc (by omega) _) (by omega) _).trans (HB2.out.mono (by simp; omega))).alloc (by omega) _) (by omega) _
  have HB0 := Lib.hid ((C5.out.alloc (by have := C5.out.size; omega) (Obj.cells s.arr 184)))
  have H7 : Hid (Blk (w3.alloc (Obj.cells s.arr 184)) w3.heap.size 184 s.arr) := Blk.new _ _ _
  have hw3 : w.heap.size + 1 + 1 < w3.heap.size := by omega
  go_loopw [8, 9, 10, 11, 12, 13, 14] (fun i _ _ _ _ _ _ wr => ∃ t : Nat, t ≤ 64 ∧ i = .int .i64 t ∧ Blk wr w.heap.size 184 s.arr ∧ (∃ z : Array Value, z.size = 8 ∧ Blk wr (w.heap.size + 1) 184 z) ∧
      Blk wr w1.heap.size 210 ((sched (words bs 16) 48).map W32).toArray ∧ Blk wr w2.heap.size 210 (kList.map W32).toArray ∧ Blk wr w3.heap.size 184 (rnds (sched (words bs 16) 48) s t).arr ∧ Below w.heap.size w wr)
    (fun i _ _ _ _ _ _ _ => 64 - (intOf i).toNat)
  case atStart => exact ⟨0, by omega, rfl, C1.out.alloc _, ⟨z, HZ.out, C2.out.alloc _⟩, C3.out.alloc _, C4.out.alloc _, by rw [rnds_zero]; exact H7.out, HB0.out⟩
  case round =>
    obtain ⟨t, ht, rfl, d1, ⟨z2, hz2', d2⟩, d3, d4, d5, d6⟩ := hrel
    clear C1 C2 C3 C4 C5 HZ HB0 H7
    by_cases hlt : t < 64
    · have HN := Lib.hid (rnds_succ (sched (words bs 16) 48) s t)
      have k1 : wr.cell? ⟨w2.heap.size, t, none⟩ = some (W32 (kList.getD t 0)) := by
        rw [d4.cell]; have := kList_length; simp [show t < kList.length by omega]
      have k2 : wr.cell? ⟨w1.heap.size, t, none⟩ = some (W32 ((sched (words bs 16) 48).getD t 0)) := by
        rw [d3.cell]; have := HSL.out; simp only [List.length_map] at this; simp [show t < (sched (words bs 16) 48).length by omega]
      generalize kList.getD t 0 = kt at *
      generalize (sched (words bs 16) 48).getD t 0 = wt at *
      have r0 : wr.cell? ⟨w3.heap.size, 0, none⟩ = some (W32 (rnds (sched (words bs 16) 48) s t).a) := d5.cell 0
      have r1 : wr.cell? ⟨w3.heap.size, 1, none⟩ = some (W32 (rnds (sched (words bs 16) 48) s t).b) := d5.cell 1
      have r2 : wr.cell? ⟨w3.heap.size, 2, none⟩ = some (W32 (rnds (sched (words bs 16) 48) s t).c) := d5.cell 2
      have r3 : wr.cell? ⟨w3.heap.size, 3, none⟩ = some (W32 (rnds (sched (words bs 16) 48) s t).d) := d5.cell 3
      have r4 : wr.cell? ⟨w3.heap.size, 4, none⟩ = some (W32 (rnds (sched (words bs 16) 48) s t).e) := d5.cell 4
      have r5 : wr.cell? ⟨w3.heap.size, 5, none⟩ = some (W32 (rnds (sched (words bs 16) 48) s t).f) := d5.cell 5
      have r6 : wr.cell? ⟨w3.heap.size, 6, none⟩ = some (W32 (rnds (sched (words bs 16) 48) s t).g) := d5.cell 6
      have r7 : wr.cell? ⟨w3.heap.size, 7, none⟩ = some (W32 (rnds (sched (words bs 16) 48) s t).h) := d5.cell 7
      have D1 := Lib.hid d1; have D2 := Lib.hid d2; have D3 := Lib.hid d3; have D4 := Lib.hid d4; have D5 := Lib.hid d5; have D6 := Lib.hid d6; have HX := Lib.hid HN.out; have HZ := Lib.hid hz2'
      clear d1 d2 d3 d4 d5 d6 HN hz2'
      generalize rnds (sched (words bs 16) 48) s t = r at *
      go_wp2_with (go_at_call 165; refine (turned_int _ _ (by omega) (by omega) _).mono ?_; rintro e w' ⟨rfl, n, rfl⟩)
      refine wp_region_T [] [] (fun _ => True) (by kernel_rfl) (by kernel_rfl) trivial ?_
      repeat (first
        | (refine wpT_here (by rfl) (by rfl) (by rfl) (fun K hK => ?_); go_big_quiet_op; refine hK _ ?_; clear hK K)
        | (refine wpT_loud (by rfl) (by rfl) (fun K hK => ?_); go_big_op; refine hK _ _ trivial ?_; clear hK K))
      refine wpT_nil ?_
      go_wp2_with ((with_reducible show wpList _ _ _ _ _ _); refine wpList_stAll rfl 184 (.tmp 7) _ rfl (D5.out.drewN _) rfl rfl (by kernel_rfl) rfl (by simp [Value.oneCell']) ?_)
      go_roundw
      case rel =>
        exact ⟨t + 1, by omega, by go_num, (D1.out.drewN _).rowFar (by omega) _, ⟨z2, HZ.out, (D2.out.drewN _).rowFar (by omega) _⟩, (D3.out.drewN _).rowFar (by omega) _, (D4.out.drewN _).rowFar (by omega) _, by rw [HX.out]; exact (D5.out.drewN _).row _, Below.row (below_drewN D6.out _) (by omega) _⟩
      case measure => simp [intOf]; omega
    obtain rfl : t = 64 := by omega
    rw [show ((64 : Nat) : Int) = (64 : Int) from rfl]
    have D1 := Lib.hid d1; have D2 := Lib.hid d2; have D5 := Lib.hid d5; have D6 := Lib.hid d6; have HZ := Lib.hid hz2'; have HD := Lib.hid (step_def s bs)
    clear d1 d2 d3 d4 d5 d6 hz2'
    obtain ⟨r, hr⟩ : ∃ r, r = rnds (sched (words bs 16) 48) s 64 := ⟨_, rfl⟩
    rw [← hr] at D5 HD
    clear hr
    go_wp2
    go_loopw [15] (fun i wr' => ∃ k : Nat, k ≤ 8 ∧ i = .int .i64 k ∧ Blk wr' w.heap.size 184 ((mix s r k).map W32).toArray ∧ (∃ z : Array Value, z.size = 8 ∧ Blk wr' (w.heap.size + 1) 184 z) ∧
        Blk wr' w3.heap.size 184 (r.l.map W32).toArray ∧ Below w.heap.size w wr') (fun i _ => 8 - (intOf i).toNat)
    case atStart => exact ⟨0, by omega, rfl, by rw [mix_zero]; exact D1.out, ⟨z2, HZ.out, D2.out⟩, D5.out, D6.out⟩
    case round =>
      obtain ⟨k, hk, rfl, e1, ⟨z3, hz3', e2⟩, e5, e6⟩ := hrel
      clear D1 D2 D5 D6 HZ
      by_cases hlk : k < 8
      · have hl : r.l.length = 8 := rfl
        have k1 : wr.cell? ⟨w.heap.size, k, none⟩ = some (W32 (s.l.getD k 0)) := by
          rw [e1.cell]; simp [mix_at s r k hlk]
        have k2 : wr.cell? ⟨w3.heap.size, k, none⟩ = some (W32 (r.l.getD k 0)) := by
          rw [e5.cell]; simp [show k < r.l.length by omega]
        have k3 := e1.free k
        have hs : Blk (wr.setCell ⟨w.heap.size, k, none⟩ (W32 (s.l.getD k 0 + r.l.getD k 0))) w.heap.size 184 ((mix s r (k + 1)).map W32).toArray := by
          have := e1.put k (W32 (s.l.getD k 0 + r.l.getD k 0))
          rw [List.setIfInBounds_toArray, ← List.map_set, mix_set s r k hlk] at this
          exact this
        generalize s.l.getD k 0 = x at *
        generalize r.l.getD k 0 = y at *
        have E1 := Lib.hid hs; have E2 := Lib.hid e2; have E5 := Lib.hid e5; have E6 := Lib.hid e6; have HZ := Lib.hid hz3'
        clear e1 e2 e5 e6 hz3' hs hl
        go_wp2
        refine wp_region_T [9] [] (fun _ => True) (by kernel_rfl) (by kernel_rfl) trivial ?_
        repeat (first
          | (refine wpT_here (by rfl) (by rfl) (by rfl) (fun K hK => ?_); go_big_quiet_op; refine hK _ ?_; clear hK K)
          | (refine wpT_loud (by rfl) (by rfl) (fun K hK => ?_); go_big_op; refine hK _ _ trivial ?_; clear hK K))
        refine wpT_nil ?_
        go_wp2
        go_roundw
        case rel => exact ⟨k + 1, by omega, by go_num, E1.out.drew, ⟨z3, HZ.out, (E2.out.farAt (by omega) _).drew⟩, (E5.out.farAt (by omega) _).drew, (below_putAt E6.out (by omega) _).drew⟩
        case measure => simp [intOf]; omega
      obtain rfl : k = 8 := by omega
      rw [show ((8 : Nat) : Int) = (8 : Int) from rfl]
      rw [mix_eight] at e1
      have E1 := Lib.hid e1; have E2 := Lib.hid e2; have E6 := Lib.hid e6; have HZ := Lib.hid hz3'
      clear e1 e2 e5 e6 hz3'
      go_wp2_with ((with_reducible show wpList _ _ _ _ _ _); first
        | (refine wpList_ldAll rfl 184 (.tmp 2) rfl E1.out rfl (by kernel_rfl) (by kernel_rfl) ?_)
        | (refine wpList_stAll rfl 184 (.tmp 4) _ rfl E2.out rfl rfl (by kernel_rfl) HZ.out (one_map _ _ fun _ => rfl) ?_))
      refine bodyPost_ret (results_ldAll (mid := (addS s r).l.map W32) rfl _ (E2.out.row _) rfl (by kernel_rfl) (by kernel_rfl)) rfl ⟨?_, Below.row E6.out (by omega) _⟩
      rw [HD.out]; rfl
end Go.Proofs.YtgffimanhmpohaaGreat
namespace Go.Proofs.YtgffimanhmpohaaGreat
open Go Go.RowKit
theorem pad_step (n k : Nat) (hk : k < padN n) : (n + 1 + k) % 64 ≠ 56 := by unfold padN at hk; omega
theorem pad_end (n : Nat) : (n + 1 + padN n) % 64 = 56 := by unfold padN; omega
theorem row_nextB (xs : List UInt8) (n : Nat) (x : UInt8) (hn : 0 < n) : ((xs ++ List.replicate n 0).map B8).toArray.setIfInBounds xs.length (B8 x) = ((xs ++ [x] ++ List.replicate (n - 1) 0).map B8).toArray := by
  obtain ⟨m, rfl⟩ : ∃ m, n = m + 1 := ⟨n - 1, by omega⟩
  simp [List.replicate_succ]
theorem byte_of (x : BitVec 32) (r : Nat) (hr : r < 4) (v : Int) (hv : v = n32 x / ((256 ^ (3 - r) : Nat) : Int) % 256) : Value.int .u8 v = B8 (UInt8.ofNat (x.toNat / 256 ^ (3 - r))) := by
  rw [B8_ofNat, hv]; unfold n32
  rcases (by omega : r = 0 ∨ r = 1 ∨ r = 2 ∨ r = 3) with rfl | rfl | rfl | rfl <;> refine congrArg _ ?_ <;> simp only [Nat.reduceSub, Nat.reducePow] <;> omega
set_option maxRecDepth 100000 in
set_option maxHeartbeats 1600000 in
theorem sumR_any (l : List UInt8) (A : Option Addr) (c : Nat) (w : World) (hr : Rd byteE w w.heap.size A l) (hl : l.length ≤ 140737488355000) :
    Calls Tryz.prog 119 #[.slice A l.length c] w fun e w' => e = .returned (.agg ((sum l).map B8).toArray) ∧ Below w.heap.size w w' := by
  have HR := Lib.hid hr; clear hr
  have hpn : padN l.length < 64 := by unfold padN; omega
  go_enter Tryz.func119, Tryz.ntmps119
  iterate 6 go_step
  refine wpList_forget (fun w0 => (∃ z : Array Value, z.size = 32 ∧ Blk w0 w.heap.size 23 z) ∧ Below w.heap.size w w0 ∧ w.heap.size < w0.heap.size) ?_ ?_
  · exact ⟨⟨_, by rfl, Blk.new _ _ _⟩, (Below.refl _ _).alloc (Nat.le_refl _) _, by simp⟩
  rintro w0 ⟨⟨z, hz, b0⟩, bb, hw0⟩
  have hr0 := (HR.out.below bb).more (Nat.le_of_lt hw0)
  have BB := Lib.hid bb; have HZ := Lib.hid hz; have B0 := Lib.hid b0; have R0 := Lib.hid hr0; clear bb hz b0 hr0
  go_wp2_with (first
    | (at_builtin; refine wpList_app rfl byteE_fits (.tmp 10) (.tmp 11) 48 rfl Tryz.underlying48 rfl (base := w0.heap.size) (own_new _ _ (Nat.le_refl _)) rfl (R0.out.alloc (Nat.le_refl _) _) rfl (by simp only [maxLen, List.length_nil]; omega) (by simp only [byteE, List.length_nil]; omega) (by rw [World.size_alloc]; omega) ?_
       intro v1 w1 sp1 h1 h2 h3
       have BB1 := Lib.hid (below_own (BB.out.alloc (by omega) _) h2 (own_new w0 _ (Nat.le_refl _)) (Nat.le_of_lt hw0) (by rw [World.size_alloc]; omega))
       have B1 := Lib.hid ((B0.out.alloc (.cells #[] 5)).own h2 (own_new w0 _ (Nat.le_refl _)) hw0)
       have hs1 : w0.heap.size ≤ w1.heap.size := by have := h2.size; rw [World.size_alloc] at this; omega
       rw [List.nil_append] at h1
       have O1 := Lib.hid h1
       clear h1 h2 h3 BB B0 R0)
    | (at_builtin; refine wpList_app rfl byteE_fits (.tmp 13) (.tmp 14) 48 rfl Tryz.underlying48 rfl (O1.out.alloc _) rfl (rd_one _ (x := 128) rfl) rfl (by simp only [maxLen]; omega) (by simp only [byteE]; omega) (by rw [World.size_alloc]; omega) ?_
       intro v2 w2 sp2 h1 h2 h3
       have BB2 := Lib.hid (below_own (BB1.out.alloc (by omega) _) h2 (O1.out.alloc _) (Nat.le_of_lt hw0) (by rw [World.size_alloc]; omega))
       have B2 := Lib.hid ((B1.out.alloc _).own h2 (O1.out.alloc _) hw0)
       have hs2 : w0.heap.size ≤ w2.heap.size := by have := h2.size; rw [World.size_alloc] at this; omega
       have O2 := Lib.hid h1
       clear h1 h2 h3 BB1 B1 O1))
  go_loopw [3] (fun v wr => ∃ k : Nat, k ≤ padN l.length ∧ (∃ sp, Own byteE wr w0.heap.size v (l ++ [128] ++ List.replicate k 0) sp) ∧ Below w.heap.size w wr ∧ Blk wr w.heap.size 23 z ∧ w0.heap.size ≤ wr.heap.size)
    (fun v _ => l.length + 1 + padN l.length - slen v)
  case atStart => exact ⟨0, Nat.zero_le _, ⟨sp2, by simpa using O2.out⟩, BB2.out, B2.out, hs2⟩
  case round =>
    obtain ⟨k, hk, ⟨sp, ho⟩, hb, hz', hs⟩ := hrel
    clear BB2 B2 O2
    have hlen : (l ++ [128] ++ List.replicate k 0).length = l.length + 1 + k := by rw [List.length_append, List.length_append, List.length_replicate]; rfl
    obtain ⟨Av, cv, rfl, hcv1, hcv2⟩ := ho.shape hlen
    have HO := Lib.hid ho; have HB := Lib.hid hb; have HZ' := Lib.hid hz'; have HLEN := Lib.hid hlen
    clear ho hb hz' hlen hcv1 hcv2
    have hps := pad_step l.length k
    have hpe := pad_end l.length
    by_cases hlt : k < padN l.length
    · have hne : ¬ (((l.length : Int) + 1 + (k : Int)) % 64 = 56) := by have := hps hlt; omega
      clear hps hpe
      go_wp2_with (at_builtin; refine wpList_app rfl byteE_fits (.tmp 20) (.tmp 21) 48 rfl Tryz.underlying48 rfl (HO.out.alloc _) rfl (rd_one _ (x := 0) rfl) rfl (by rw [HLEN.out]; simp only [maxLen]; omega) (by rw [HLEN.out]; simp only [byteE]; omega) (by rw [World.size_alloc]; omega) ?_; intro v1 w1 sp1 h1 h2 h3)
      rw [List.append_assoc, ← List.replicate_succ'] at h1
      have hlen' : (l ++ [128] ++ List.replicate (k + 1) 0).length = l.length + 1 + (k + 1) := by rw [List.length_append, List.length_append, List.length_replicate]; rfl
      obtain ⟨A1, c1, rfl, _, _⟩ := h1.shape hlen'
      have BB1 := Lib.hid (below_own (HB.out.alloc (by omega) _) h2 (HO.out.alloc _) (Nat.le_of_lt hw0) (by rw [World.size_alloc]; omega))
      have B1 := Lib.hid ((HZ'.out.alloc _).own h2 (HO.out.alloc _) hw0)
      have hs1 : w0.heap.size ≤ w1.heap.size := by have := h2.size; rw [World.size_alloc] at this; omega
      have O1 := Lib.hid h1
      clear h1 h2 h3 HB HZ' HO hlen'
      go_wp2
      go_roundw
      case rel => exact ⟨k + 1, hlt, ⟨sp1, O1.out⟩, BB1.out, B1.out, hs1⟩
      case measure => simp [slen]; omega
    obtain rfl : k = padN l.length := by omega
    have hne : (((l.length : Int) + 1 + ((padN l.length : Nat) : Int)) % 64 = 56) := by omega
    clear hps hpe
    have HNE := Lib.hid hne; clear hne
    have hbl : ((((l.length : Int) + 1 + ((padN l.length : Nat) : Int)) % 64) != 56) = false := by simpa using HNE.out
    go_wp2
    clear hbl
    go_loopw [3, 5] (fun v i wr => ∃ m : Nat, m ≤ 8 ∧ i = .int .i64 ((m : Int) - 1) ∧ (∃ sp, Own byteE wr w0.heap.size v (l ++ [128] ++ List.replicate (padN l.length) 0 ++ (be (l.length * 8) 8).take (8 - m)) sp) ∧ Below w.heap.size w wr ∧ Blk wr w.heap.size 23 z ∧ w0.heap.size ≤ wr.heap.size)
      (fun _ i _ => (intOf i + 1).toNat)
    case atStart => exact ⟨8, by omega, rfl, ⟨sp, by simpa using HO.out⟩, HB.out, HZ'.out, hs⟩
    case round =>
      clear HO HB HZ' hs
      obtain ⟨m, hm, rfl, ⟨sp3, ho⟩, hb, hz', hs⟩ := hrel
      have hlen : (l ++ [128] ++ List.replicate (padN l.length) 0 ++ (be (l.length * 8) 8).take (8 - m)).length = l.length + 1 + padN l.length + (8 - m) := by
        rw [List.length_append, List.length_append, List.length_append, List.length_replicate, List.length_take, be_length]; simp only [List.length_cons, List.length_nil]; omega
      obtain ⟨g3, c3, rfl, hcv1, hcv2, hg3, hg3'⟩ := ho.shapePos hlen (by omega)
      have HO := Lib.hid ho; have HB := Lib.hid hb; have HZ' := Lib.hid hz'; have HL3 := Lib.hid hlen
      clear ho hb hz' hlen
      by_cases hm0 : m = 0
      · subst hm0
        have hpad : l ++ [128] ++ List.replicate (padN l.length) 0 ++ (be (l.length * 8) 8).take (8 - 0) = pad l := by
          rw [pad_def, List.take_of_length_le (by rw [be_length]; omega)]
        have e : l.length + 1 + padN l.length + (8 - 0) = (pad l).length := by rw [pad_size]; omega
        have hN64 := pad_length l
        have hNle : (pad l).length ≤ 140737488355200 := by rw [pad_size]; omega
        have ho' := HO.out
        rw [hpad, e] at ho'
        have HO' := Lib.hid ho'
        clear ho' hpad HO HL3
        rw [e] at hcv1 ⊢
        rw [show ((0 : Nat) : Int) - 1 = -1 from rfl]
        clear e
        have hcc := hcv1
        obtain ⟨wb, rfl⟩ : ∃ wb : World, wb = wr := ⟨_, rfl⟩
        have H4 : Hid (Blk (wb.alloc (Obj.cells h0.arr 184)) wb.heap.size 184 h0.arr) := Blk.new _ _ _
        have HB4 := Lib.hid (HB.out.alloc (by omega) (Obj.cells h0.arr 184))
        go_wp2
        go_loopw [7] (fun i wr => ∃ q : Nat, 64 * q ≤ (pad l).length ∧ i = .int .i64 ((64 * q : Nat) : Int) ∧ Blk wr wb.heap.size 184 (steps h0 q (pad l)).arr ∧ Own byteE wr w0.heap.size (.slice (some ⟨g3, 0, none⟩) (pad l).length c3) (pad l) sp3 ∧ Below w.heap.size w wr ∧ Blk wr w.heap.size 23 z ∧ wb.heap.size < wr.heap.size)
          (fun i _ => (pad l).length - (intOf i).toNat)
        case atStart => exact ⟨0, by omega, rfl, by rw [steps_zero]; exact H4.out, HO'.out.alloc _, HB4.out, HZ'.out.alloc _, by simp⟩
        case round =>
          clear H4 HB4 HO' HZ' HB
          obtain ⟨q, hq, rfl, k1, k2, k3, k4, k5⟩ := hrel
          by_cases hlt : 64 * q < (pad l).length
          · have hq64 : 64 * q + 64 ≤ (pad l).length := by omega
            have hblk : ((pad l).drop (64 * q)).length = (pad l).length - 64 * q := List.length_drop
            have hrd : Rd byteE wr wr.heap.size (some ⟨g3, 64 * q, none⟩) (((pad l).drop (64 * q)).take 64) := by
              have := (k2.rd.cut (k := 64 * q) (cap := c3) (by omega)).take 64
              rw [if_neg (by omega)] at this
              simpa [byteE, addr_add] using this
            have htl : (((pad l).drop (64 * q)).take 64).length = 64 := by rw [List.length_take, hblk]; omega
            have HRD := Lib.hid hrd; have HTL := Lib.hid htl; have HST := Lib.hid (steps_next h0 q (pad l))
            have K1 := Lib.hid k1; have K2 := Lib.hid k2; have K3 := Lib.hid k3; have K4 := Lib.hid k4
            clear hrd htl hblk k1 k2 k3 k4 hq
            go_wp2
            refine wp_region_T [6, 7] [] (fun _ => True) (by kernel_rfl) (by kernel_rfl) (by first | rfl | trivial | assumption) ?_
            repeat (first
              | (refine wpT_skip (by rfl) ?_)
              | (refine wpT_ldAll (by rfl) (by rfl) (by rfl) 184 _ rfl (mid := (steps h0 q (pad l)).arr.toList) K1.out.drew rfl (by kernel_rfl) (by kernel_rfl) ?_; go_simp)
              | (refine wpT_here (by rfl) (by rfl) (by rfl) (fun K hK => ?_); go_big_quiet_op; refine hK _ ?_; clear hK K)
              | (refine wpT_loud (by rfl) (by rfl) (fun K hK => ?_); first | (go_step; refine (stepR_any (steps h0 q (pad l)) _ HTL.out _ _ _ (HRD.out.drew)).mono ?_; rintro e w5 ⟨rfl, hb5⟩; have HB5 := Lib.hid hb5; clear hb5; dsimp only; refine hK _ _ trivial ?_) | (refine wp_stAll 184 _ _ rfl (K1.out.drew.below HB5.out (by rw [World.size_drew]; omega)) rfl rfl (by kernel_rfl) (Eq.trans (b := 8) rfl rfl) (by simp [Value.oneCell']) ?_; refine hK _ _ trivial ?_); clear hK K))
            refine wpT_nil ?_
            have K1' := Lib.hid ((K1.out.drew.below HB5.out (by rw [World.size_drew]; omega)).row (step (steps h0 q (pad l)) (List.take 64 (List.drop (64 * q) (pad l)))).arr)
            have K2' := Lib.hid ((K2.out.drew.belowSize HB5.out).row (k := wb.heap.size) (by simp [Value.ownBlock]; omega) (step (steps h0 q (pad l)) (List.take 64 (List.drop (64 * q) (pad l)))).arr)
            have K3' := Lib.hid (Below.row (K3.out.drew.trans (HB5.out.mono (by rw [World.size_drew]; omega))) (g := wb.heap.size) (by omega) (step (steps h0 q (pad l)) (List.take 64 (List.drop (64 * q) (pad l)))).arr)
            have K4' := Lib.hid ((K4.out.drew.below HB5.out (by rw [World.size_drew]; omega)).rowFar (k := wb.heap.size) (by omega) (step (steps h0 q (pad l)) (List.take 64 (List.drop (64 * q) (pad l)))).arr)
            have K5' : wb.heap.size < w5.heap.size := by have := HB5.out.size; rw [World.size_drew] at this; omega
            clear K1 K2 K3 K4 HRD HB5
            go_wp2
            go_roundw
            case rel => exact ⟨q + 1, by omega, by go_num, by rw [HST.out]; exact K1'.out, K2'.out, K3'.out, K4'.out, by simpa using K5'⟩
            case measure => simp [intOf]; omega
          have hqq : 64 * q = (pad l).length := by omega
          have hsum : sum l = out (steps h0 q (pad l)) := by rw [sum_def, show (pad l).length / 64 = q by omega]
          have HSUM := Lib.hid hsum; clear hsum
          have K1 := Lib.hid k1; have K3 := Lib.hid k3; have K4 := Lib.hid k4
          clear k1 k2 k3 k4 hq hqq
          obtain ⟨S, hS⟩ : ∃ S, S = steps h0 q (pad l) := ⟨_, rfl⟩
          rw [← hS] at K1 HSUM
          clear hS
          obtain ⟨wc, rfl⟩ : ∃ wc : World, wc = wr := ⟨_, rfl⟩
          have h00 : ((out S).take 0 ++ List.replicate (32 - 0) 0).map B8 = List.replicate 32 (B8 0) := by simp
          have H00 := Lib.hid h00; clear h00
          have KB := Lib.hid (K3.out.alloc (by omega) (Obj.cells (List.replicate 32 (B8 0)).toArray 23))
          go_wp2
          go_loopw [9] (fun i wr => ∃ k : Nat, k ≤ 32 ∧ i = .int .i64 k ∧ Blk wr wc.heap.size 23 (((out S).take k ++ List.replicate (32 - k) 0).map B8).toArray ∧ Blk wr wb.heap.size 184 S.arr ∧ Below w.heap.size w wr ∧ Blk wr w.heap.size 23 z)
            (fun i _ => 32 - (intOf i).toNat)
          case atStart => exact ⟨0, by omega, rfl, by rw [H00.out]; exact Blk.new _ _ _, K1.out.alloc _, KB.out, K4.out.alloc _⟩
          case round =>
            clear KB K1 K3 K4
            obtain ⟨k, hk, rfl, f1, f2, f3, f4⟩ := hrel
            by_cases hlt : k < 32
            · have hdiv : ((k : Int) / 4) = ((k / 4 : Nat) : Int) := by omega
              have hk4 : k / 4 < 8 := by omega
              have hkk : 4 * (k / 4) + k % 4 = k := by omega
              have hr4 : k % 4 < 4 := by omega
              have hx := out_at S (k / 4) (k % 4) hk4 hr4
              rw [hkk] at hx
              have hlen : ((out S).take k).length = k := by rw [List.length_take, out_length]; omega
              have c1 : wr.cell? ⟨wb.heap.size, k / 4, none⟩ = some (W32 (S.l.getD (k / 4) 0)) := by
                have hb : Blk wr wb.heap.size 184 (S.l.map W32).toArray := f2
                rw [hb.cell]; have : S.l.length = 8 := rfl; simp [show k / 4 < S.l.length by omega]
              have c2 : wr.cell? ⟨wc.heap.size, k, none⟩ = some (B8 0) := by
                rw [f1.cell]; simp [List.getElem?_append, out_length, hk, Nat.min_eq_left, show 0 < 32 - k by omega]
              have c3 := f1.free k
              have hn : ∀ v, v = B8 (UInt8.ofNat ((S.l.getD (k / 4) 0).toNat / 256 ^ (3 - k % 4))) → Blk (wr.setCell ⟨wc.heap.size, k, none⟩ v) wc.heap.size 23 (((out S).take (k + 1) ++ List.replicate (32 - (k + 1)) 0).map B8).toArray := by
                rintro v rfl
                have := f1.put k (B8 (UInt8.ofNat ((S.l.getD (k / 4) 0).toNat / 256 ^ (3 - k % 4))))
                have hh := row_nextB ((out S).take k) (32 - k) (UInt8.ofNat ((S.l.getD (k / 4) 0).toNat / 256 ^ (3 - k % 4))) (by omega)
                rw [hlen] at hh
                rw [hh] at this
                rw [List.take_add_one, hx]
                exact this
              have HN := Lib.hid hn; have F2 := Lib.hid f2; have F3 := Lib.hid f3; have F4 := Lib.hid f4; have HBO := Lib.hid (byte_of (S.l.getD (k / 4) 0) (k % 4) hr4)
              clear hn f1 f2 f3 f4 hx hlen hkk hr4
              generalize S.l.getD (k / 4) 0 = x at *
              have hmod : ((k : Int) % 4) = ((k % 4 : Nat) : Int) := by omega
              have hm4 : k % 4 = 0 ∨ k % 4 = 1 ∨ k % 4 = 2 ∨ k % 4 = 3 := by omega
              generalize k % 4 = r at *
              generalize k / 4 = q4 at *
              rcases hm4 with rfl | rfl | rfl | rfl
              all_goals
                go_wp2
                go_roundw
                case rel => exact ⟨k + 1, by omega, by go_num, HN.out _ (HBO.out _ (by simp only [Nat.reduceSub, Nat.reducePow]; first | rfl | omega)), F2.out.farAt (by omega) _, below_putAt F3.out (by omega) _, F4.out.farAt (by omega) _⟩
                case measure => simp [intOf]; omega
            obtain rfl : k = 32 := by omega
            rw [show ((32 : Nat) : Int) = (32 : Int) from rfl]
            have hm : ((out S).take 32 ++ List.replicate (32 - 32) 0) = sum l := by rw [HSUM.out, List.take_of_length_le (by rw [out_length]; omega)]; simp
            rw [hm] at f1
            have hl3 : ((sum l).map B8).length = 32 := by rw [List.length_map, sum_length]
            have F1 := Lib.hid f1; have F3 := Lib.hid f3; have F4 := Lib.hid f4; have HL3' := Lib.hid hl3
            clear f1 f2 f3 f4 hm hl3
            go_wp2_with ((with_reducible show wpList _ _ _ _ _ _); first
              | (refine wpList_ldAll rfl 23 (.tmp 8) rfl F1.out rfl (by kernel_rfl) (by rw [HL3'.out]; kernel_rfl) ?_)
              | (refine wpList_stAll rfl 23 (.tmp 2) _ rfl F4.out rfl rfl (by rw [HL3'.out]; kernel_rfl) (by rw [HL3'.out, HZ.out]) (one_map _ _ fun _ => rfl) ?_))
            refine bodyPost_ret (results_ldAll (mid := (sum l).map B8) rfl _ (F4.out.row _) rfl (by kernel_rfl) (by rw [HL3'.out]; kernel_rfl)) rfl ⟨rfl, Below.row F3.out (by omega) _⟩
      have hbe : ∀ x, (be (l.length * 8) 8)[8 - m]? = some x → (be (l.length * 8) 8).take (8 - m) ++ [x] = (be (l.length * 8) 8).take (8 - (m - 1)) := by
        intro x hx
        rw [show 8 - (m - 1) = (8 - m) + 1 by omega, List.take_add_one, hx]; rfl
      have HBE := Lib.hid hbe; clear hbe
      have hl2 : l.length + 1 + padN l.length + (8 - m) ≤ 140737488355200 := by omega
      have hxb : ∀ val, val = B8 (UInt8.ofNat (l.length * 8 / 256 ^ (m - 1))) → ∀ W : World, Rd byteE (W.alloc (.cells #[val] 5)) (W.heap.size + 1) (some ⟨W.heap.size, 0, none⟩) [UInt8.ofNat (l.length * 8 / 256 ^ (m - 1))] := fun _ h W => rd_one W h
      have HXB := Lib.hid hxb; clear hxb
      have HAT : Hid ((be (l.length * 8) 8).take (8 - m) ++ [UInt8.ofNat (l.length * 8 / 256 ^ (m - 1))] = (be (l.length * 8) 8).take (8 - (m - 1))) := by
        refine HBE.out _ ?_
        rcases (by omega : m = 1 ∨ m = 2 ∨ m = 3 ∨ m = 4 ∨ m = 5 ∨ m = 6 ∨ m = 7 ∨ m = 8) with rfl | rfl | rfl | rfl | rfl | rfl | rfl | rfl <;> rfl
      have hA : (l ++ [128] ++ List.replicate (padN l.length) 0 ++ (be (l.length * 8) 8).take (8 - (m - 1))).length = l.length + 1 + padN l.length + (8 - (m - 1)) := by
        rw [List.length_append, List.length_append, List.length_append, List.length_replicate, List.length_take, be_length]; simp only [List.length_cons, List.length_nil]; omega
      have HA := Lib.hid hA; clear hA
      rcases (by omega : m = 1 ∨ m = 2 ∨ m = 3 ∨ m = 4 ∨ m = 5 ∨ m = 6 ∨ m = 7 ∨ m = 8) with rfl | rfl | rfl | rfl | rfl | rfl | rfl | rfl
      all_goals
        go_wp2_with (at_builtin; refine wpList_app rfl byteE_fits (.tmp 31) (.tmp 37) 48 rfl Tryz.underlying48 rfl (HO.out.alloc _) rfl (HXB.out _ (by rw [B8_ofNat]; simp only [Nat.reduceSub, Nat.reducePow]; refine congrArg _ ?_; omega) _) rfl (by rw [HL3.out]; simp only [maxLen]; omega) (by rw [HL3.out]; simp only [byteE]; omega) (by rw [World.size_alloc]; omega) ?_; intro v4 w4 sp4 h1 h2 h3)
        rw [List.append_assoc, HAT.out] at h1
        have BB4 := Lib.hid (below_own (HB.out.alloc (by omega) _) h2 (HO.out.alloc _) (Nat.le_of_lt hw0) (by rw [World.size_alloc]; omega))
        have B4 := Lib.hid ((HZ'.out.alloc _).own h2 (HO.out.alloc _) hw0)
        have hs4 : w0.heap.size ≤ w4.heap.size := by have := h2.size; rw [World.size_alloc] at this; omega
        have O4 := Lib.hid h1
        clear h1 h2 h3 HB HZ' HO HXB HBE
        go_wp2
        go_roundw
        case rel => exact ⟨_, by omega, by rfl, ⟨sp4, O4.out⟩, BB4.out, B4.out, hs4⟩
        case measure => simp [intOf]
section
variable {P : Program}
theorem VC.ofA {f : FuncId} {args : List AV} {res : AV} (hf : Fok P f)
    (h : ∀ (w : World) (N : Gh) (vs : List Value), Mem N w → vs.length = args.length → (∀ (i : Nat) x v, args[i]? = some x → vs[i]? = some v → RV N x v) →
      Calls P f vs.toArray w fun e w' => ∃ v, e = .returned v ∧ Below w.heap.size w w' ∧ RV N res v) : VC P f args [] res := by
  refine ⟨hf, fun w N vs hI hl hv => (h w N vs hI.mem hl hv).mono ?_⟩
  rintro e w' ⟨v, rfl, hb, hr⟩
  exact ⟨N, v, rfl, hI.keep (fun k hk => hb.block k hk) hb.size hb.os hb.tape hb.output, hr⟩
theorem two {args : List AV} {vs : List Value} {N : Gh} {x y : AV} (hl : vs.length = [x, y].length) (hv : ∀ (i : Nat) a v, [x, y][i]? = some a → vs[i]? = some v → RV N a v) : ∃ u v, vs = [u, v] ∧ RV N x u ∧ RV N y v := by
  match vs, hl with
  | [u, v], _ => exact ⟨u, v, rfl, hv 0 x u rfl rfl, hv 1 y v rfl rfl⟩
theorem one_ {vs : List Value} {N : Gh} {x : AV} (hl : vs.length = [x].length) (hv : ∀ (i : Nat) a v, [x][i]? = some a → vs[i]? = some v → RV N a v) : ∃ u, vs = [u] ∧ RV N x u := by
  match vs, hl with
  | [u], _ => exact ⟨u, rfl, hv 0 x u rfl rfl⟩
theorem RC.bs_rd {g : Gh} {w : World} (hM : Mem g w) {l : List UInt8} {u : Value} (h : RV g (.bs l none) u) : ∃ A c, u = .slice A l.length c ∧ Rd byteE w w.heap.size A l := by
  obtain ⟨_, A, c, e, _, _, hr⟩ := h.bs_inv.bs_inv
  injection e with e
  refine ⟨A, c, e, ?_⟩
  rcases hr with h | ⟨b, o, hA, hj⟩
  · exact .inl h
  by_cases hl : l = []
  · exact .inl hl
  refine .inr ⟨b, o, hA, ?_, fun j u hu => ?_⟩
  · have h0 : 0 < l.length := List.length_pos_iff.2 hl
    exact hM.lt (hj 0 h0)
  rw [byteE_all, List.getElem?_map] at hu
  obtain ⟨x, hx, rfl⟩ := Option.map_eq_some_iff.1 hu
  obtain ⟨hjl, e⟩ := List.getElem?_eq_some_iff.1 hx
  exact hM.ro _ _ _ (by rw [← e]; exact hj j hjl)
def s8v (s : S8) : AV := .st [.v (W32 s.a), .v (W32 s.b), .v (W32 s.c), .v (W32 s.d), .v (W32 s.e), .v (W32 s.f), .v (W32 s.g), .v (W32 s.h)]
def s8T : Ty := .cn .sc (.cn .sc (.cn .sc (.cn .sc (.cn .sc (.cn .sc (.cn .sc (.cn .sc .nl)))))))
theorem s8v_inv {g : Gh} {s : S8} {u : Value} (h : RV g (s8v s) u) : u = .agg s.arr := by
  obtain ⟨T, cs, _, hr, rfl⟩ := h.st_inv
  unfold s8v at *
  cases hr with | cn h1 hr => cases h1; cases hr with | cn h1 hr => cases h1; cases hr with | cn h1 hr => cases h1; cases hr with | cn h1 hr => cases h1; cases hr with | cn h1 hr => cases h1; cases hr with | cn h1 hr => cases h1; cases hr with | cn h1 hr => cases h1; cases hr with | cn h1 hr => cases h1; cases hr; rfl
theorem s8v_rc (g : Gh) (s : S8) : RC g s8T (s8v s) s.arr.toList := by
  show RC g s8T (s8v s) ([_] ++ ([_] ++ ([_] ++ ([_] ++ ([_] ++ ([_] ++ ([_] ++ ([_] ++ []))))))))
  exact .cn (.v rfl) (.cn (.v rfl) (.cn (.v rfl) (.cn (.v rfl) (.cn (.v rfl) (.cn (.v rfl) (.cn (.v rfl) (.cn (.v rfl) .nl)))))))
end
theorem step_v (s : S8) (b : List UInt8) (hb : b.length = 64) : VC Tryz.prog 124 [s8v s, .ba b] [] (s8v (step s b)) := by
  refine VC.ofA ⟨_, Tryz.func124, by kernel_rfl, by kernel_rfl⟩ fun w N vs hM hl hv => ?_
  obtain ⟨u, v, rfl, h1, h2⟩ := two (args := []) hl hv
  have e1 := s8v_inv h1; have e2 := h2.ba_inv
  subst e1 e2
  refine (step_any s b hb w).mono ?_
  rintro e w' ⟨rfl, hw⟩
  exact ⟨_, rfl, hw, (show RV1 N (s8v (step s b)) _ from .inl ⟨s8T, _, rfl, s8v_rc N _, rfl⟩).rv⟩
theorem sumR_v (l : List UInt8) (hl : l.length ≤ 140737488355000) : VC Tryz.prog 119 [.bs l none] [] (.ba (sum l)) := by
  refine VC.ofA ⟨_, Tryz.func119, by kernel_rfl, by kernel_rfl⟩ fun w N vs hM hn hv => ?_
  obtain ⟨u, rfl, h1⟩ := one_ hn hv
  obtain ⟨A, c, rfl, hr⟩ := RC.bs_rd hM h1
  refine (sumR_any l A c w hr hl).mono ?_
  rintro e w' ⟨rfl, hw⟩
  exact ⟨_, rfl, hw, (show RV1 N (.ba (sum l)) _ from .inl ⟨.ba 32, _, rfl, .ba (sum_length l), rfl⟩).rv⟩
theorem ren_s8v (fb fr : Nat → Option Nat) (d : Nat) (s : S8) : ren fb fr (d + 1) (s8v s) = s8v s := by cases d <;> rfl
def shv (s : S8) (b : List UInt8) (n all : Nat) : AV := .st [.v (.bool true), s8v s, .ba b, .v (.int .i64 (n : Int)), .v (.int .i64 (all : Int))]
theorem ren_shv (fb fr : Nat → Option Nat) (d : Nat) (s : S8) (b : List UInt8) (n all : Nat) : ren fb fr (d + 2) (shv s b n all) = shv s b n all := by cases d <;> rfl
theorem begin_v : VC Tryz.prog 122 [] [] (s8v h0) := by
  refine v_enter Tryz.func122 rfl (by kernel_rfl) (by decide) ?_
  intro N w0 a w hN hR H
  have hX := And.intro @ren_s8v (@ren_shv)
  have hY := And.intro @s8v.eq_1 (And.intro @shv.eq_1 (And.intro @W32.eq_1 (@h0.eq_1)))
  refine mW ?_; clear H; intro a w H
  refine wp_ret ?_; exact mEnd [] [] [.cell 0 184] [_] hN hR H
theorem new_v : VX Tryz.prog 105 [] [] [] [] [(ti188.ty, shv h0 (List.replicate 64 0) 0 0)] [] [] (.ptr 0 []) := by
  refine v_enter Tryz.func105 rfl (by kernel_rfl) (by decide) ?_
  intro N w0 a w hN hR H
  have hX := And.intro @ren_s8v (@ren_shv)
  have hY := And.intro @s8v.eq_1 (And.intro @shv.eq_1 (And.intro @W32.eq_1 (@h0.eq_1)))
  refine mW ?_; clear H; intro a w H
  refine mCall [] [] (begin_v) H ?_; clear H; intro a w H; try refine wpList_nil ?_
  refine mW ?_; clear H; intro a w H
  clear hX; have hX := And.intro @ren_s8v (And.intro @ren_shv (@shv.eq_1))
  refine wp_ret ?_; exact mEnd [0] [] [.tmp 0] [_] hN hR H
theorem none_v (s : S8) (b : List UInt8) (n all : Nat) : VX Tryz.prog 123 [(ti188.ty, shv s b n all)] [] [] [.ptr 0 []] [(ti188.ty, shv s b n all)] [] [] (.v (.bool false)) := by
  refine v_enter Tryz.func123 rfl (by kernel_rfl) (by show 1 ≤ 12; decide) ?_
  intro N w0 a w hN hR H
  have hX := And.intro @ren_s8v (@ren_shv)
  have hY := And.intro @s8v.eq_1 (And.intro @shv.eq_1 (And.intro @W32.eq_1 (@h0.eq_1)))
  refine mW ?_; clear H; intro a w H
  refine wp_ret ?_; exact mEnd [0] [] [.tmp 2] [_] hN hR H
def feed : Nat → S8 → List UInt8 → Nat → List UInt8 → S8 × List UInt8 × Nat
  | 0, s, b, n, _ => (s, b, n)
  | f + 1, s, b, n, l => if l = [] then (s, b, n) else
      let b' := b.take n ++ l.take (64 - n) ++ b.drop (n + (l.take (64 - n)).length)
      if n + (l.take (64 - n)).length = 64 then feed f (step s b') b' 0 (l.drop (l.take (64 - n)).length) else feed f s b' (n + (l.take (64 - n)).length) (l.drop (l.take (64 - n)).length)
set_option maxRecDepth 20000 in
theorem write_v (s : S8) (b : List UInt8) (n all : Nat) (l : List UInt8) (hb : b.length = 64) (hn : n < 64) (hl : l.length ≤ 34359738368) (ha : all ≤ 34359738368) :
    VX Tryz.prog 106 [(ti188.ty, shv s b n all)] [] [] [.ptr 0 [], .bs l none]
      [(ti188.ty, shv (feed l.length s b n l).1 (feed l.length s b n l).2.1 (feed l.length s b n l).2.2 (all + l.length))] [] [] (.v (.int .i64 (l.length : Int))) := by
  refine v_enter Tryz.func106 rfl (by kernel_rfl) (by show 2 ≤ 65; decide) ?_
  intro N w0 a w hN hR H
  have hX := And.intro @ren_s8v (@ren_shv)
  have hY := And.intro @s8v.eq_1 (And.intro @shv.eq_1 (And.intro @W32.eq_1 (@h0.eq_1)))
  refine mW ?_; clear H; intro a w H
  refine mCall [0] [] (none_v s b n all) H ?_; clear H; intro a w H; try refine wpList_nil ?_
  refine mC H (fun hb => ?_) (fun hb => ?_)
  · cases hb
  clear hX; have hX := And.intro @ren_s8v (And.intro @ren_shv (@shv.eq_1))
  refine mW ?_; clear H; intro a w H
  refine v_loop (fun i : S8 × List UInt8 × Nat × List UInt8 => ⟨[(0, none, .ptr 0 []), (1, none, .bs l none), (5, none, .bs i.2.2.2 none)], [(ti188.ty, .st [.v (.bool true), s8v i.1, .ba i.2.1, .v (.int .i64 (i.2.2.1 : Int)), .v (.int .i64 ((all : Int) + (l.length : Int)))])], [], []⟩)
    (fun i => i.2.1.length = 64 ∧ i.2.2.1 < 64 ∧ i.2.2.2.length ≤ l.length ∧ ∃ f, i.2.2.2.length ≤ f ∧ feed f i.1 i.2.1 i.2.2.1 i.2.2.2 = feed l.length s b n l) (fun i => i.2.2.2.length) (s, b, n, l) ⟨by assumption, hn, Nat.le_refl _, l.length, Nat.le_refl _, rfl⟩
    (H.to 1 0 ⟨hN, hR⟩ ⟨rfl, rfl, rfl, trivial⟩ rfl rfl rfl rfl rfl) ?_
  clear H
  rintro ⟨s', b', n', rest⟩ a w ⟨hb', hn', hr', f, hf, hfe⟩ H
  dsimp only at hb' hn' hr' hf hfe
  refine mW ?_; clear H; intro a w H
  refine mC H (fun hb => ?_) (fun hb => ?_)
  · have h0 : 0 < rest.length := by simpa using hb
    refine mW ?_; clear H; intro a w H
    refine mS ?_; refine mD 0 [9] [] H ?_; clear H; intro gS H; refine mT ?_; clear H; intro a w H
    refine v_drawNil H ?_; clear H; intro H
    obtain ⟨k, hk⟩ : ∃ k, k = (rest.take (64 - n')).length := ⟨_, rfl⟩
    rw [← hk] at H
    rw [List.length_take] at hk
    have hk1 : n' + k ≤ 64 ∧ 0 < k ∧ k ≤ rest.length := by omega
    have hk2 : (rest.take (64 - n')).length = k := by rw [List.length_take]; omega
    have hlb : (b'.take n' ++ rest.take (64 - n') ++ b'.drop (n' + k)).length = 64 := by simp only [List.length_append, List.length_take, List.length_drop]; omega
    obtain ⟨f, rfl⟩ : ∃ g, f = g + 1 := ⟨f - 1, by omega⟩
    have hne : rest ≠ [] := fun e => by subst e; simp at h0
    rw [feed, if_neg hne] at hfe
    dsimp only at hfe
    rw [hk2] at hfe
    have hdl : (rest.drop k).length = rest.length - k := List.length_drop
    refine mW ?_; clear H; intro a w H
    refine mC H (fun hb => ?_) (fun hb => ?_)
    · have he : n' + k = 64 := by simp at hb; omega
      rw [if_pos he] at hfe
      refine mW ?_; clear H; intro a w H
      refine mS ?_; refine mD 0 [10, 13, 16] [0, 1] H ?_; clear H; intro gS H; refine mT ?_; clear H; intro a w H
      refine mCallT [] [] (step_v s' (b'.take n' ++ rest.take (64 - n') ++ b'.drop (n' + k)) hlb) H ?_; clear H; intro a w H
      refine mT ?_; clear H; intro a w H
      refine v_drawNil H ?_; clear H; intro H
      refine mW ?_; clear H; intro a w H
      exact ⟨(_, _, 0, rest.drop k), ⟨hlb, by show 0 < 64; decide, by dsimp only; omega, f, by dsimp only; omega, hfe⟩, by dsimp only; omega, H.to 1 0 ⟨hN, hR⟩ ⟨rfl, rfl, rfl, trivial⟩ rfl rfl rfl rfl rfl⟩
    have he : ¬ n' + k = 64 := by simp at hb; omega
    rw [if_neg he] at hfe
    refine mW ?_; clear H; intro a w H
    exact ⟨(s', _, n' + k, rest.drop k), ⟨hlb, by dsimp only; omega, by dsimp only; omega, f, by dsimp only; omega, hfe⟩, by dsimp only; omega, H.to 1 0 ⟨hN, hR⟩ ⟨rfl, rfl, rfl, trivial⟩ rfl rfl rfl rfl rfl⟩
  have h0 : rest = [] := by simp at hb; exact hb
  subst h0
  have hfe2 : feed l.length s b n l = (s', b', n') := by
    rw [← hfe]; cases f with
    | zero => rfl
    | succ f => rw [feed, if_pos rfl]
  rw [hfe2]
  refine mW ?_; clear H; intro a w H
  refine wp_ret ?_; exact mEnd [0] [] [.tmp 4] [_] hN hR H
def be4n (x : Nat) : List UInt8 := [UInt8.ofNat (x / 16777216), UInt8.ofNat (x / 65536), UInt8.ofNat (x / 256), UInt8.ofNat x]
set_option maxRecDepth 20000 in
theorem put32_v (x : Nat) (hx : x < 4294967296) : VC Tryz.prog 125 [.v (.int .i64 (x : Int))] [(5, 4)] (.tup [.bs (be4n x) (some 0), .v (.int .i64 0)]) := by
  refine v_enter Tryz.func125 rfl (by kernel_rfl) (by show 1 ≤ 22; decide) ?_
  intro N w0 a w hN hR H
  refine mW ?_; clear H; intro a w H
  refine mC H (fun hb => ?_) (fun hb => ?_)
  · simp at hb; omega
  refine mW ?_; clear H; intro a w H
  have e1 := u8n x 16777216; have e2 := u8n x 65536; have e3 := u8n x 256; have e4 := u8m x
  simp only [Int.cast_ofNat_Int] at e1 e2 e3
  rw [e1, e2, e3, e4] at H
  refine wp_ret ?_; exact mEnd [] [0] [.tmp 2, .tmp 3] [_, _] hN hR H
theorem be4n_len (x : Nat) : (be4n x).length = 4 := rfl
structure Good (l : List UInt8) (s : S8) (b : List UInt8) (n : Nat) : Prop where
  bl : b.length = 64
  nn : n = l.length % 64
  ss : s = steps h0 (l.length / 64) l
  bb : b.take n = l.drop (64 * (l.length / 64))
theorem Good.lt {l : List UInt8} {s : S8} {b : List UInt8} {n : Nat} (h : Good l s b n) : n < 64 := by rw [h.nn]; exact Nat.mod_lt _ (by decide)
theorem good_nil : Good [] h0 (List.replicate 64 0) 0 := ⟨by simp, rfl, by simp [steps_zero], rfl⟩
theorem feed_good : ∀ (f : Nat) (m l : List UInt8) (s : S8) (b : List UInt8) (n : Nat), m.length ≤ f → Good l s b n → Good (l ++ m) (feed f s b n m).1 (feed f s b n m).2.1 (feed f s b n m).2.2
  | 0, m, l, s, b, n, hm, h => by
    have : m = [] := List.length_eq_zero_iff.1 (by omega)
    subst this; simpa [feed] using h
  | f + 1, m, l, s, b, n, hm, h => by
    have hlt := h.lt
    by_cases hz : m = []
    · subst hz; rw [feed, if_pos rfl]; simpa using h
    have hm0 : 0 < m.length := List.length_pos_iff.2 hz
    rw [feed, if_neg hz]
    dsimp only
    obtain ⟨k, hk⟩ : ∃ k, k = (m.take (64 - n)).length := ⟨_, rfl⟩
    rw [← hk]
    rw [List.length_take] at hk
    have hkm : m.take (64 - n) = m.take k := by
      rw [hk]
      rcases Nat.le_total (64 - n) m.length with h1 | h1
      · rw [Nat.min_eq_left h1]
      rw [Nat.min_eq_right h1, List.take_length, List.take_of_length_le h1]
    rw [hkm]
    have hbl := h.bl
    have hlb : (b.take n ++ m.take k ++ b.drop (n + k)).length = 64 := by simp only [List.length_append, List.length_take, List.length_drop]; omega
    have hdl : (m.drop k).length ≤ f := by rw [List.length_drop]; omega
    have hn := h.nn
    have hll : (l ++ m.take k).length = l.length + k := by rw [List.length_append, List.length_take]; omega
    have hsplit : l ++ m = (l ++ m.take k) ++ m.drop k := by rw [List.append_assoc, List.take_append_drop]
    have htk : (b.take n ++ m.take k ++ b.drop (n + k)).take (n + k) = b.take n ++ m.take k := by
      rw [List.take_append_of_le_length (by simp only [List.length_append, List.length_take]; omega), List.take_of_length_le (by simp only [List.length_append, List.length_take]; omega)]
    have hdr : (l ++ m.take k).drop (64 * (l.length / 64)) = b.take n ++ m.take k := by
      rw [List.drop_append_of_le_length (by omega), h.bb]
    by_cases he : n + k = 64
    · rw [if_pos he, hsplit]
      refine feed_good f (m.drop k) (l ++ m.take k) _ _ 0 hdl ⟨hlb, by rw [hll]; omega, ?_, ?_⟩
      · have hq : (l ++ m.take k).length / 64 = l.length / 64 + 1 := by rw [hll]; omega
        have e1 : (b.take n ++ m.take k).take 64 = b.take n ++ m.take k := List.take_of_length_le (by simp only [List.length_append, List.length_take]; omega)
        rw [hq, steps_next, steps_append _ _ _ _ (by omega), ← h.ss, hdr, e1, he, List.drop_of_length_le (by omega), List.append_nil]
      have : 64 * ((l ++ m.take k).length / 64) = (l ++ m.take k).length := by rw [hll]; omega
      rw [this, List.drop_length]; rfl
    rw [if_neg he, hsplit]
    have hnk : n + k < 64 := by omega
    have hq : (l ++ m.take k).length / 64 = l.length / 64 := by rw [hll]; omega
    refine feed_good f (m.drop k) (l ++ m.take k) _ _ (n + k) hdl ⟨hlb, by rw [hll]; omega, ?_, ?_⟩
    · rw [hq, steps_append _ _ _ _ (by omega)]; exact h.ss
    rw [hq, htk, hdr]
theorem write_g (l m : List UInt8) (s : S8) (b : List UInt8) (n : Nat) (h : Good l s b n) (hl : m.length ≤ 34359738368) (all : Nat) (ha : all ≤ 34359738368) :
    ∃ s' b' n', Good (l ++ m) s' b' n' ∧ VX Tryz.prog 106 [(ti188.ty, shv s b n all)] [] [] [.ptr 0 [], .bs m none]
      [(ti188.ty, shv s' b' n' (all + m.length))] [] [] (.v (.int .i64 (m.length : Int))) :=
  ⟨_, _, _, feed_good m.length m l s b n (Nat.le_refl _) h, write_v s b n all m h.bl h.lt hl ha⟩
def outK (s : S8) : Nat → List UInt8
  | 0 => List.replicate 32 0
  | k + 1 => (outK s k).take (4 * k) ++ (be4n (s.l.getD k 0).toNat).take (32 - 4 * k) ++ (outK s k).drop (4 * k + ((be4n (s.l.getD k 0).toNat).take (32 - 4 * k)).length)
theorem outK_end (s : S8) : outK s 8 = out s := by
  simp [outK, be4n, out, be4, S8.l, List.replicate]
theorem n32lt (y : BitVec 32) : y.toNat < 4294967296 := y.isLt
theorem be8 (v : Nat) (hv : v < 18446744073709551616) : be v 8 = be4n (v / 4294967296) ++ be4n (v % 4294967296) := by
  simp only [be, be4n, List.cons_append, List.nil_append]
  have h1 : ∀ a b : Nat, a % 256 = b % 256 → UInt8.ofNat a = UInt8.ofNat b := fun a b h => UInt8.toNat_inj.1 (by simpa using h)
  have e7 : UInt8.ofNat (v / 256 ^ 7) = UInt8.ofNat (v / 4294967296 / 16777216) := h1 _ _ (by first | rfl | (simp only [Nat.reducePow]; omega))
  have e6 : UInt8.ofNat (v / 256 ^ 6) = UInt8.ofNat (v / 4294967296 / 65536) := h1 _ _ (by first | rfl | (simp only [Nat.reducePow]; omega))
  have e5 : UInt8.ofNat (v / 256 ^ 5) = UInt8.ofNat (v / 4294967296 / 256) := h1 _ _ (by first | rfl | (simp only [Nat.reducePow]; omega))
  have e4 : UInt8.ofNat (v / 256 ^ 4) = UInt8.ofNat (v / 4294967296) := h1 _ _ (by first | rfl | (simp only [Nat.reducePow]; omega))
  have e3 : UInt8.ofNat (v / 256 ^ 3) = UInt8.ofNat (v % 4294967296 / 16777216) := h1 _ _ (by first | rfl | (simp only [Nat.reducePow]; omega))
  have e2 : UInt8.ofNat (v / 256 ^ 2) = UInt8.ofNat (v % 4294967296 / 65536) := h1 _ _ (by first | rfl | (simp only [Nat.reducePow]; omega))
  have e1 : UInt8.ofNat (v / 256 ^ 1) = UInt8.ofNat (v % 4294967296 / 256) := h1 _ _ (by first | rfl | (simp only [Nat.reducePow]; omega))
  have e0 : UInt8.ofNat (v / 256 ^ 0) = UInt8.ofNat (v % 4294967296) := h1 _ _ (by first | rfl | (simp only [Nat.reducePow]; omega))
  rw [e7, e6, e5, e4, e3, e2, e1, e0]
set_option maxRecDepth 20000 in
theorem sumS_v (l : List UInt8) (s : S8) (b : List UInt8) (n : Nat) (h : Good l s b n) (hl : l.length ≤ 34359738000) :
    VX Tryz.prog 107 [(ti188.ty, shv s b n l.length)] [] [] [.ptr 0 []] [(ti188.ty, shv s b n l.length)] [] [] (.ba (sum l)) := by
  have hbl := h.bl
  refine v_enter Tryz.func107 rfl (by kernel_rfl) (by show 1 ≤ 68; decide) ?_
  intro N w0 a w hN hR H
  have hX := And.intro @ren_s8v (And.intro @ren_shv (@shv.eq_1))
  have hY := And.intro @s8v.eq_1 (And.intro @shv.eq_1 (And.intro @W32.eq_1 (@h0.eq_1)))
  refine mW ?_; clear H; intro a w H
  refine mCall [0] [] (none_v s b n l.length) H ?_; clear H; intro a w H; try refine wpList_nil ?_
  refine mC H (fun hb => ?_) (fun hb => ?_)
  · cases hb
  refine mW ?_; clear H; intro a w H
  obtain ⟨s1, b1, n1, h1, hw1⟩ := write_g l [128] s b n h (by decide) l.length (by omega)
  refine mCall [2] [] (hw1) H ?_; clear H; intro a w H; try refine wpList_nil ?_
  refine mW ?_; clear H; intro a w H
  have e4 : (l.length : Int) * 8 % 18446744073709551616 = ((l.length * 8 : Nat) : Int) := by omega
  rw [e4] at H
  refine v_loop (fun i : S8 × List UInt8 × Nat × Nat => ⟨[(0, none, .ptr 0 []), (2, none, .ptr 1 []), (3, none, .ptr 2 []), (4, none, .v (.int .u64 ((l.length * 8 : Nat) : Int)))], [(ti188.ty, .st [.v (.bool true), s8v s, .ba b, .v (.int .i64 (n : Int)), .v (.int .i64 (l.length : Int))]), (.ba 32, .ba (List.replicate 32 0)), (ti188.ty, .st [.v (.bool true), s8v i.1, .ba i.2.1, .v (.int .i64 (i.2.2.1 : Int)), .v (.int .i64 ((l.length + 1 + i.2.2.2 : Nat) : Int))])], [], []⟩)
    (fun i => Good (l ++ [128] ++ List.replicate i.2.2.2 0) i.1 i.2.1 i.2.2.1 ∧ i.2.2.2 ≤ padN l.length) (fun i => padN l.length - i.2.2.2) (s1, b1, n1, 0) ⟨by simpa using h1, Nat.zero_le _⟩
    (H.to 3 0 ⟨Nat.le_trans hN (by show 1 ≤ 3; decide), hR⟩ ⟨rfl, rfl, rfl, rfl, trivial⟩ rfl rfl rfl rfl rfl) ?_
  clear H
  rintro ⟨s2, b2, n2, z⟩ a w ⟨h2, hz⟩ H
  dsimp only at h2 hz
  have hn2 := h2.nn
  have hlen2 : (l ++ [128] ++ List.replicate z 0).length = l.length + 1 + z := by simp; omega
  rw [hlen2] at hn2
  have hpd : padN l.length < 64 ∧ (l.length + 1 + padN l.length) % 64 = 56 := by unfold padN; omega
  have hbl2 := h2.bl
  refine mW ?_; clear H; intro a w H
  refine mC H (fun hb => ?_) (fun hb => ?_)
  · have hne : n2 ≠ 56 := fun e => by simp [e] at hb
    have hz1 : z + 1 ≤ padN l.length := by
      rcases Nat.lt_or_ge z (padN l.length) with h5 | h5
      · omega
      have : z = padN l.length := by omega
      subst this; omega
    obtain ⟨s3, b3, n3, h3, hw3⟩ := write_g _ [0] s2 b2 n2 h2 (by decide) (l.length + 1 + z) (by omega)
    refine mW ?_; clear H; intro a w H
    refine mCall [2] [] (hw3) H ?_; clear H; intro a w H; try refine wpList_nil ?_
    refine mW ?_; clear H; intro a w H
    exact ⟨(s3, b3, n3, z + 1), ⟨by rw [List.append_assoc] at h3; simpa [← List.replicate_succ'] using h3, hz1⟩, by dsimp only; omega, H.to 3 0 ⟨Nat.le_trans hN (by show 1 ≤ 3; decide), hR⟩ ⟨rfl, rfl, rfl, rfl, trivial⟩ rfl rfl rfl rfl rfl⟩
  have he : n2 = 56 := by simp at hb; omega
  have hz1 : z = padN l.length := by omega
  subst hz1
  subst he
  refine mW ?_; clear H; intro a w H
  have e5 : ((l.length * 8 : Nat) : Int) / 4294967296 = ((l.length * 8 / 4294967296 : Nat) : Int) := by omega
  rw [e5] at H
  have hand : bits .and .u64 ((l.length * 8 : Nat) : Int) 4294967295 = ((l.length * 8 % 4294967296 : Nat) : Int) := by
    have h5 := u64_and_nat (l.length * 8) 4294967295 (by omega) (by decide)
    rw [show (4294967295 : Nat) = 2 ^ 32 - 1 from rfl, Nat.and_two_pow_sub_one_eq_mod] at h5
    exact h5
  clear hX; have hX := And.intro @ren_s8v (And.intro @ren_shv (And.intro @shv.eq_1 (@hand)))
  clear hY; have hY := And.intro @s8v.eq_1 (And.intro @shv.eq_1 (And.intro @W32.eq_1 (And.intro @h0.eq_1 (@hand))))
  refine mCall [] [] (put32_v (l.length * 8 / 4294967296) (by omega)) H ?_; clear H; intro a w H; try refine wpList_nil ?_
  refine mW ?_; clear H; intro a w H
  refine mCall [] [] (put32_v (l.length * 8 % 4294967296) (by omega)) H ?_; clear H; intro a w H; try refine wpList_nil ?_
  refine mW ?_; clear H; intro a w H
  obtain ⟨s3, b3, n3, h3, hw3⟩ := write_g _ (be4n (l.length * 8 / 4294967296)) s2 b2 56 h2 (by rw [be4n_len]; decide) (l.length + 1 + padN l.length) (by omega)
  refine mCall [2] [] (hw3) H ?_; clear H; intro a w H; try refine wpList_nil ?_
  refine mW ?_; clear H; intro a w H
  obtain ⟨s4, b4, n4, h4, hw4⟩ := write_g _ (be4n (l.length * 8 % 4294967296)) s3 b3 n3 h3 (by rw [be4n_len]; decide) (l.length + 1 + padN l.length + 4) (by omega)
  clear hX; have hX := And.intro @ren_s8v (And.intro @ren_shv (And.intro @shv.eq_1 (And.intro @hand (@be4n_len))))
  refine mCall [2] [] (hw4) H ?_; clear H; intro a w H; try refine wpList_nil ?_
  refine mW ?_; clear H; intro a w H
  have hpad : l ++ [128] ++ List.replicate (padN l.length) 0 ++ be4n (l.length * 8 / 4294967296) ++ be4n (l.length * 8 % 4294967296) = pad l := by
    rw [pad_def, be8 _ (by omega), List.append_assoc _ (be4n _)]
  rw [hpad] at h4
  have hout : out s4 = sum l := by rw [sum_def, ← h4.ss]
  refine v_loop (fun k : Nat => ⟨[(2, none, .ptr 1 []), (9, none, .ptr 3 []), (50, none, s8v s4), (51, none, .v (.int .i64 (k : Int)))], [(ti188.ty, .st [.v (.bool true), s8v s, .ba b, .v (.int .i64 (n : Int)), .v (.int .i64 (l.length : Int))]), (.ba 32, .ba (List.replicate 32 0)), (ti188.ty, .st [.v (.bool true), s8v s4, .ba b4, .v (.int .i64 (n4 : Int)), .v (.int .i64 ((l.length + 1 + padN l.length + 4 + 4 : Nat) : Int))]), (.ba 32, .ba (outK s4 k))], [], []⟩)
    (fun k => k ≤ 8) (fun k => 8 - k) 0 (by decide) (H.to 4 0 ⟨Nat.le_trans hN (by show 1 ≤ 4; decide), hR⟩ ⟨rfl, rfl, rfl, rfl, trivial⟩ rfl rfl rfl rfl rfl) ?_
  clear H
  intro k a w hk H
  have hN0 := hN
  replace hN : N.bx.length ≤ 100 := Nat.le_trans hN (by show 1 ≤ 100; decide)
  refine mW ?_; clear H; intro a w H
  refine mC H (fun hb => ?_) (fun hb => ?_)
  · have hk8 : k < 8 := by simp at hb; omega
    have hs8 : k = 0 ∨ k = 1 ∨ k = 2 ∨ k = 3 ∨ k = 4 ∨ k = 5 ∨ k = 6 ∨ k = 7 := by omega
    have hol : ∀ k, k ≤ 8 → (outK s4 k).length = 32 := fun k hk => by
      induction k with
      | zero => simp [outK]
      | succ k ih => have := ih (by omega); simp only [outK, List.length_append, List.length_take, List.length_drop, be4n_len]; omega
    have q0 := n32_lo s4.a; have q1 := n32_lo s4.b; have q2 := n32_lo s4.c; have q3 := n32_lo s4.d; have q4 := n32_lo s4.e; have q5 := n32_lo s4.f; have q6 := n32_lo s4.g; have q7 := n32_lo s4.h
    have r0 := n32_hi s4.a; have r1 := n32_hi s4.b; have r2 := n32_hi s4.c; have r3 := n32_hi s4.d; have r4 := n32_hi s4.e; have r5 := n32_hi s4.f; have r6 := n32_hi s4.g; have r7 := n32_hi s4.h
    have o0 := hol 0 (by decide); have o1 := hol 1 (by decide); have o2 := hol 2 (by decide); have o3 := hol 3 (by decide); have o4 := hol 4 (by decide); have o5 := hol 5 (by decide); have o6 := hol 6 (by decide); have o7 := hol 7 (by decide)
    rcases hs8 with rfl | rfl | rfl | rfl | rfl | rfl | rfl | rfl
    all_goals
      refine mW ?_; clear H; intro a w H
      refine mCall [] [] (put32_v _ (n32lt _)) H ?_; clear H; intro a w H; try refine wpList_nil ?_
      refine mW ?_; clear H; intro a w H
      refine ⟨_ + 1, by decide, ?_, H.to 4 0 ⟨Nat.le_trans hN0 (by show 1 ≤ 4; decide), hR⟩ ⟨rfl, rfl, rfl, rfl, trivial⟩ rfl rfl rfl rfl rfl⟩
      decide
  have he8 : k = 8 := by simp at hb; omega
  subst he8
  rw [outK_end, hout] at H
  have hsl := sum_length l
  refine mW ?_; clear H; intro a w H
  replace hN := hN0
  refine wp_ret ?_; exact mEnd [0] [] [.cell 2 33] [_] hN hR H
structure Nd where
  k : UInt8
  key : List UInt8
  v : List UInt8
  l : List UInt8
  r : List UInt8
  deriving DecidableEq
def z32 : List UInt8 := List.replicate 32 0
theorem hz : List.replicate 32 (0 : UInt8) = z32 := rfl
structure Nd.wf (n : Nd) : Prop where
  key : n.key.length = 32
  v : n.v.length = 32
  l : n.l.length = 32
  r : n.r.length = 32
def Nd.zero : Nd := ⟨0, z32, z32, z32, z32⟩
def Nd.bare (n : Nd) : Nd := if n.k = 1 then ⟨1, n.key, n.v, z32, z32⟩ else if n.k = 2 then ⟨2, z32, z32, n.l, n.r⟩ else .zero
def Nd.ok (n : Nd) : Prop := n = n.bare
instance (n : Nd) : Decidable n.ok := inferInstanceAs (Decidable (n = n.bare))
def Nd.text (n : Nd) : List UInt8 := if n.k = 1 then 1 :: (n.key ++ n.v) else if n.k = 2 then 2 :: (n.l ++ n.r) else [0]
abbrev errv (n : Int) : AV := .v (.int .i64 n)
set_option maxRecDepth 20000 in
theorem slbGet_v (s : Slb) (hs : s.wf) (h : Int) :
    VX Tryz.prog 75 s.bx [] [] [.ptr 0 [], .v (.int .i64 h)] s.bx [] [] (.tup [(s.get_ h).av, errv (if s.ok_ h then 0 else 7)]) := by
  have hn := slbNone_v s.γ s.δ s.sl.length s.m s.room s.used (s.sl.map slA) (s.fs.map inA) hs.room.1
  have hml : (s.sl.map slA).length = s.sl.length := List.length_map ..
  have hz2 : (List.replicate 32 (0 : UInt8)).length = 32 := List.length_replicate
  unfold Slb.get_ Slb.ok_
  cases hat : s.at_ h with
  | some p =>
    obtain ⟨x, c⟩ := p
    obtain ⟨i, rfl, hi, hx⟩ := Slb.at_some hat
    obtain ⟨c1, _, x1, x2, x3⟩ := Slb.at_pos hs hat
    have hat := slbAt_ok s.γ s.δ s.m s.room s.used s.sl (s.fs.map inA) hs.room.1 i x c hx c1 hs.len
    have hg := sl_get s.sl i _ hx
    simp only [slA, SN.av] at hg
    simp only [Slb.bx, SN.av, Option.isSome_some, if_true]
    generalize s.sl.map slA = es at *
    generalize s.fs.map inA = fs at *
    refine mE Tryz.func75 ?_; intro N w0 a w hN hR H
    refine mW ?_; clear H; intro a w H
    refine mCall [0, 1, 2] [] (hn) H ?_; clear H; intro a w H; try refine wpList_nil ?_
    refine mW ?_; clear H; intro a w H
    refine mC H (fun hb => ?_) (fun hb => ?_)
    · exact absurd hb (by decide)
    clear hb
    refine mW ?_; clear H; intro a w H
    refine mCall [0, 1, 2] [] (hat) H ?_; clear H; intro a w H; try refine wpList_nil ?_
    refine mW ?_; clear H; intro a w H
    refine mC H (fun hb => ?_) (fun hb => ?_)
    · exact absurd hb (by decide)
    clear hb
    refine mS ?_
    have hX := And.intro @hml (And.intro @hg (And.intro @x1 (And.intro @x2 (And.intro @x3 (@hz2)))))
    (try refine wp_region_lit ?_); refine mN 4 hN H ?_; clear H; intro a w H
    refine mW ?_; clear H; intro a w H
    refine wp_ret ?_; exact mEnd [0, 1, 2] [] [.cell 4 81, .tmp 5] [_, _] hN hR H
  | none =>
    have hat := slbAt_no s.γ s.δ s.m s.room s.used s.sl (s.fs.map inA) hs.room.1 h hs.len (Slb.at_none hat)
    simp only [Slb.bx, SN.av, SN.zero, Option.isSome_none, Bool.false_eq_true, if_false]
    generalize s.sl.map slA = es at *
    generalize s.fs.map inA = fs at *
    refine mE Tryz.func75 ?_; intro N w0 a w hN hR H
    have hX := And.intro @hml (@hz2)
    refine mW ?_; clear H; intro a w H
    refine mCall [0, 1, 2] [] (hn) H ?_; clear H; intro a w H; try refine wpList_nil ?_
    refine mW ?_; clear H; intro a w H
    refine mC H (fun hb => ?_) (fun hb => ?_)
    · exact absurd hb (by decide)
    clear hb
    refine mW ?_; clear H; intro a w H
    refine mCall [0, 1, 2] [] (hat) H ?_; clear H; intro a w H; try refine wpList_nil ?_
    refine mW ?_; clear H; intro a w H
    refine mC H (fun hb => ?_) (fun hb => ?_)
    · refine mW ?_; clear H; intro a w H
      refine wp_ret ?_
      exact v_end [0, 1, 2] [] tab_ok ⟨hN, hR⟩ (rs := [.cell 4 81, .tmp 5]) (ress := [_, _]) rfl H (by rfl) (by rfl) cbX cwX (by exact ⟨⟨⟨rfl, trivial⟩, rfl, rfl, rfl, rfl, rfl, rfl, rfl, rfl, rfl, trivial⟩, sub_refl _ _, trivial⟩) rfl
    exact absurd hb (by decide)
theorem Slb.set_some {s : Slb} {h : Int} {x : SN} {c : Nat} {i : Nat} (hat : s.at_ h = some (x, c)) (hi : h = (i : Int) + 1) (n : SN) : s.set_ h n = { s with sl := s.sl.set i (some (n, c)) } := by
  unfold Slb.set_; rw [hat]; subst hi
  dsimp only
  rw [show ((i : Int) + 1 - 1).toNat = i by omega]
set_option maxRecDepth 20000 in
theorem slbSet_v (s : Slb) (hs : s.wf) (h : Int) (x : SN) (c : Nat) (hat0 : s.at_ h = some (x, c)) (n : SN) (hn0 : n.wf) :
    VX Tryz.prog 86 s.bx [] [] [.ptr 0 [], .v (.int .i64 h), n.av] (s.set_ h n).bx [] [] (errv 0) := by
  have hn := slbNone_v s.γ s.δ s.sl.length s.m s.room s.used (s.sl.map slA) (s.fs.map inA) hs.room.1
  have hml : (s.sl.map slA).length = s.sl.length := List.length_map ..
  obtain ⟨i, hi0, hi, hx⟩ := Slb.at_some hat0
  rw [Slb.set_some hat0 hi0 n]
  subst hi0
  obtain ⟨c1, _, x1, x2, x3⟩ := Slb.at_pos hs hat0
  obtain ⟨n1, n2, n3⟩ := hn0
  have hat := slbAt_ok s.γ s.δ s.m s.room s.used s.sl (s.fs.map inA) hs.room.1 i x c hx c1 hs.len
  have hg := sl_get s.sl i _ hx
  have hst : (s.sl.set i (some (n, c))).map slA = (s.sl.map slA).set i (.st [n.av, .v (.int .i64 (c : Int))]) := by rw [List.map_set]; rfl
  simp only [slA, SN.av] at hg
  simp only [Slb.bx, hst, List.length_set]
  simp only [SN.av]
  generalize s.sl.map slA = es at *
  generalize s.fs.map inA = fs at *
  refine mE Tryz.func86 ?_; intro N w0 a w hN hR H
  refine mW ?_; clear H; intro a w H
  refine mCall [0, 1, 2] [] (hn) H ?_; clear H; intro a w H; try refine wpList_nil ?_
  refine mW ?_; clear H; intro a w H
  refine mC H (fun hb => ?_) (fun hb => ?_)
  · exact absurd hb (by decide)
  clear hb
  refine mW ?_; clear H; intro a w H
  refine mCall [0, 1, 2] [] (hat) H ?_; clear H; intro a w H; try refine wpList_nil ?_
  refine mW ?_; clear H; intro a w H
  refine mC H (fun hb => ?_) (fun hb => ?_)
  · exact absurd hb (by decide)
  clear hb
  have hX := And.intro @hml (And.intro @hg (And.intro @x1 (And.intro @x2 (And.intro @x3 (And.intro @n1 (And.intro @n2 (@n3)))))))
  refine mW ?_; clear H; intro a w H
  refine wp_ret ?_; exact mEnd [0, 1, 2] [] [.tmp 6] [_] hN hR H
set_option maxRecDepth 20000 in
set_option maxHeartbeats 4000000 in
theorem slbPush_v (s : Slb) (hs : s.wf) (hm : s.m = 0) (hu : s.used < s.room) (n : SN) (hn0 : n.wf) (hl : s.sl.length < 65536) :
    VX Tryz.prog 68 s.bx [] [] [.ptr 0 [], n.av] (s.push n).bx [] [] (.tup [.v (.int .i64 ((s.sl.length : Int) + 1)), errv 0]) := by
  have hn := slbNone_v s.γ s.δ s.sl.length s.m s.room s.used (s.sl.map slA) (s.fs.map inA) hs.room.1
  have hml : (s.sl.map slA).length = s.sl.length := List.length_map ..
  have hr := hs.room.2
  obtain ⟨n1, n2, n3⟩ := hn0
  have hst : (s.sl ++ [some (n, 1)]).map slA = s.sl.map slA ++ [.st [n.av, .v (.int .i64 1)]] := by rw [List.map_append]; rfl
  have htk : (s.sl.map slA).take s.sl.length = s.sl.map slA := List.take_of_length_le (by omega)
  have d1 : decide ((s.used : Int) = (s.room : Int)) = false := decide_eq_false (by omega)
  unfold Slb.push
  simp only [Slb.bx, hst, List.length_append, List.length_singleton]
  rw [hm] at hn ⊢
  simp only [SN.av]
  generalize s.sl.map slA = es at *
  generalize s.fs.map inA = fs at *
  refine mE Tryz.func68 ?_; intro N w0 a w hN hR H
  refine mW ?_; clear H; intro a w H
  replace H := v_ref H 3 3 (Nat.le_trans hN (Nat.le_of_ble_eq_true rfl)) rfl rfl rfl
  simp only [nilT, strip, List.map_cons, List.map_nil, reduceIte, Nat.reduceEqDiff] at H
  refine mCall [0, 1, 2] [] (hn) H ?_; clear H; intro a w H; try refine wpList_nil ?_
  have hX := And.intro @hml (And.intro @n1 (And.intro @n2 (And.intro @n3 (And.intro @d1 (@htk)))))
  refine mW ?_; clear H; intro a w H
  refine mC H (fun hb => ?_) (fun hb => ?_)
  · exact absurd hb (by decide)
  clear hb
  refine mS ?_
  replace H := mK [0, 3, 4, 5] 4 0 hN hR H
  refine mS ?_; refine mD 0 [] [] H ?_; clear H; intro gS H
  refine mT ?_; clear H; intro a w H
  refine v_drawNil H ?_; clear H; intro H
  refine mC H (fun hb => ?_) (fun hb => ?_)
  · exact absurd hb (by decide)
  clear hb
  refine mS ?_
  replace H := mK [0, 3, 4, 5] 4 0 hN hR H
  refine mW ?_; clear H; intro a w H
  refine mC H (fun hb => ?_) (fun hb => ?_)
  · exact absurd hb (by decide)
  clear hb
  refine mS ?_
  replace H := mK [0, 3, 4, 5, 6] 4 0 hN hR H
  repeat (first | refine wp_seq ?_ | refine wp_block ?_)
  refine v_drawZ 0 [0, 1, 2, 3, 5, 6, 4, 7, 8, 9, 10, 11] [4, 7, 8, 11] [0, 1, 2, 3, 5, 6] [(4, 7)] (by kernel_rfl) (by kernel_rfl) (by kernel_rfl) (by kernel_rfl) (by kernel_rfl) H (by rfl) ?_; clear H; intro gS H; try replace H := ntf H
  repeat' ((first | refine wpZ_q1 rfl rfl ?_ | refine wpZ_l1 rfl rfl rfl ?_ | refine wpZ_l2 rfl rfl rfl rfl rfl ?_ ?_ | refine wpZ_l3 rfl rfl rfl rfl rfl rfl rfl ?_ ?_ ?_ | refine wpZ_l4 rfl rfl rfl rfl rfl rfl rfl rfl rfl ?_ ?_ ?_ ?_) <;> ((first | (refine v_someT 1 tab_ok hN H rfl ctX ?_; clear H; intro a w H; replace H := ntf H; simp only [drL])); refine wpT_nil ?_; try dsimp only))
  all_goals (refine wpZ_nil ?_; replace H := RelT.toRel H)
  all_goals
    refine mW ?_; clear H; intro a w H
    rw [show ((s.sl.length + 1 : Nat) : Int) = (s.sl.length : Int) + 1 by omega, show (s.used : Int) + 1 = ((s.used + 1 : Nat) : Int) by omega] at H
    refine wp_ret ?_; exact mEnd [0, 1, 2] [] [.tmp 4, .tmp 5] [_, _] hN hR H
def Slb.new (room : Nat) : Slb := ⟨0, 0, [], [], 0, room, 0⟩
theorem slbNew_v (room : Nat) (h1 : 0 < room) (h2 : room ≤ 65536) :
    VX Tryz.prog 33 [] [] [] [.v (.int .i64 (room : Int))] (Slb.new room).bx [] [] (.tup [.ptr 0 [], errv 0]) := by
  have d1 : decide ((room : Int) < 1) = false := decide_eq_false (by omega)
  have d2 : decide ((65536 : Int) < (room : Int)) = false := decide_eq_false (by omega)
  unfold Slb.new
  simp only [Slb.bx, List.map_nil, List.length_nil]
  refine mE Tryz.func33 ?_; intro N w0 a w hN hR H
  have hX := And.intro @d1 (@d2)
  refine mW ?_; clear H; intro a w H
  refine mC H (fun hb => ?_) (fun hb => ?_)
  · exact absurd hb (by decide)
  clear hb
  refine mW ?_; clear H; intro a w H
  replace H := v_nilVB tab_ok H 0 [0] 148 (j := ti148) rfl (by decide) rfl rfl rfl
  simp only [List.set_cons_succ, List.set_cons_zero, List.length_cons, List.length_nil, Nat.reduceAdd, List.cons_append, List.nil_append, AV.put, List.getElem?_cons_succ, List.getElem?_cons_zero] at H
  replace H := v_nilVB tab_ok H 0 [1] 3 (j := ti3) rfl (by decide) rfl rfl rfl
  simp only [List.set_cons_succ, List.set_cons_zero, List.length_cons, List.length_nil, Nat.reduceAdd, List.cons_append, List.nil_append, AV.put, List.getElem?_cons_succ, List.getElem?_cons_zero] at H
  refine wp_ret ?_; exact mEnd [0, 1, 2] [] [.tmp 2, .tmp 3] [_, _] hN hR H
def Slb.cnt (s : Slb) (i : Nat) (n : SN) (c : Nat) : Slb := { s with sl := s.sl.set i (some (n, c)) }
def Slb.free (s : Slb) (i : Nat) : Slb := { s with δ := s.δ + 1, sl := s.sl.set i none, fs := s.fs.take s.m ++ [(i : Int) + 1], m := s.m + 1, used := s.used - 1 }
set_option maxRecDepth 20000 in
set_option maxHeartbeats 4000000 in
theorem slbHold_v (s : Slb) (hs : s.wf) (i : Nat) (x : SN) (c : Nat) (hat0 : s.at_ ((i : Int) + 1) = some (x, c)) (hc : c < 1073741824) :
    VX Tryz.prog 55 s.bx [] [] [.ptr 0 [], .v (.int .i64 ((i : Int) + 1))] (s.cnt i x (c + 1)).bx [] [] (errv 0) := by
  have hn := slbNone_v s.γ s.δ s.sl.length s.m s.room s.used (s.sl.map slA) (s.fs.map inA) hs.room.1
  have hml : (s.sl.map slA).length = s.sl.length := List.length_map ..
  obtain ⟨j, hi0, hi, hx⟩ := Slb.at_some hat0
  obtain rfl : j = i := by omega
  obtain ⟨c1, _, x1, x2, x3⟩ := Slb.at_pos hs hat0
  have hat := slbAt_ok s.γ s.δ s.m s.room s.used s.sl (s.fs.map inA) hs.room.1 j x c hx c1 hs.len
  have hg := sl_get s.sl j _ hx
  have hst : (s.sl.set j (some (x, c + 1))).map slA = (s.sl.map slA).set j (.st [x.av, .v (.int .i64 ((c : Int) + 1))]) := by rw [List.map_set]; rfl
  have d1 : decide ((c : Int) = 1073741824) = false := decide_eq_false (by omega)
  simp only [slA, SN.av] at hg
  unfold Slb.cnt
  simp only [Slb.bx, hst, List.length_set]
  simp only [SN.av]
  generalize s.sl.map slA = es at *
  generalize s.fs.map inA = fs at *
  refine mE Tryz.func55 ?_; intro N w0 a w hN hR H
  refine mW ?_; clear H; intro a w H
  refine mCall [0, 1, 2] [] (hn) H ?_; clear H; intro a w H; try refine wpList_nil ?_
  refine mW ?_; clear H; intro a w H
  refine mC H (fun hb => ?_) (fun hb => ?_)
  · exact absurd hb (by decide)
  clear hb
  refine mW ?_; clear H; intro a w H
  refine mCall [0, 1, 2] [] (hat) H ?_; clear H; intro a w H; try refine wpList_nil ?_
  refine mW ?_; clear H; intro a w H
  refine mC H (fun hb => ?_) (fun hb => ?_)
  · exact absurd hb (by decide)
  clear hb
  refine mS ?_
  have hX := And.intro @hml (And.intro @hg (And.intro @x1 (And.intro @x2 (And.intro @x3 (@d1)))))
  (try refine wp_region_lit ?_); refine mN 4 hN H ?_; clear H; intro a w H
  (try refine wp_region_lit ?_); refine mN 1 hN H ?_; clear H; intro a w H
  refine mS ?_
  refine mC H (fun hb => ?_) (fun hb => ?_)
  · exact absurd hb (by decide)
  clear hb
  refine mS ?_
  (try refine wp_region_lit ?_); refine mN 4 hN H ?_; clear H; intro a w H
  (try refine wp_region_lit ?_); refine mN 4 hN H ?_; clear H; intro a w H
  refine mW ?_; clear H; intro a w H
  refine wp_ret ?_; exact mEnd [0, 1, 2] [] [.tmp 4] [_] hN hR H
set_option maxRecDepth 20000 in
set_option maxHeartbeats 4000000 in
theorem slbDrop1_v (s : Slb) (hs : s.wf) (i : Nat) (x : SN) (c : Nat) (hat0 : s.at_ ((i : Int) + 1) = some (x, c + 1)) (hc : 0 < c) :
    VX Tryz.prog 97 s.bx [] [] [.ptr 0 [], .v (.int .i64 ((i : Int) + 1))] (s.cnt i x c).bx [] [] (.tup [.v (.bool false), errv 0]) := by
  have hn := slbNone_v s.γ s.δ s.sl.length s.m s.room s.used (s.sl.map slA) (s.fs.map inA) hs.room.1
  have hml : (s.sl.map slA).length = s.sl.length := List.length_map ..
  obtain ⟨j, hi0, hi, hx⟩ := Slb.at_some hat0
  obtain rfl : j = i := by omega
  obtain ⟨c1, _, x1, x2, x3⟩ := Slb.at_pos hs hat0
  have hat := slbAt_ok s.γ s.δ s.m s.room s.used s.sl (s.fs.map inA) hs.room.1 j x (c + 1) hx c1 hs.len
  have hg := sl_get s.sl j _ hx
  have hst : (s.sl.set j (some (x, c))).map slA = (s.sl.map slA).set j (.st [x.av, .v (.int .i64 (c : Int))]) := by rw [List.map_set]; rfl
  have d1 : decide ((0 : Int) < (c : Int)) = true := decide_eq_true (by omega)
  have e1 : ((c + 1 : Nat) : Int) - 1 = (c : Int) := by omega
  simp only [slA, SN.av] at hg
  unfold Slb.cnt
  simp only [Slb.bx, hst, List.length_set]
  simp only [SN.av]
  have hg2 : ∀ E : AV, ((s.sl.map slA).set j E).getD j .any = E := fun E => by rw [List.getD_eq_getElem?_getD, List.getElem?_set, if_pos rfl, if_pos (by rw [hml]; exact hi)]; rfl
  generalize s.sl.map slA = es at *
  generalize s.fs.map inA = fs at *
  refine mE Tryz.func97 ?_; intro N w0 a w hN hR H
  refine mW ?_; clear H; intro a w H
  refine mCall [0, 1, 2] [] (hn) H ?_; clear H; intro a w H; try refine wpList_nil ?_
  refine mW ?_; clear H; intro a w H
  refine mC H (fun hb => ?_) (fun hb => ?_)
  · exact absurd hb (by decide)
  clear hb
  refine mW ?_; clear H; intro a w H
  refine mCall [0, 1, 2] [] (hat) H ?_; clear H; intro a w H; try refine wpList_nil ?_
  refine mW ?_; clear H; intro a w H
  refine mC H (fun hb => ?_) (fun hb => ?_)
  · exact absurd hb (by decide)
  clear hb
  refine mS ?_
  have hX := And.intro @hml (And.intro @hg (And.intro @x1 (And.intro @x2 (And.intro @x3 (And.intro @d1 (And.intro @e1 (@hg2)))))))
  (try refine wp_region_lit ?_); refine mN 4 hN H ?_; clear H; intro a w H
  (try refine wp_region_lit ?_); refine mN 4 hN H ?_; clear H; intro a w H
  refine mS ?_
  (try refine wp_region_lit ?_); refine mN 4 hN H ?_; clear H; intro a w H
  (try refine wp_region_lit ?_); refine mN 1 hN H ?_; clear H; intro a w H
  refine mS ?_
  refine mC H (fun hb => ?_) (fun hb => ?_)
  · clear hb
    refine mW ?_; clear H; intro a w H
    refine wp_ret ?_; exact mEnd [0, 1, 2] [] [.tmp 4, .tmp 5] [_, _] hN hR H
  exact absurd hb (by decide)
set_option maxRecDepth 20000 in
set_option maxHeartbeats 4000000 in
theorem slbFree_v (s : Slb) (hs : s.wf) (i : Nat) (x : SN) (hat0 : s.at_ ((i : Int) + 1) = some (x, 1)) (hm : s.m ≤ s.fs.length) (hm2 : s.m ≤ 65536) (hu : 0 < s.used) (hu2 : s.used ≤ s.room) :
    VX Tryz.prog 97 s.bx [] [] [.ptr 0 [], .v (.int .i64 ((i : Int) + 1))] (s.free i).bx [] [] (.tup [.v (.bool true), errv 0]) := by
  have hn := slbNone_v s.γ s.δ s.sl.length s.m s.room s.used (s.sl.map slA) (s.fs.map inA) hs.room.1
  have hml : (s.sl.map slA).length = s.sl.length := List.length_map ..
  have hfl : (s.fs.map inA).length = s.fs.length := List.length_map ..
  obtain ⟨j, hi0, hi, hx⟩ := Slb.at_some hat0
  obtain rfl : j = i := by omega
  obtain ⟨c1, _, x1, x2, x3⟩ := Slb.at_pos hs hat0
  have hat := slbAt_ok s.γ s.δ s.m s.room s.used s.sl (s.fs.map inA) hs.room.1 j x 1 hx c1 hs.len
  have hg := sl_get s.sl j _ hx
  have hst : (s.sl.set j none).map slA = (s.sl.map slA).set j (.st [zNd, .v (.int .i64 0)]) := by rw [List.map_set]; rfl
  have hft : (s.fs.take s.m ++ [(j : Int) + 1]).map inA = (s.fs.map inA).take s.m ++ [.v (.int .i64 ((j : Int) + 1))] := by rw [List.map_append, List.map_take]; rfl
  have e1 : (s.used : Int) - 1 = ((s.used - 1 : Nat) : Int) := by omega
  have hr := hs.room.2
  simp only [slA, SN.av] at hg
  unfold Slb.free
  simp only [Slb.bx, hst, hft, List.length_set]
  simp only [zNd]
  have hg2 : ∀ E : AV, ((s.sl.map slA).set j E).getD j .any = E := fun E => by rw [List.getD_eq_getElem?_getD, List.getElem?_set, if_pos rfl, if_pos (by rw [hml]; exact hi)]; rfl
  generalize s.sl.map slA = es at *
  generalize s.fs.map inA = fs at *
  refine mE Tryz.func97 ?_; intro N w0 a w hN hR H
  refine mW ?_; clear H; intro a w H
  refine mCall [0, 1, 2] [] (hn) H ?_; clear H; intro a w H; try refine wpList_nil ?_
  refine mW ?_; clear H; intro a w H
  refine mC H (fun hb => ?_) (fun hb => ?_)
  · exact absurd hb (by decide)
  clear hb
  refine mW ?_; clear H; intro a w H
  refine mCall [0, 1, 2] [] (hat) H ?_; clear H; intro a w H; try refine wpList_nil ?_
  refine mW ?_; clear H; intro a w H
  refine mC H (fun hb => ?_) (fun hb => ?_)
  · exact absurd hb (by decide)
  clear hb
  refine mS ?_
  have hX := And.intro @hml (And.intro @hfl (And.intro @hg (And.intro @x1 (And.intro @x2 (And.intro @x3 (@hg2))))))
  (try refine wp_region_lit ?_); refine mN 4 hN H ?_; clear H; intro a w H
  (try refine wp_region_lit ?_); refine mN 4 hN H ?_; clear H; intro a w H
  refine mS ?_
  (try refine wp_region_lit ?_); refine mN 4 hN H ?_; clear H; intro a w H
  (try refine wp_region_lit ?_); refine mN 1 hN H ?_; clear H; intro a w H
  refine mS ?_
  refine mC H (fun hb => ?_) (fun hb => ?_)
  · exact absurd hb (by decide)
  clear hb
  refine mS ?_
  (try refine wp_region_lit ?_); refine mN 4 hN H ?_; clear H; intro a w H
  rw [List.set_set] at H
  refine mW ?_; clear H; intro a w H
  rw [e1] at H
  refine wp_ret ?_; exact mEnd [0, 1, 2] [] [.tmp 4, .tmp 5] [_, _] hN hR H
theorem of_v (t : UInt8) (ls : List (List UInt8)) (hb : ls.flatten.length ≤ 34359737000) (hl : ls.length ≤ 34359737000) : VC Tryz.prog 74 [.v (B8 t), .sl .sc (bss ls) none] [] (.ba (sum (t :: ls.flatten))) := by
  have hbl := bss_len ls
  have ht := t.toNat_lt
  refine mE Tryz.func74 ?_; intro N w0 a w hN hR H
  have hX := And.intro @ren_s8v (@ren_shv)
  have hY := And.intro @s8v.eq_1 (And.intro @shv.eq_1 (And.intro @W32.eq_1 (@h0.eq_1)))
  refine mW ?_; clear H; intro a w H
  refine mCall [] [] (new_v) H ?_; clear H; intro a w H; try refine wpList_nil ?_
  refine mW ?_; clear H; intro a w H
  obtain ⟨s1, b1, n1, h1, hw1⟩ := write_g [] [t] h0 (List.replicate 64 0) 0 good_nil (by simp) 0 (by decide)
  refine mCall [1] [] (hw1) H ?_; clear H; intro a w H; try refine wpList_nil ?_
  refine mW ?_; clear H; intro a w H
  refine v_loop (fun i : S8 × List UInt8 × Nat × Nat => ⟨[(4, none, .ptr 0 []), (5, none, .ptr 1 []), (15, none, .v (.int .i64 (i.2.2.2 : Int))), (14, none, .v (.int .i64 (ls.length : Int))), (13, none, .sl .sc (bss ls) none)], [(.ba 32, .ba (List.replicate 32 0)), (ti188.ty, shv i.1 i.2.1 i.2.2.1 (1 + (ls.take i.2.2.2).flatten.length))], [], []⟩)
    (fun i => Good (t :: (ls.take i.2.2.2).flatten) i.1 i.2.1 i.2.2.1 ∧ i.2.2.2 ≤ ls.length) (fun i => ls.length - i.2.2.2) (s1, b1, n1, 0) ⟨by simpa using h1, Nat.zero_le _⟩
    (H.to 2 0 ⟨Nat.le_trans hN (by decide), hR⟩ ⟨rfl, rfl, rfl, by rw [hbl]; rfl, rfl, trivial⟩ rfl rfl rfl rfl rfl) ?_
  clear H
  rintro ⟨s2, b2, n2, k⟩ a w ⟨h2, hk⟩ H
  dsimp only at h2 hk H
  refine mW ?_; clear H; intro a w H
  refine mC H (fun hb => ?_) (fun hb => ?_)
  · have hlt : k < ls.length := by simpa using hb
    have hf := flat_take_le ls (k + 1)
    rw [flat_take ls k hlt, List.length_append] at hf
    refine wp_skip ?_
    refine wp_seq ?_
    refine wp_block ?_
    refine wp_seq ?_
    (try refine wp_region_lit ?_); refine mN 2 hN H ?_; clear H; intro a w H
    rw [bss_get ls k hlt] at H
    refine mW ?_; clear H; intro a w H
    obtain ⟨s3, b3, n3, h3, hw3⟩ := write_g _ ls[k] s2 b2 n2 h2 (by omega) (1 + (ls.take k).flatten.length) (by omega)
    refine mCall [1] [] (hw3) H ?_; clear H; intro a w H; try refine wpList_nil ?_
    refine mW ?_; clear H; intro a w H
    refine ⟨(s3, b3, n3, k + 1), ⟨by rw [flat_take ls k hlt]; simpa using h3, hlt⟩, by dsimp only; omega, H.to 2 0 ⟨Nat.le_trans hN (by decide), hR⟩ ⟨rfl, rfl, rfl, rfl, rfl, trivial⟩ (by rw [flat_take ls k hlt, List.length_append]; simp only [List.take_succ_cons, List.take_zero]; rw [Nat.add_assoc]) rfl rfl rfl rfl⟩
  have hge : k = ls.length := by simp at hb; omega
  subst hge
  rw [List.take_length] at h2 H
  have hsl := sum_length (t :: ls.flatten)
  have h1l : (t :: ls.flatten).length = 1 + ls.flatten.length := by simp; omega
  have hsum := sumS_v (t :: ls.flatten) s2 b2 n2 h2 (by rw [h1l]; omega)
  rw [h1l] at hsum
  refine mW ?_; clear H; intro a w H
  refine mCall [1] [] (hsum) H ?_; clear H; intro a w H; try refine wpList_nil ?_
  refine mW ?_; clear H; intro a w H
  refine wp_ret ?_; exact mEnd [] [] [.cell 4 33] [_] hN hR H
theorem empty_v : VC Tryz.prog 39 [] [] (.ba (sum [0])) := by
  have hsl := sum_length [0]
  refine mE Tryz.func39 ?_; intro N w0 a w hN hR H
  have hX := And.intro @ren_s8v (@ren_shv)
  have hY := And.intro @s8v.eq_1 (And.intro @shv.eq_1 (And.intro @W32.eq_1 (@h0.eq_1)))
  refine mW ?_; clear H; intro a w H
  refine mCall [] [] (of_v 0 [] (by simp) (by simp)) H ?_; clear H; intro a w H; try refine wpList_nil ?_
  refine mW ?_; clear H; intro a w H
  refine wp_ret ?_; exact mEnd [] [] [.cell 0 33] [_] hN hR H
def Nd.one (a b : List UInt8) : Nd := ⟨1, a, b, z32, z32⟩
def Nd.two (a b : List UInt8) : Nd := ⟨2, z32, z32, a, b⟩
def decOk (l : List UInt8) : Prop := l = [0] ∨ (l.length = 65 ∧ (l.getD 0 0 = 1 ∨ l.getD 0 0 = 2))
instance (l : List UInt8) : Decidable (decOk l) := inferInstanceAs (Decidable (_ ∨ _))
def dec (l : List UInt8) : Nd := if l.length = 65 ∧ l.getD 0 0 = 1 then .one ((l.drop 1).take 32) (l.drop 33) else if l.length = 65 ∧ l.getD 0 0 = 2 then .two ((l.drop 1).take 32) (l.drop 33) else .zero
def marks (n : Nat) : Nat → List UInt8
  | 0 => []
  | k + 1 => marks n k ++ [UInt8.ofNat (200 + (n + k) % 50)]
theorem marks_len (n k : Nat) : (marks n k).length = k := by
  induction k with
  | zero => rfl
  | succ k ih => simp [marks, ih]
theorem set_end (pre : List UInt8) (m : Nat) (z x : UInt8) (hm : 0 < m) : (pre ++ List.replicate m z).set pre.length x = pre ++ [x] ++ List.replicate (m - 1) z := by
  obtain ⟨m, rfl⟩ : ∃ k, m = k + 1 := ⟨m - 1, by omega⟩
  rw [List.set_append_right _ _ (Nat.le_refl _), Nat.sub_self, List.replicate_succ]
  simp
def lentOf (l : List UInt8) : List UInt8 := l ++ marks l.length 5
theorem lent_len (l : List UInt8) : (lentOf l).length = l.length + 5 := by simp [lentOf, marks_len]
theorem lent_v (l : List UInt8) (hl : l.length ≤ 34359738000) : VX Tryz.prog 57 [] [] [] [.bs l none] [(.ba (l.length + 5), .ba (lentOf l))] [0] [] (.bc (lentOf l) l.length (some 0)) := by
  have hml := fun k => marks_len l.length k
  refine mE Tryz.func57 ?_; intro N w0 a w hN hR H
  have h5 : ((l.length : Int) + 5).toNat = l.length + 5 := by omega
  have ht : List.take (l.length + 5) l = l := List.take_of_length_le (by omega)
  have hd : List.drop l.length (List.replicate (l.length + 5) (0 : UInt8)) = List.replicate 5 0 := by rw [List.drop_replicate]; congr 1; omega
  have hX := And.intro @h5 (And.intro @ht (@hd))
  refine mW ?_; clear H; intro a w H
  refine v_loop (fun k : Nat => ⟨[(0, none, .bs l none), (3, none, .win 0 [] 0 (l.length + 5)), (4, none, .v (.int .i64 ((l.length + k : Nat) : Int)))], [(.ba (l.length + 5), .ba (l ++ marks l.length k ++ List.replicate (5 - k) 0))], [], []⟩) (fun k => k ≤ 5) (fun k => 5 - k) 0 (by decide) (H.to 1 0 ⟨Nat.le_trans hN (by decide), hR⟩ ⟨rfl, rfl, rfl, trivial⟩ (by simp [marks]) rfl rfl rfl rfl) ?_
  clear H
  intro k a w hk H
  clear hX
  refine mW ?_; clear H; intro a w H
  refine mC H (fun hb => ?_) (fun hb => ?_)
  · have hlt : k < 5 := by simp at hb; omega
    have hpl : (l ++ marks l.length k).length = l.length + k := by rw [List.length_append, hml]
    have hs := set_end (l ++ marks l.length k) (5 - k) 0 (UInt8.ofNat (200 + (l.length + k) % 50)) (by omega)
    rw [hpl] at hs
    have hx : UInt8.ofNat ((200 + ((l.length + k : Nat) : Int) % 50) % 256).toNat = UInt8.ofNat (200 + (l.length + k) % 50) := by congr 1; omega
    refine mW ?_; clear H; intro a w H
    rw [hx, hs] at H
    exact ⟨k + 1, by omega, by omega, H.to 1 0 ⟨Nat.le_trans hN (by decide), hR⟩ ⟨rfl, rfl, by simp only [find]; rfl, trivial⟩ (by simp only [List.take_succ_cons, List.take_zero, marks, List.append_assoc, Nat.sub_sub]) rfl rfl rfl rfl⟩
  have : k = 5 := by simp at hb; omega
  subst this
  rw [Nat.sub_self, List.replicate_zero, List.append_nil] at H
  refine mW ?_; clear H; intro a w H
  have H := v_bc H 2 0 hN rfl (by omega) rfl
  simp only [nilT, reduceIte, Nat.reduceEqDiff] at H
  have hX := @lentOf.eq_1
  refine wp_ret ?_; exact mEnd [0] [] [.tmp 2] [_] hN hR H
theorem textR_v (t : UInt8) (ls : List (List UInt8)) (hb : ls.flatten.length ≤ 34359738367) (hl : ls.length ≤ 34359738367) :
    VC Tryz.prog 148 [.v (B8 t), .sl .sc (bss ls) none] [(5, (t :: ls.flatten).length)] (.bs (t :: ls.flatten) (some 0)) := by
  have hbl := bss_len ls
  have ht : t.toNat < 256 := t.toNat_lt
  refine mE Tryz.func148 ?_; intro N w0 a w hN hR H
  refine mW ?_; clear H; intro a w H
  refine v_loop (fun k : Nat => ⟨[(6, none, .v (.int .i64 (k : Int))), (5, none, .bs (t :: (ls.take k).flatten) (some 0)), (1, none, .sl .sc (bss ls) none)], [], [], [(5, (t :: (ls.take k).flatten).length)]⟩) (fun k => k ≤ ls.length) (fun k => ls.length - k) 0 (Nat.zero_le _) (H.to 0 1 ⟨hN, Nat.le_trans hR (by decide)⟩ ⟨rfl, rfl, rfl, trivial⟩ rfl rfl rfl rfl rfl) ?_
  clear H
  intro k a w hk H
  refine mW ?_; clear H; intro a w H
  refine mC H (fun hb => ?_) (fun hb => ?_)
  · have hlt : k < ls.length := by rw [hbl] at hb; simpa using hb
    have hf := flat_take_le ls (k + 1)
    rw [flat_take ls k hlt, List.length_append] at hf
    refine wp_skip ?_
    repeat (first | refine wp_seq ?_ | refine wp_block ?_)
    (try refine wp_region_lit ?_); refine mN 5 hN H ?_; clear H; intro a w H
    rw [bss_get ls k hlt] at H
    refine mW ?_; clear H; intro a w H
    exact ⟨k + 1, hlt, by omega, H.to 0 1 ⟨hN, Nat.le_trans hR (by decide)⟩ ⟨rfl, by rw [flat_take ls k hlt]; rfl, rfl, trivial⟩ rfl (by rw [flat_take ls k hlt]; simp only [List.take_succ_cons, List.take_zero, List.length_cons, List.length_append, List.cons.injEq, Prod.mk.injEq, true_and, and_true]; omega) rfl rfl rfl⟩
  have hge : k = ls.length := by rw [hbl] at hb; simp at hb; omega
  subst hge
  rw [List.take_length] at H
  refine mW ?_; clear H; intro a w H
  refine wp_ret ?_; exact mEnd [] [0] [.tmp 4] [_] hN hR H
set_option maxRecDepth 20000 in
theorem leafR_v (k v : List UInt8) (hk : k.length = 32) (hv : v.length = 32) :
    VC Tryz.prog 120 [.ba k, .ba v] [(5, 65)] (.bs (1 :: (k ++ v)) (some 0)) := by
  refine mE Tryz.func120 ?_; intro N w0 a w hN hR H
  refine mW ?_; clear H; intro a w H
  have hX := And.intro (List.take_of_length_le (Nat.le_of_eq hk)) (List.take_of_length_le (Nat.le_of_eq hv))
  refine mS ?_; refine mD 2 [2, 3] [] H ?_; clear H; intro gS H; refine mT ?_; clear H; intro a w H
  refine mCallT [] [] (textR_v 1 [k, v] (by simp; omega) (by simp)) H ?_; clear H; intro a w H
  refine mT ?_; clear H; intro a w H
  refine v_drawNil H ?_; clear H; intro H
  refine mW ?_; clear H; intro a w H
  clear hX; have hX := And.intro @hk (@hv)
  refine wp_ret ?_; exact mEnd [] [1] [.tmp 4] [_] hN hR H
set_option maxRecDepth 20000 in
theorem innerR_v (k v : List UInt8) (hk : k.length = 32) (hv : v.length = 32) :
    VC Tryz.prog 121 [.ba k, .ba v] [(5, 65)] (.bs (2 :: (k ++ v)) (some 0)) := by
  refine mE Tryz.func121 ?_; intro N w0 a w hN hR H
  refine mW ?_; clear H; intro a w H
  have hX := And.intro (List.take_of_length_le (Nat.le_of_eq hk)) (List.take_of_length_le (Nat.le_of_eq hv))
  refine mS ?_; refine mD 2 [2, 3] [] H ?_; clear H; intro gS H; refine mT ?_; clear H; intro a w H
  refine mCallT [] [] (textR_v 2 [k, v] (by simp; omega) (by simp)) H ?_; clear H; intro a w H
  refine mT ?_; clear H; intro a w H
  refine v_drawNil H ?_; clear H; intro H
  refine mW ?_; clear H; intro a w H
  clear hX; have hX := And.intro @hk (@hv)
  refine wp_ret ?_; exact mEnd [] [1] [.tmp 4] [_] hN hR H
def leafH (k v : List UInt8) : List UInt8 := sum (1 :: (k ++ v))
def innerH (l r : List UInt8) : List UInt8 := sum (2 :: (l ++ r))
theorem leafH_len (k v : List UInt8) : (leafH k v).length = 32 := sum_length _
theorem innerH_len (k v : List UInt8) : (innerH k v).length = 32 := sum_length _
set_option maxRecDepth 20000 in
theorem leaf_v (k v : List UInt8) (hk : k.length = 32) (hv : v.length = 32) : VC Tryz.prog 69 [.ba k, .ba v] [] (.ba (leafH k v)) := by
  have h := of_v 1 [k, v] (by simp; omega) (by simp)
  have e : [k, v].flatten = k ++ v := by simp
  rw [e] at h
  have hsl := sum_length (1 :: (k ++ v))
  unfold leafH
  refine mE Tryz.func69 ?_; intro N w0 a w hN hR H
  refine mW ?_; clear H; intro a w H
  have hX := And.intro (List.take_of_length_le (Nat.le_of_eq hk)) (List.take_of_length_le (Nat.le_of_eq hv))
  refine mS ?_; refine mD 0 [2, 3, 4] [] H ?_; clear H; intro gS H; refine mT ?_; clear H; intro a w H
  refine mCallT [] [] (h) H ?_; clear H; intro a w H
  refine mT ?_; clear H; intro a w H
  refine v_drawNil H ?_; clear H; intro H
  clear hX; have hX := And.intro @hk (@hv)
  refine wp_ret ?_; exact mEnd [] [] [.cell 4 33] [_] hN hR H
set_option maxRecDepth 20000 in
theorem inner_v (k v : List UInt8) (hk : k.length = 32) (hv : v.length = 32) : VC Tryz.prog 49 [.ba k, .ba v] [] (.ba (innerH k v)) := by
  have h := of_v 2 [k, v] (by simp; omega) (by simp)
  have e : [k, v].flatten = k ++ v := by simp
  rw [e] at h
  have hsl := sum_length (2 :: (k ++ v))
  unfold innerH
  refine mE Tryz.func49 ?_; intro N w0 a w hN hR H
  refine mW ?_; clear H; intro a w H
  have hX := And.intro (List.take_of_length_le (Nat.le_of_eq hk)) (List.take_of_length_le (Nat.le_of_eq hv))
  refine mS ?_; refine mD 0 [2, 3, 4] [] H ?_; clear H; intro gS H; refine mT ?_; clear H; intro a w H
  refine mCallT [] [] (h) H ?_; clear H; intro a w H
  refine mT ?_; clear H; intro a w H
  refine v_drawNil H ?_; clear H; intro H
  clear hX; have hX := And.intro @hk (@hv)
  refine wp_ret ?_; exact mEnd [] [] [.cell 4 33] [_] hN hR H
set_option maxHeartbeats 1000000 in
set_option maxRecDepth 100000 in
theorem len8_any (x : Int) (w : World) (h0 : 0 ≤ x) (h1 : x ≤ 255) : Calls Tryz.prog 138 #[.int .u8 x] w fun e w' => e = .returned (.int .i64 (Lib.bitLen x.toNat)) ∧ w' = w := by
  rw [← Lib.len8_int x h0 h1]
  go_enter Tryz.func138, Tryz.ntmps138
  go_wp2
  go_ret
  refine ⟨?_, rfl⟩
  generalize Lib.len8 x = y
  have e : wrap64 y = (y + 9223372036854775808) % 18446744073709551616 - 9223372036854775808 := by unfold wrap64; rfl
  show Ending.returned (.int .i64 (wrap64 y)) = _
  rw [e]
theorem len8_v (c : UInt8) : VC Tryz.prog 138 [.v (B8 c)] [] (.v (.int .i64 (Lib.bitLen c.toNat))) := by
  refine VC.ofA ⟨_, Tryz.func138, by kernel_rfl, by kernel_rfl⟩ fun w N vs hM hl hv => ?_
  obtain ⟨u, rfl, h1⟩ := one_ hl hv
  have e1 := h1.v_inv
  subst e1
  have hc := c.toNat_lt
  refine (len8_any c.toNat w (by omega) (by omega)).mono fun e w' hp => ?_
  obtain ⟨rfl, rfl⟩ := hp
  exact ⟨_, rfl, Below.refl _ _, by rw [Int.toNat_natCast]; exact RV.v_of rfl⟩
def b8 (f : Nat → Bool) : UInt8 := (if f 0 then 128 else 0) ||| (if f 1 then 64 else 0) ||| (if f 2 then 32 else 0) ||| (if f 3 then 16 else 0) ||| (if f 4 then 8 else 0) ||| (if f 5 then 4 else 0) ||| (if f 6 then 2 else 0) ||| (if f 7 then 1 else 0)
def bitsB (n : Nat) (f : Nat → Bool) : List UInt8 := (List.range ((n + 7) / 8)).map fun j => b8 fun k => f (8 * j + k)
theorem bitsB_len (n : Nat) (f : Nat → Bool) : (bitsB n f).length = (n + 7) / 8 := by simp [bitsB]
theorem b8_congr {f g : Nat → Bool} (h : ∀ i, i < 8 → f i = g i) : b8 f = b8 g := by
  unfold b8; rw [h 0 (by decide), h 1 (by decide), h 2 (by decide), h 3 (by decide), h 4 (by decide), h 5 (by decide), h 6 (by decide), h 7 (by decide)]
def b8x (x0 x1 x2 x3 x4 x5 x6 x7 : Bool) : UInt8 := (if x0 then 128 else 0) ||| (if x1 then 64 else 0) ||| (if x2 then 32 else 0) ||| (if x3 then 16 else 0) ||| (if x4 then 8 else 0) ||| (if x5 then 4 else 0) ||| (if x6 then 2 else 0) ||| (if x7 then 1 else 0)
theorem b8_x (f : Nat → Bool) : b8 f = b8x (f 0) (f 1) (f 2) (f 3) (f 4) (f 5) (f 6) (f 7) := rfl
def bitAt (c : UInt8) (m : Nat) : Bool := (c &&& UInt8.ofNat (128 / 2 ^ m)) != 0
set_option maxRecDepth 100000 in
theorem b8x_get : ∀ x0 x1 x2 x3 x4 x5 x6 x7 : Bool, bitAt (b8x x0 x1 x2 x3 x4 x5 x6 x7) 0 = x0 ∧ bitAt (b8x x0 x1 x2 x3 x4 x5 x6 x7) 1 = x1 ∧ bitAt (b8x x0 x1 x2 x3 x4 x5 x6 x7) 2 = x2 ∧ bitAt (b8x x0 x1 x2 x3 x4 x5 x6 x7) 3 = x3
    ∧ bitAt (b8x x0 x1 x2 x3 x4 x5 x6 x7) 4 = x4 ∧ bitAt (b8x x0 x1 x2 x3 x4 x5 x6 x7) 5 = x5 ∧ bitAt (b8x x0 x1 x2 x3 x4 x5 x6 x7) 6 = x6 ∧ bitAt (b8x x0 x1 x2 x3 x4 x5 x6 x7) 7 = x7 := by decide +kernel
theorem b8_get (f : Nat → Bool) (m : Nat) (hm : m < 8) : bitAt (b8 f) m = f m := by
  obtain ⟨h0, h1, h2, h3, h4, h5, h6, h7⟩ := b8x_get (f 0) (f 1) (f 2) (f 3) (f 4) (f 5) (f 6) (f 7)
  rw [b8_x]
  match m, hm with
  | 0, _ => exact h0
  | 1, _ => exact h1
  | 2, _ => exact h2
  | 3, _ => exact h3
  | 4, _ => exact h4
  | 5, _ => exact h5
  | 6, _ => exact h6
  | 7, _ => exact h7
theorem bitsB_get (n : Nat) (f : Nat → Bool) (j : Nat) (hj : j < (n + 7) / 8) : (bitsB n f).getD j 0 = b8 fun k => f (8 * j + k) := by
  simp [bitsB, List.getD, List.getElem?_range, hj]
theorem bitsB_bit (n : Nat) (f : Nat → Bool) (t : Nat) (ht : t < n) : bitAt ((bitsB n f).getD (t / 8) 0) (t % 8) = f t := by
  rw [bitsB_get n f _ (by omega), b8_get _ _ (by omega)]
  congr 1; omega
theorem pow128 (m : Nat) : 128 / 2 ^ m < 256 := Nat.lt_of_le_of_lt (Nat.div_le_self _ _) (by decide)
theorem and_bit (c : UInt8) (m : Nat) : (!decide (bits .and .u8 (c.toNat : Int) (128 / 2 ^ m) = 0)) = bitAt c m := by
  have e : (128 / 2 ^ m : Int) = ((128 / 2 ^ m : Nat) : Int) := by rw [Int.natCast_ediv, Int.natCast_pow]; rfl
  have h : bits .and .u8 (c.toNat : Int) (128 / 2 ^ m) = (((c &&& UInt8.ofNat (128 / 2 ^ m)).toNat : Nat) : Int) := by
    rw [e, u8_and_nat _ _ (UInt8.toNat_lt _) (pow128 _), UInt8.toNat_and, UInt8.toNat_ofNat', Nat.mod_eq_of_lt (pow128 _)]
  rw [h]
  unfold bitAt
  by_cases h0 : c &&& UInt8.ofNat (128 / 2 ^ m) = 0
  · simp [h0]
  have h1 : (c &&& UInt8.ofNat (128 / 2 ^ m)).toNat ≠ 0 := fun e => h0 (UInt8.toNat_inj.1 (by simpa using e))
  have h2 : (((c &&& UInt8.ofNat (128 / 2 ^ m)).toNat : Nat) : Int) ≠ 0 := by omega
  rw [decide_eq_false h2]; simpa using h0
end Go.Proofs.YtgffimanhmpohaaGreat
