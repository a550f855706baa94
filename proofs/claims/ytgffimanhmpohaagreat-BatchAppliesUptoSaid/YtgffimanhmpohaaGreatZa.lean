/- The types of the program, as they lie in memory. By program (gen_tab.py). -/
import Derived.Test.YtgffimanhmpohaaGreatA4
import Derived.Test.YtgffimanhmpohaaGreatRows
import Derived.OpenShut
import Derived.Carry
import Derived.WalkKit
import Derived.ProofKit
import Derived.JoinedCond
import Derived.Shelf.SlicesE.Reverse
set_option linter.unusedSimpArgs false
set_option linter.unusedVariables false
namespace Go.Proofs.YtgffimanhmpohaaGreat
open Go Go.RowKit
abbrev ti3 : TI := ⟨.int .i64, .sc, (.v (.int .i64 0)), 8⟩
abbrev ti24 : TI := ⟨.arr 32 5, (.ba 32), (.ba (List.replicate 32 0)), 32⟩
abbrev ti53 : TI := ⟨.rcd [(0, 24), (32, 48)], (.cn (.ba 32) (.cn .sc (.nl))), (.st [(.ba (List.replicate 32 0)), (.v (.slice none 0 0))]), 56⟩
abbrev ti56 : TI := ⟨.slc 60, .sc, (.v (.slice none 0 0)), 24⟩
abbrev ti60 : TI := ⟨.rcd [(0, 24), (32, 4), (33, 48)], (.cn (.ba 32) (.cn .sc (.cn .sc (.nl)))), (.st [(.ba (List.replicate 32 0)), (.v (.bool false)), (.v (.slice none 0 0))]), 64⟩
abbrev ti81 : TI := ⟨.rcd [(0, 79), (32, 36), (33, 3), (34, 24), (66, 48), (67, 33), (99, 3), (100, 3), (101, 3), (102, 3)], (.cn (.cn (.ba 32) (.nl)) (.cn .sc (.cn .sc (.cn (.ba 32) (.cn .sc (.cn (.ba 32) (.cn .sc (.cn .sc (.cn .sc (.cn .sc (.nl))))))))))), (.st [(.st [(.ba (List.replicate 32 0))]), (.v (.int .u8 0)), (.v (.int .i64 0)), (.ba (List.replicate 32 0)), (.v (.slice none 0 0)), (.ba (List.replicate 32 0)), (.v (.int .i64 0)), (.v (.int .i64 0)), (.v (.int .i64 0)), (.v (.int .i64 0))]), 168⟩
abbrev ti83 : TI := ⟨.rcd [(0, 75)], (.cn .sc (.nl)), (.st [(.v (.pointer none))]), 8⟩
abbrev ti92 : TI := ⟨.slc 3, .sc, (.v (.slice none 0 0)), 24⟩
abbrev ti119 : TI := ⟨.rcd [(0, 3), (1, 22)], (.cn .sc (.cn .sc (.nl))), (.st [(.v (.int .i64 0)), (.v (.slice none 0 0))]), 32⟩
abbrev ti124 : TI := ⟨.rcd [(0, 122), (1, 92), (2, 3), (3, 3)], (.cn .sc (.cn .sc (.cn .sc (.cn .sc (.nl))))), (.st [(.v (.slice none 0 0)), (.v (.slice none 0 0)), (.v (.int .i64 0)), (.v (.int .i64 0))]), 64⟩
abbrev ti148 : TI := ⟨.rcd [(0, 81), (103, 3)], (.cn (.cn (.cn (.ba 32) (.nl)) (.cn .sc (.cn .sc (.cn (.ba 32) (.cn .sc (.cn (.ba 32) (.cn .sc (.cn .sc (.cn .sc (.cn .sc (.nl))))))))))) (.cn .sc (.nl))), (.st [(.st [(.st [(.ba (List.replicate 32 0))]), (.v (.int .u8 0)), (.v (.int .i64 0)), (.ba (List.replicate 32 0)), (.v (.slice none 0 0)), (.ba (List.replicate 32 0)), (.v (.int .i64 0)), (.v (.int .i64 0)), (.v (.int .i64 0)), (.v (.int .i64 0))]), (.v (.int .i64 0))]), 176⟩
abbrev ti188 : TI := ⟨.rcd [(0, 4), (1, 184), (9, 186), (73, 3), (74, 3)], (.cn .sc (.cn (.cn .sc (.cn .sc (.cn .sc (.cn .sc (.cn .sc (.cn .sc (.cn .sc (.cn .sc (.nl))))))))) (.cn (.ba 64) (.cn .sc (.cn .sc (.nl)))))), (.st [(.v (.bool false)), (.st [(.v (.int .u32 0)), (.v (.int .u32 0)), (.v (.int .u32 0)), (.v (.int .u32 0)), (.v (.int .u32 0)), (.v (.int .u32 0)), (.v (.int .u32 0)), (.v (.int .u32 0))]), (.ba (List.replicate 64 0)), (.v (.int .i64 0)), (.v (.int .i64 0))]), 120⟩
def tab : Tab := [
(2, ⟨.int .i64, .sc, (.v (.int .i64 0)), 8⟩),
(3, ⟨.int .i64, .sc, (.v (.int .i64 0)), 8⟩),
(4, ⟨.bool, .sc, (.v (.bool false)), 1⟩),
(5, ⟨.int .u8, .sc, (.v (.int .u8 0)), 1⟩),
(9, ⟨.str, .sc, (.v (.string ⟨#[]⟩)), 16⟩),
(21, ⟨.int .i32, .sc, (.v (.int .i32 0)), 4⟩),
(22, ⟨.slc 53, .sc, (.v (.slice none 0 0)), 24⟩),
(23, ⟨.arr 32 5, (.ba 32), (.ba (List.replicate 32 0)), 32⟩),
(24, ⟨.arr 32 5, (.ba 32), (.ba (List.replicate 32 0)), 32⟩),
(26, ⟨.ptr 83, .sc, (.v (.pointer none)), 8⟩),
(27, ⟨.int .i64, .sc, (.v (.int .i64 0)), 8⟩),
(33, ⟨.arr 32 5, (.ba 32), (.ba (List.replicate 32 0)), 32⟩),
(35, ⟨.slc 33, .sc, (.v (.slice none 0 0)), 24⟩),
(36, ⟨.int .u8, .sc, (.v (.int .u8 0)), 1⟩),
(37, ⟨.rcd [(0, 36), (1, 24), (33, 33), (65, 33), (97, 33)], (.cn .sc (.cn (.ba 32) (.cn (.ba 32) (.cn (.ba 32) (.cn (.ba 32) (.nl)))))), (.st [(.v (.int .u8 0)), (.ba (List.replicate 32 0)), (.ba (List.replicate 32 0)), (.ba (List.replicate 32 0)), (.ba (List.replicate 32 0))]), 129⟩),
(38, ⟨.rcd [(0, 36), (1, 24), (33, 33), (65, 33), (97, 33)], (.cn .sc (.cn (.ba 32) (.cn (.ba 32) (.cn (.ba 32) (.cn (.ba 32) (.nl)))))), (.st [(.v (.int .u8 0)), (.ba (List.replicate 32 0)), (.ba (List.replicate 32 0)), (.ba (List.replicate 32 0)), (.ba (List.replicate 32 0))]), 129⟩),
(39, ⟨.rcd [(0, 35), (1, 38)], (.cn .sc (.cn (.cn .sc (.cn (.ba 32) (.cn (.ba 32) (.cn (.ba 32) (.cn (.ba 32) (.nl)))))) (.nl))), (.st [(.v (.slice none 0 0)), (.st [(.v (.int .u8 0)), (.ba (List.replicate 32 0)), (.ba (List.replicate 32 0)), (.ba (List.replicate 32 0)), (.ba (List.replicate 32 0))])]), 160⟩),
(40, ⟨.rcd [(0, 35), (1, 38)], (.cn .sc (.cn (.cn .sc (.cn (.ba 32) (.cn (.ba 32) (.cn (.ba 32) (.cn (.ba 32) (.nl)))))) (.nl))), (.st [(.v (.slice none 0 0)), (.st [(.v (.int .u8 0)), (.ba (List.replicate 32 0)), (.ba (List.replicate 32 0)), (.ba (List.replicate 32 0)), (.ba (List.replicate 32 0))])]), 160⟩),
(48, ⟨.slc 5, .sc, (.v (.slice none 0 0)), 24⟩),
(52, ⟨.rcd [(0, 24), (32, 48)], (.cn (.ba 32) (.cn .sc (.nl))), (.st [(.ba (List.replicate 32 0)), (.v (.slice none 0 0))]), 56⟩),
(53, ⟨.rcd [(0, 24), (32, 48)], (.cn (.ba 32) (.cn .sc (.nl))), (.st [(.ba (List.replicate 32 0)), (.v (.slice none 0 0))]), 56⟩),
(56, ⟨.slc 60, .sc, (.v (.slice none 0 0)), 24⟩),
(59, ⟨.rcd [(0, 24), (32, 4), (33, 48)], (.cn (.ba 32) (.cn .sc (.cn .sc (.nl)))), (.st [(.ba (List.replicate 32 0)), (.v (.bool false)), (.v (.slice none 0 0))]), 64⟩),
(60, ⟨.rcd [(0, 24), (32, 4), (33, 48)], (.cn (.ba 32) (.cn .sc (.cn .sc (.nl)))), (.st [(.ba (List.replicate 32 0)), (.v (.bool false)), (.v (.slice none 0 0))]), 64⟩),
(69, ⟨.slc 119, .sc, (.v (.slice none 0 0)), 24⟩),
(75, ⟨.ptr 124, .sc, (.v (.pointer none)), 8⟩),
(78, ⟨.rcd [(0, 33)], (.cn (.ba 32) (.nl)), (.st [(.ba (List.replicate 32 0))]), 32⟩),
(79, ⟨.rcd [(0, 33)], (.cn (.ba 32) (.nl)), (.st [(.ba (List.replicate 32 0))]), 32⟩),
(80, ⟨.rcd [(0, 79), (32, 36), (33, 3), (34, 24), (66, 48), (67, 33), (99, 3), (100, 3), (101, 3), (102, 3)], (.cn (.cn (.ba 32) (.nl)) (.cn .sc (.cn .sc (.cn (.ba 32) (.cn .sc (.cn (.ba 32) (.cn .sc (.cn .sc (.cn .sc (.cn .sc (.nl))))))))))), (.st [(.st [(.ba (List.replicate 32 0))]), (.v (.int .u8 0)), (.v (.int .i64 0)), (.ba (List.replicate 32 0)), (.v (.slice none 0 0)), (.ba (List.replicate 32 0)), (.v (.int .i64 0)), (.v (.int .i64 0)), (.v (.int .i64 0)), (.v (.int .i64 0))]), 168⟩),
(81, ⟨.rcd [(0, 79), (32, 36), (33, 3), (34, 24), (66, 48), (67, 33), (99, 3), (100, 3), (101, 3), (102, 3)], (.cn (.cn (.ba 32) (.nl)) (.cn .sc (.cn .sc (.cn (.ba 32) (.cn .sc (.cn (.ba 32) (.cn .sc (.cn .sc (.cn .sc (.cn .sc (.nl))))))))))), (.st [(.st [(.ba (List.replicate 32 0))]), (.v (.int .u8 0)), (.v (.int .i64 0)), (.ba (List.replicate 32 0)), (.v (.slice none 0 0)), (.ba (List.replicate 32 0)), (.v (.int .i64 0)), (.v (.int .i64 0)), (.v (.int .i64 0)), (.v (.int .i64 0))]), 168⟩),
(82, ⟨.rcd [(0, 75)], (.cn .sc (.nl)), (.st [(.v (.pointer none))]), 8⟩),
(83, ⟨.rcd [(0, 75)], (.cn .sc (.nl)), (.st [(.v (.pointer none))]), 8⟩),
(85, ⟨.arr 2 22, (.cn .sc (.cn .sc (.nl))), (.st [(.v (.slice none 0 0)), (.v (.slice none 0 0))]), 48⟩),
(92, ⟨.slc 3, .sc, (.v (.slice none 0 0)), 24⟩),
(118, ⟨.rcd [(0, 3), (1, 22)], (.cn .sc (.cn .sc (.nl))), (.st [(.v (.int .i64 0)), (.v (.slice none 0 0))]), 32⟩),
(119, ⟨.rcd [(0, 3), (1, 22)], (.cn .sc (.cn .sc (.nl))), (.st [(.v (.int .i64 0)), (.v (.slice none 0 0))]), 32⟩),
(122, ⟨.slc 148, .sc, (.v (.slice none 0 0)), 24⟩),
(123, ⟨.rcd [(0, 122), (1, 92), (2, 3), (3, 3)], (.cn .sc (.cn .sc (.cn .sc (.cn .sc (.nl))))), (.st [(.v (.slice none 0 0)), (.v (.slice none 0 0)), (.v (.int .i64 0)), (.v (.int .i64 0))]), 64⟩),
(124, ⟨.rcd [(0, 122), (1, 92), (2, 3), (3, 3)], (.cn .sc (.cn .sc (.cn .sc (.cn .sc (.nl))))), (.st [(.v (.slice none 0 0)), (.v (.slice none 0 0)), (.v (.int .i64 0)), (.v (.int .i64 0))]), 64⟩),
(128, ⟨.ptr 81, .sc, (.v (.pointer none)), 8⟩),
(129, ⟨.rcd [(0, 3), (1, 128)], (.cn .sc (.cn .sc (.nl))), (.st [(.v (.int .i64 0)), (.v (.pointer none))]), 16⟩),
(130, ⟨.slc 129, .sc, (.v (.slice none 0 0)), 24⟩),
(142, ⟨.slc 48, .sc, (.v (.slice none 0 0)), 24⟩),
(145, ⟨.ptr 148, .sc, (.v (.pointer none)), 8⟩),
(147, ⟨.rcd [(0, 81), (103, 3)], (.cn (.cn (.cn (.ba 32) (.nl)) (.cn .sc (.cn .sc (.cn (.ba 32) (.cn .sc (.cn (.ba 32) (.cn .sc (.cn .sc (.cn .sc (.cn .sc (.nl))))))))))) (.cn .sc (.nl))), (.st [(.st [(.st [(.ba (List.replicate 32 0))]), (.v (.int .u8 0)), (.v (.int .i64 0)), (.ba (List.replicate 32 0)), (.v (.slice none 0 0)), (.ba (List.replicate 32 0)), (.v (.int .i64 0)), (.v (.int .i64 0)), (.v (.int .i64 0)), (.v (.int .i64 0))]), (.v (.int .i64 0))]), 176⟩),
(148, ⟨.rcd [(0, 81), (103, 3)], (.cn (.cn (.cn (.ba 32) (.nl)) (.cn .sc (.cn .sc (.cn (.ba 32) (.cn .sc (.cn (.ba 32) (.cn .sc (.cn .sc (.cn .sc (.cn .sc (.nl))))))))))) (.cn .sc (.nl))), (.st [(.st [(.st [(.ba (List.replicate 32 0))]), (.v (.int .u8 0)), (.v (.int .i64 0)), (.ba (List.replicate 32 0)), (.v (.slice none 0 0)), (.ba (List.replicate 32 0)), (.v (.int .i64 0)), (.v (.int .i64 0)), (.v (.int .i64 0)), (.v (.int .i64 0))]), (.v (.int .i64 0))]), 176⟩),
(161, ⟨.arr 2 3, (.cn .sc (.cn .sc (.nl))), (.st [(.v (.int .i64 0)), (.v (.int .i64 0))]), 16⟩),
(168, ⟨.ptr 188, .sc, (.v (.pointer none)), 8⟩),
(173, ⟨.int .u64, .sc, (.v (.int .u64 0)), 8⟩),
(183, ⟨.int .u32, .sc, (.v (.int .u32 0)), 4⟩),
(184, ⟨.arr 8 183, (.cn .sc (.cn .sc (.cn .sc (.cn .sc (.cn .sc (.cn .sc (.cn .sc (.cn .sc (.nl))))))))), (.st [(.v (.int .u32 0)), (.v (.int .u32 0)), (.v (.int .u32 0)), (.v (.int .u32 0)), (.v (.int .u32 0)), (.v (.int .u32 0)), (.v (.int .u32 0)), (.v (.int .u32 0))]), 32⟩),
(186, ⟨.arr 64 5, (.ba 64), (.ba (List.replicate 64 0)), 64⟩),
(187, ⟨.rcd [(0, 4), (1, 184), (9, 186), (73, 3), (74, 3)], (.cn .sc (.cn (.cn .sc (.cn .sc (.cn .sc (.cn .sc (.cn .sc (.cn .sc (.cn .sc (.cn .sc (.nl))))))))) (.cn (.ba 64) (.cn .sc (.cn .sc (.nl)))))), (.st [(.v (.bool false)), (.st [(.v (.int .u32 0)), (.v (.int .u32 0)), (.v (.int .u32 0)), (.v (.int .u32 0)), (.v (.int .u32 0)), (.v (.int .u32 0)), (.v (.int .u32 0)), (.v (.int .u32 0))]), (.ba (List.replicate 64 0)), (.v (.int .i64 0)), (.v (.int .i64 0))]), 120⟩),
(188, ⟨.rcd [(0, 4), (1, 184), (9, 186), (73, 3), (74, 3)], (.cn .sc (.cn (.cn .sc (.cn .sc (.cn .sc (.cn .sc (.cn .sc (.cn .sc (.cn .sc (.cn .sc (.nl))))))))) (.cn (.ba 64) (.cn .sc (.cn .sc (.nl)))))), (.st [(.v (.bool false)), (.st [(.v (.int .u32 0)), (.v (.int .u32 0)), (.v (.int .u32 0)), (.v (.int .u32 0)), (.v (.int .u32 0)), (.v (.int .u32 0)), (.v (.int .u32 0)), (.v (.int .u32 0))]), (.ba (List.replicate 64 0)), (.v (.int .i64 0)), (.v (.int .i64 0))]), 120⟩),
(190, ⟨.int .u64, .sc, (.v (.int .u64 0)), 8⟩),
(193, ⟨.int .i64, .sc, (.v (.int .i64 0)), 8⟩),
(210, ⟨.arr 64 183, (.cn .sc (.cn .sc (.cn .sc (.cn .sc (.cn .sc (.cn .sc (.cn .sc (.cn .sc (.cn .sc (.cn .sc (.cn .sc (.cn .sc (.cn .sc (.cn .sc (.cn .sc (.cn .sc (.cn .sc (.cn .sc (.cn .sc (.cn .sc (.cn .sc (.cn .sc (.cn .sc (.cn .sc (.cn .sc (.cn .sc (.cn .sc (.cn .sc (.cn .sc (.cn .sc (.cn .sc (.cn .sc (.cn .sc (.cn .sc (.cn .sc (.cn .sc (.cn .sc (.cn .sc (.cn .sc (.cn .sc (.cn .sc (.cn .sc (.cn .sc (.cn .sc (.cn .sc (.cn .sc (.cn .sc (.cn .sc (.cn .sc (.cn .sc (.cn .sc (.cn .sc (.cn .sc (.cn .sc (.cn .sc (.cn .sc (.cn .sc (.cn .sc (.cn .sc (.cn .sc (.cn .sc (.cn .sc (.cn .sc (.cn .sc (.nl))))))))))))))))))))))))))))))))))))))))))))))))))))))))))))))))), (.st [(.v (.int .u32 0)), (.v (.int .u32 0)), (.v (.int .u32 0)), (.v (.int .u32 0)), (.v (.int .u32 0)), (.v (.int .u32 0)), (.v (.int .u32 0)), (.v (.int .u32 0)), (.v (.int .u32 0)), (.v (.int .u32 0)), (.v (.int .u32 0)), (.v (.int .u32 0)), (.v (.int .u32 0)), (.v (.int .u32 0)), (.v (.int .u32 0)), (.v (.int .u32 0)), (.v (.int .u32 0)), (.v (.int .u32 0)), (.v (.int .u32 0)), (.v (.int .u32 0)), (.v (.int .u32 0)), (.v (.int .u32 0)), (.v (.int .u32 0)), (.v (.int .u32 0)), (.v (.int .u32 0)), (.v (.int .u32 0)), (.v (.int .u32 0)), (.v (.int .u32 0)), (.v (.int .u32 0)), (.v (.int .u32 0)), (.v (.int .u32 0)), (.v (.int .u32 0)), (.v (.int .u32 0)), (.v (.int .u32 0)), (.v (.int .u32 0)), (.v (.int .u32 0)), (.v (.int .u32 0)), (.v (.int .u32 0)), (.v (.int .u32 0)), (.v (.int .u32 0)), (.v (.int .u32 0)), (.v (.int .u32 0)), (.v (.int .u32 0)), (.v (.int .u32 0)), (.v (.int .u32 0)), (.v (.int .u32 0)), (.v (.int .u32 0)), (.v (.int .u32 0)), (.v (.int .u32 0)), (.v (.int .u32 0)), (.v (.int .u32 0)), (.v (.int .u32 0)), (.v (.int .u32 0)), (.v (.int .u32 0)), (.v (.int .u32 0)), (.v (.int .u32 0)), (.v (.int .u32 0)), (.v (.int .u32 0)), (.v (.int .u32 0)), (.v (.int .u32 0)), (.v (.int .u32 0)), (.v (.int .u32 0)), (.v (.int .u32 0)), (.v (.int .u32 0))]), 256⟩),
(214, ⟨.int .u64, .sc, (.v (.int .u64 0)), 8⟩),
(218, ⟨.ptr 3, .sc, (.v (.pointer none)), 8⟩),
(224, ⟨.ptr 214, .sc, (.v (.pointer none)), 8⟩),
(236, ⟨.ptr 5, .sc, (.v (.pointer none)), 8⟩)]
set_option maxRecDepth 100000 in
theorem tab_ok : tab.ok Tryz.prog := tab_of (by kernel_rfl) (by kernel_rfl)
theorem wrapu8 (n : Int) : IntKind.u8.wrap n = n % 256 := by simp [IntKind.wrap, IntKind.bits, IntKind.signed]
theorem wrapu16 (n : Int) : IntKind.u16.wrap n = n % 65536 := by simp [IntKind.wrap, IntKind.bits, IntKind.signed]
theorem wrapu32 (n : Int) : IntKind.u32.wrap n = n % 4294967296 := by simp [IntKind.wrap, IntKind.bits, IntKind.signed]
theorem wrapu64 (n : Int) : IntKind.u64.wrap n = n % 18446744073709551616 := by simp [IntKind.wrap, IntKind.bits, IntKind.signed]
theorem u8n (x d : Nat) : UInt8.ofNat (((x : Int) / (d : Int)) % 256).toNat = UInt8.ofNat (x / d) := by
  have h : (((x : Int) / (d : Int)) % 256).toNat = x / d % 256 := by
    rw [show (x : Int) / (d : Int) = ((x / d : Nat) : Int) from (Int.natCast_ediv x d).symm]; omega
  rw [h]; apply UInt8.toNat_inj.1; simp
theorem u8m (x : Nat) : UInt8.ofNat ((x : Int) % 256).toNat = UInt8.ofNat x := by
  have h : ((x : Int) % 256).toNat = x % 256 := by omega
  rw [h]; apply UInt8.toNat_inj.1; simp
section
variable {α : Type} (x : α)
theorem rep1 : List.replicate 1 x = [x] := rfl
theorem rep2 : List.replicate 2 x = [x, x] := rfl
theorem rep3 : List.replicate 3 x = [x, x, x] := rfl
theorem rep4 : List.replicate 4 x = [x, x, x, x] := rfl
theorem rep5 : List.replicate 5 x = [x, x, x, x, x] := rfl
end
def bss (ls : List (List UInt8)) : List AV := ls.map fun l => .bs l none
section
variable {P : Program} {τ : Tab} {w0 w : World} {N : Gh} {g : Gh} {st st' st1 : St} {nt : Nat} {a : Act}
theorem v_cond {Q : Exit → Act → World → Prop} {c : Operand} {x y : Code} {b : Bool} (H : Rel P w0 N nt st a w) (hc : st.ev none c = .v (.bool b))
    (h1 : b = true → x.wp P Q a w) (h2 : b = false → y.wp P Q a w) : (Code.cond c x y).wp P Q a w := by
  obtain ⟨g, HI, hF⟩ := H
  have := ev_sound hF (c := none) trivial c
  rw [hc] at this
  exact wp_cond_split this.v_inv h1 h2
theorem hNq {q : Nat} (h : N.bx.length ≤ q) : ∀ k, some q = some k → N.bx.length ≤ k := fun k e => by injection e with e; subst e; exact h
theorem vrun_conds {md : Option Nat} {ops : Array Oper} : ∀ (l : List Oper) (st : St) (c : Prop), (vrun τ md nt ops l st c).2.1 → c := by
  intro l
  induction l with
  | nil => intro st c h; exact h
  | cons o l ih =>
    intro st c h
    unfold vrun at h
    split at h
    · exact (ih _ _ h).1
    exact h
theorem v_more {ops : Array Oper} {Q : Exit → Act → World → Prop} {q : Nat} {o : Oper} {l l' : List Oper} {c1 c' : Prop} (hτ : τ.ok P) (hN : N.bx.length ≤ q) (H : Rel P w0 N nt st a w) (h0 : vstep τ (some q) nt ops o st = some (st1, c1)) (h : vrun τ (some q) nt ops l st1 c1 = (st', c', l')) (hc : c')
    (k : ∀ a w, Rel P w0 N nt st' a w → wpList P ops Q l' a w) : wpList P ops Q (o :: l) a w := by
  have hc1 : c1 := by have := vrun_conds (τ := τ) (nt := nt) (md := some q) (ops := ops) l st1 c1; rw [h] at this; exact this hc
  exact vstep_wpList hτ (hNq hN) h0 hc1 H fun a w H' => vrun_wpList hτ (hNq hN) l st1 c1 c' l' h hc a w H' k
theorem v_steps {ops : Array Oper} {Q : Exit → Act → World → Prop} {q : Nat} {l : List Oper} {c' : Prop} (n : Nat) (hτ : τ.ok P) (hN : N.bx.length ≤ q) (H : Rel P w0 N nt st a w) (h : vrun τ (some q) nt ops (l.take n) st True = (st', c', [])) (hc : c')
    (k : ∀ a w, Rel P w0 N nt st' a w → wpList P ops Q (l.drop n) a w) : wpList P ops Q l a w := by
  have key : ∀ (l1 l2 : List Oper) (st : St) (c : Prop), vrun τ (some q) nt ops l1 st c = (st', c', []) → c' → ∀ a w, Rel P w0 N nt st a w → (∀ a w, Rel P w0 N nt st' a w → wpList P ops Q l2 a w) → wpList P ops Q (l1 ++ l2) a w := by
    intro l1 l2
    induction l1 with
    | nil => intro st c h _ a w H k; simp only [vrun, Prod.mk.injEq] at h; obtain ⟨rfl, rfl, _⟩ := h; exact k _ _ H
    | cons o l1 ih =>
      intro st c h hc a w H k
      unfold vrun at h
      split at h
      · rename_i st1 cd1 hs
        have hc1 : cd1 := by have := vrun_conds (τ := τ) (nt := nt) (md := some q) (ops := ops) l1 st1 (c ∧ cd1); rw [h] at this; exact (this hc).2
        exact vstep_wpList hτ (hNq hN) hs hc1 H fun a w H' => ih st1 _ h hc a w H' k
      simp at h
  have := key (l.take n) (l.drop n) st True h hc a w H k
  rwa [List.take_append_drop] at this
def nilT (d : Nat) (b : AV) : List (Nat × Gd × AV) → List (Nat × Gd × AV)
  | [] => []
  | (k, x) :: l => if k = d then (d, none, b) :: l else (k, x) :: nilT d b l
theorem nilT_mem {d : Nat} {b : AV} {p : Nat × Gd × AV} : ∀ {l : List (Nat × Gd × AV)}, p ∈ nilT d b l → p = (d, none, b) ∨ p ∈ l
  | q :: l, h => by
    unfold nilT at h
    split at h
    · rcases List.mem_cons.1 h with h | h
      · exact .inl h
      exact .inr (List.mem_cons_of_mem _ h)
    rcases List.mem_cons.1 h with h | h
    · exact .inr (by rw [h]; exact List.mem_cons_self)
    rcases nilT_mem h with h | h
    · exact .inl h
    exact .inr (List.mem_cons_of_mem _ h)
theorem v_nilE (hτ : τ.ok P) (H : Rel P w0 N nt st a w) (d e : Nat) {j : TI} (T : Ty) (hj : Tab.get e τ = some j) (hs : 0 < j.ty.size) (hd : find d st.t = some (none, .v (.slice none 0 0))) :
    Rel P w0 N nt ⟨nilT d (.sl T [] (some st.rw.length)) st.t, st.bx, st.fz, st.rw ++ [(e, 0)]⟩ a w := by
  obtain ⟨g, HI, hF⟩ := H
  have hok := Tab.get_ok hτ hj
  obtain ⟨g1, l1, I1, h1⟩ := HI.rowNil (nilRow hok hs w) rfl rfl ⟨hok.cells.symm, rfl⟩
  refine ⟨g1, I1, (hF.mono l1.1).sz, hF.df, fun p hp hg => ?_, fun p hp hg => by rcases nilT_mem hp with h | h; (subst h; exact absurd trivial hg); exact hF.u p h hg⟩
  have hv : RV g1 (.sl T [] (some st.rw.length)) (a.tmps.getD d undef) := by
    have := (hF.t _ (find_mem hd) trivial).v_inv
    rw [this]
    exact (RC.sl (g := g1) (T := T) (es := []) (A := none) (c := 0) (by simp) (by simp [maxLen]) (fun _ => []) (.inl rfl) (fun k hk => absurd hk (by simp)) fun i hi => by injection hi with hi; subst hi; exact ⟨_, h1, by simp, fun _ => ⟨rfl, rfl⟩⟩).rv1
  have key : ∀ l : List (Nat × Gd × AV), p ∈ nilT d (.sl T [] (some st.rw.length)) l → p = (d, none, .sl T [] (some st.rw.length)) ∨ p ∈ l := by
    intro l
    induction l with
    | nil => intro h; cases h
    | cons q l ih =>
      intro h
      unfold nilT at h
      split at h
      · rcases List.mem_cons.1 h with h | h
        · exact .inl h
        exact .inr (List.mem_cons_of_mem _ h)
      rcases List.mem_cons.1 h with h | h
      · exact .inr (by rw [h]; exact List.mem_cons_self)
      rcases ih h with h | h
      · exact .inl h
      exact .inr (List.mem_cons_of_mem _ h)
  rcases key _ hp with h | h
  · subst h; exact hv
  exact (hF.mono l1.1).t p h hg
end
def hasAny : Nat → AV → Bool
  | _, .any => true
  | d + 1, .st fs => fs.any (hasAny d)
  | _, _ => false
def qopN (τ : Tab) (st : St) (c : Gd) (o : Op) : QR :=
  match qop2 τ st c o with
  | some (r, cd) => if hasAny 3 r then none else some (r, cd)
  | none => none
theorem qopN_some {τ : Tab} {st : St} {c : Gd} {o : Op} {x : AV × Prop} (h : qopN τ st c o = some x) : qop2 τ st c o = some x := by
  unfold qopN at h
  split at h
  · rename_i hq
    split at h
    · cases h
    rw [hq]; exact h
  cases h
def qopA (τ : Tab) (st : St) (c : Gd) (o : Op) : QR :=
  match o with
  | .build t ps => qopN τ st c (.build t ps)
  | o => qop2 τ st c o
theorem qopA_some {τ : Tab} {st : St} {c : Gd} {o : Op} {x : AV × Prop} (h : qopA τ st c o = some x) : qop2 τ st c o = some x := by
  unfold qopA at h
  split at h
  · exact qopN_some h
  exact h
def St.lose (st : St) (dst : Option Tmp) : St :=
  match dst with
  | none => st
  | some d => { st with t := dropT d st.t }
def isSlc : Op → Bool
  | .slice _ _ _ _ _ => true
  | _ => false
def loudOk (md : Option Nat) (sq : St) (o : Op) : Bool := !isSto o || sq.bx.isEmpty
def stillE (τ : Tab) (md : Option Nat) (st : St) (c : Gd) (o : Op) : ER :=
  match (match o with
    | .slice t x lo hi none => (match md, isNoneG c with
      | some q0, true => frzE τ q0 st t (st.ev c x) (lo.map (st.ev c)) (hi.map (st.ev c))
      | _, _ => none)
    | _ => none) with
  | some r => some r
  | none => (match qop2 τ st c o with
    | some (r, cd) => some (st, r, cd)
    | none => none)
def vstepT (τ : Tab) (md : Option Nat) (nt : Nat) (ops : Array Oper) (L A : List Nat) (k : Nat) (o : Oper) (sq st : St) : Option (St × St × Prop) :=
  match gdOf ops o with
  | none => none
  | some c =>
    if okDst nt c o.dst then
      (if L.contains k then
        (if isNoneG c && loudOk md sq o.op then (match orE (eop τ none st c o.op) (if sq.bx.isEmpty then eopV τ st c o.op else none) with
          | some (st', r, cd) => some (sq.lose o.dst, st'.put o.dst c r, cd)
          | none => (match qop2 τ st c o.op with
            | some (r, cd) => some (sq.lose o.dst, st.put o.dst c r, gcond st c cd)
            | none => none)) else none)
      else
        (if A.contains k then (match qopA τ sq c o.op with
          | some (r, cd) => some (sq.put o.dst c r, st.put o.dst c r, gcond sq c cd)
          | none => (match (if memless o.op then qop2 τ st c o.op else none) with
            | some (r, cd) => some (sq.lose o.dst, st.put o.dst c r, gcond st c cd)
            | none => none))
        else (match stillE τ md st c o.op with
          | some (st', r, cd) => (match qopN τ sq c o.op with
            | some (r', cd') => (if md.isSome && isSlc o.op then some (sq.lose o.dst, st'.put o.dst c r, gcond st c cd) else some (sq.put o.dst c r', st.put o.dst c r', gcond sq c cd'))
            | none => some (sq.lose o.dst, st'.put o.dst c r, gcond st c cd))
          | none => none)))
    else none
def vrunT (τ : Tab) (md : Option Nat) (nt : Nat) (ops : Array Oper) (L A : List Nat) : List Oper → Nat → St → St → Prop → St × St × Prop × List Oper × Nat
  | [], k, sq, st, c => (sq, st, c, [], k)
  | o :: l, k, sq, st, c =>
    match vstepT τ md nt ops L A k o sq st with
    | some (sq', st', cd) => vrunT τ md nt ops L A l (k + 1) sq' st' (c ∧ cd)
    | none => (sq, st, c, o :: l, k)
section
variable {P : Program} {τ : Tab} {w0 w : World} {N : Gh} {g gS : Gh} {st st' sq sq' : St} {nt : Nat} {a : Act} {r : AV} {cd : Prop}
structure RelT (P : Program) (w0 : World) (N : Gh) (nt : Nat) (gS : Gh) (sq st : St) (a : Act) (w : World) : Prop where
  mem : Mem gS w
  rows : gS.rw = []
  fr : FR gS nt sq a
  br : BR gS sq.bx
  rel : ∃ g, Inv P w0 N g st.bx st.fz st.rw w ∧ FR g nt st a ∧ gS.le g ∧ Bs gS g
theorem MemS {w' : World} (h : Mem gS w) (hr : gS.rw = []) (HI : Inv P w0 N g st.bx st.fz st.rw w') (hl : gS.le g) (hb : Bs gS g) : Mem gS w' := by
  have no : ∀ {i : Nat} {x : Rw}, gS.rw[i]? = some x → False := fun {i x} h => by rw [hr] at h; simp at h
  exact ⟨fun b o u hu => HI.mem.ro _ _ _ (hl.ro _ _ _ hu), fun i x hx hxo => (by
      obtain ⟨y, h1, h2, h3, h4, h5, h6⟩ := hb i x hx
      have := HI.mem.bx i y h1 (h5.trans hxo)
      exact ⟨fun e => (by have h7 := this.c (h6.trans e); rw [h2, h3, h4] at h7; exact h7), fun m e => (by have h7 := this.m m (h6.trans e); rw [h2] at h7; exact h7)⟩), h.offc, h.mpc,
    fun i x h => (no h).elim, h.fro, h.bro, h.bb, h.rro, h.rwo, h.rb, h.rr⟩
theorem FR.lose {dst : Option Tmp} (hF : FR g nt st a) (v : Value) : FR g nt (st.lose dst) (a.put dst v) := by
  cases dst with
  | none => exact hF
  | some d =>
    refine ⟨by simp [Act.put, hF.sz], hF.df, fun p hp hgp => ?_, fun p hp hgp => ?_⟩
    rotate_left
    · obtain ⟨h1, h2, h3⟩ := dropT_mem hp
      rw [getD_put h2]
      refine hF.u p h1 fun hc => hgp ?_
      cases hq : p.2.1 with
      | none => trivial
      | some k => obtain ⟨j, b⟩ := k; rw [hq] at hc; show (a.put (some d) v).tmps.getD j undef = .bool b; rw [getD_put (h3 j b hq)]; exact hc
    obtain ⟨h1, h2, h3⟩ := dropT_mem hp
    rw [getD_put h2]
    refine hF.t p h1 ?_
    cases hc : p.2.1 with
    | none => trivial
    | some k =>
      obtain ⟨j, b⟩ := k
      rw [hc] at hgp
      have : (a.put (some d) v).tmps.getD j undef = .bool b := hgp
      rw [getD_put (h3 j b hc)] at this
      exact this
theorem lose_bx (st : St) (dst : Option Tmp) : (st.lose dst).bx = st.bx := by cases dst <;> rfl
theorem put_bx (st : St) (dst : Option Tmp) (c : Gd) (r : AV) : (st.put dst c r).bx = st.bx ∧ (st.put dst c r).fz = st.fz ∧ (st.put dst c r).rw = st.rw := by cases dst <;> exact ⟨rfl, rfl, rfl⟩
theorem stillE_sound (hτ : τ.ok P) {md : Option Nat} (hN : ∀ q, md = some q → N.bx.length ≤ q) (HI : Inv P w0 N g st.bx st.fz st.rw w) (hF : FR g nt st a) {c : Gd} (hg : gholds a c) {o : Oper} (h : stillE τ md st c o.op = some (st', r, cd)) (hc : cd) :
    ∃ g' z, g.lex g' ∧ Inv P w0 N g' st'.bx st'.fz st'.rw w ∧ st'.t = st.t ∧ (execOp a.eval o).run P w = .ok (.value z) w ∧ RV g' r z := by
  unfold stillE at h
  split at h
  · rename_i q hq
    injection h with h; subst h
    split at hq
    · rename_i t x lo hi ho
      split at hq
      · rename_i q0 _
        have E := fun x => ev_sound hF hg x
        have RO_ : ∀ x : Option Operand, RO g (x.map (st.ev c)) (x.map a.eval) := fun x => by cases x with | none => trivial | some x => exact E x
        have hq' : frzE τ q0 st t (st.ev c x) (lo.map (st.ev c)) (hi.map (st.ev c)) = some (st', r, cd) := hq
        obtain ⟨g', z, h1, h2, h3, h4, h5⟩ := frzE_still hτ HI (hN _ rfl) hq' hc (E x) (RO_ lo) (RO_ hi)
        exact ⟨g', z, h1, h2, h3, by unfold execOp; rw [ho]; simp [h4], h5⟩
      cases hq
    cases hq
  split at h
  · rename_i r0 cd0 hq
    obtain ⟨rfl, rfl, rfl⟩ := ER.inj h
    obtain ⟨z, h1, h2⟩ := qop2_sound (P := P) hτ hF HI.br hg hq hc
    exact ⟨g, z, Gh.lex.refl g, HI, rfl, h2 w HI.mem, h1⟩
  cases h
theorem stillE_st {md : Option Nat} {q : Nat × Bool} {o : Op} (h : stillE τ md st (some q) o = some (st', r, cd)) : st' = st := by
  unfold stillE at h
  split at h
  · rename_i x hx
    split at hx
    · simp [isNoneG] at hx
    cases hx
  split at h
  · exact (ER.inj h).1.symm
  cases h
theorem qop2_memless (hτ : τ.ok P) (hF : FR g nt st a) (hB : BR g st.bx) {c : Gd} (hg : gholds a c) {o : Oper} (hm : memless o.op = true) (h : qop2 τ st c o.op = some (r, cd)) (hc : cd) :
    ∃ z, RV g r z ∧ ∀ w, (execOp a.eval o).run P w = .ok (.value z) w := by
  unfold qop2 at h
  split at h
  · rename_i t ps ho
    obtain ⟨z, h1, h2⟩ := buildq_sound (P := P) hτ hF hg h hc
    exact ⟨z, h1, fun w => by unfold execOp; rw [ho]; simp [h2 w]⟩
  obtain ⟨z, h1, h2⟩ := qop_sound (P := P) hτ hF hB hg h hc
  exact ⟨z, h1, fun w => h2 w (.inl hm)⟩
theorem vstepT_wpT {ops : Array Oper} {Q : Exit → Act → World → Prop} {L A : List Nat} {rest : List Oper} {k : Nat} {o : Oper} {md : Option Nat} (hτ : τ.ok P) (hN : ∀ q, md = some q → N.bx.length ≤ q) (h : vstepT τ md nt ops L A k o sq st = some (sq', st', cd)) (hc : cd)
    (H : RelT P w0 N nt gS sq st a w) (kk : ∀ a w, RelT P w0 N nt gS sq' st' a w → wpT P ops Q (Mem gS) L A rest (k + 1) a w) : wpT P ops Q (Mem gS) L A (o :: rest) k a w := by
  obtain ⟨hM, hrw, hFq, hBq, g, HI, hF, hl, hbs⟩ := H
  unfold vstepT at h
  split at h
  · cases h
  rename_i c hgd
  split at h
  · rename_i hdst
    unfold wpT
    split at h
    · rename_i hL
      split at h
      · rename_i hcond
        simp only [Bool.and_eq_true] at hcond
        obtain ⟨hng, hlo⟩ := hcond
        have hcn : c = none := by cases c with | none => rfl | some k => simp [isNoneG] at hng
        subst hcn
        have hw : Region.wanted o (yielded ops a.tmps) = true := (gdOf_wanted hgd).2 trivial
        rw [if_pos hw, if_pos hL]
        split at h
        · rename_i st1 r1 cd1 he
          injection h with h
          simp only [Prod.mk.injEq] at h
          obtain ⟨rfl, rfl, rfl⟩ := h
          have hem : sq.bx = [] → ∀ g', Bs gS g' := fun h g' i x hx => by
            have := hBq.len; rw [h] at this
            rw [List.length_eq_zero_iff.1 this] at hx; simp at hx
          obtain ⟨g', w', ⟨k1, hbs'⟩, k2, k3, k4⟩ : ∃ g' w', (g.le g' ∧ Bs gS g') ∧ Inv P w0 N g' st1.bx st1.fz st1.rw w' ∧ st1.t = st.t ∧ ((∃ z, (execOp a.eval o).run P w = .ok (.value z) w' ∧ RV g' r1 z) ∨ ((execOp a.eval o).run P w = .ok .skip w' ∧ r1 = .any)) := by
            rcases orE_some he with he | he
            · obtain ⟨g', w', k1, k⟩ := eop_sound hτ (md := none) (fun _ h => (by cases h)) HI hF (c := none) trivial he hc
              refine ⟨g', w', ⟨k1.1, ?_⟩, k⟩
              simp only [loudOk, Bool.or_eq_true, Bool.not_eq_true', List.isEmpty_iff] at hlo
              rcases hlo with h | h
              · exact hbs.trans (k1.2 h)
              exact hem h g'
            split at he
            · rename_i hz
              obtain ⟨g', w', k1, k⟩ := eopV_sound hτ HI hF (c := none) trivial he hc
              exact ⟨g', w', ⟨k1.1, hem (List.isEmpty_iff.1 hz) g'⟩, k⟩
            cases he
          have hl' := hl.trans k1
          have fin : ∀ v, RV g' r1 v → RelT P w0 N nt gS (sq.lose o.dst) (st1.put o.dst none r1) (a.put o.dst v) w' := fun v hv =>
            ⟨MemS hM hrw k2 hl' hbs', hrw, hFq.lose v, by rw [lose_bx]; exact hBq, g', by rw [(put_bx _ _ _ _).1, (put_bx _ _ _ _).2.1, (put_bx _ _ _ _).2.2]; exact k2, (hF.mono k1).put hdst (fun _ => hv) k3 (fun h => absurd trivial h), hl', hbs'⟩
          unfold Oper.wp
          rcases k4 with ⟨z, h1, h2⟩ | ⟨h1, h2⟩
          · rw [h1, Oper.upon_value]; exact ⟨(fin z h2).mem, kk _ _ (fin z h2)⟩
          rw [h1, Oper.upon_skip]; have := fin undef (by rw [h2]; trivial); exact ⟨this.mem, kk _ _ this⟩
        split at h
        · rename_i r1 cd1 hq
          injection h with h
          simp only [Prod.mk.injEq] at h
          obtain ⟨rfl, rfl, rfl⟩ := h
          obtain ⟨z, h1, h2⟩ := qop2_sound (P := P) hτ hF HI.br (c := none) trivial hq (gcond_elim hF hc trivial)
          unfold Oper.wp
          rw [h2 w HI.mem, Oper.upon_value]
          exact ⟨hM, kk _ _ ⟨hM, hrw, hFq.lose z, by rw [lose_bx]; exact hBq, g, by rw [(put_bx _ _ _ _).1, (put_bx _ _ _ _).2.1, (put_bx _ _ _ _).2.2]; exact HI, hF.put hdst (fun _ => h1) rfl (fun h => absurd trivial h), hl, hbs⟩⟩
        cases h
      cases h
    rename_i hL
    have hL' : L.contains k = false := by simpa using hL
    have quiet : ∀ {r0 : AV} {cd0 : Prop}, qop2 τ sq c o.op = some (r0, cd0) → gcond sq c cd0 → (∀ a w, RelT P w0 N nt gS (sq.put o.dst c r0) (st.put o.dst c r0) a w → wpT P ops Q (Mem gS) L A rest (k + 1) a w) →
        (if Region.wanted o (yielded ops a.tmps) = true then (if L.contains k = true then o.wp P a w (fun a' w' => Mem gS w' ∧ wpT P ops Q (Mem gS) L A rest (k + 1) a' w') NoQ
          else ∃ v, Qr P o a w v ∧ (A.contains k = true → ∀ w', Mem gS w' → Vr P o a w' v) ∧ wpT P ops Q (Mem gS) L A rest (k + 1) (a.put o.dst v) w)
        else wpT P ops Q (Mem gS) L A rest (k + 1) (a.put o.dst undef) w) := by
      intro r0 cd0 hq hc0 kk
      by_cases hw : Region.wanted o (yielded ops a.tmps) = true
      · rw [if_pos hw, if_neg hL]
        obtain ⟨z, h1, h2⟩ := qop2_sound (P := P) hτ hFq hBq ((gdOf_wanted hgd).1 hw) hq (gcond_elim hFq hc0 ((gdOf_wanted hgd).1 hw))
        have hv : ∀ w', Mem gS w' → Vr P o a w' z := h2
        refine ⟨z, (hv w hM).qr, fun _ => hv, kk _ _ ⟨hM, hrw, hFq.put hdst (fun _ => h1) rfl (fun h => absurd ((gdOf_wanted hgd).1 hw) h), by rw [(put_bx _ _ _ _).1]; exact hBq, g, by rw [(put_bx _ _ _ _).1, (put_bx _ _ _ _).2.1, (put_bx _ _ _ _).2.2]; exact HI, hF.put hdst (fun _ => h1.mono hl) rfl (fun h => absurd ((gdOf_wanted hgd).1 hw) h), hl, hbs⟩⟩
      rw [if_neg hw]
      exact kk _ _ ⟨hM, hrw, hFq.put hdst (fun hg => absurd ((gdOf_wanted hgd).2 hg) hw) rfl (fun _ => rfl), by rw [(put_bx _ _ _ _).1]; exact hBq, g, by rw [(put_bx _ _ _ _).1, (put_bx _ _ _ _).2.1, (put_bx _ _ _ _).2.2]; exact HI, hF.put hdst (fun hg => absurd ((gdOf_wanted hgd).2 hg) hw) rfl (fun _ => rfl), hl, hbs⟩
    split at h
    · split at h
      · rename_i r1 cd1 hq
        injection h with h
        simp only [Prod.mk.injEq] at h
        obtain ⟨rfl, rfl, rfl⟩ := h
        exact quiet (qopA_some hq) hc kk
      split at h
      · rename_i r1 cd1 hq
        injection h with h
        simp only [Prod.mk.injEq] at h
        obtain ⟨rfl, rfl, rfl⟩ := h
        split at hq
        · rename_i hml
          by_cases hw : Region.wanted o (yielded ops a.tmps) = true
          · rw [if_pos hw, if_neg hL]
            obtain ⟨z, h1, h2⟩ := qop2_memless (P := P) hτ hF HI.br ((gdOf_wanted hgd).1 hw) hml hq (gcond_elim hF hc ((gdOf_wanted hgd).1 hw))
            have hv : ∀ w', Mem gS w' → Vr P o a w' z := fun w' _ => h2 w'
            exact ⟨z, (hv w hM).qr, fun _ => hv, kk _ _ ⟨hM, hrw, hFq.lose z, by rw [lose_bx]; exact hBq, g, by rw [(put_bx _ _ _ _).1, (put_bx _ _ _ _).2.1, (put_bx _ _ _ _).2.2]; exact HI, hF.put hdst (fun _ => h1) rfl (fun h => absurd ((gdOf_wanted hgd).1 hw) h), hl, hbs⟩⟩
          rw [if_neg hw]
          exact kk _ _ ⟨hM, hrw, hFq.lose undef, by rw [lose_bx]; exact hBq, g, by rw [(put_bx _ _ _ _).1, (put_bx _ _ _ _).2.1, (put_bx _ _ _ _).2.2]; exact HI, hF.put hdst (fun hg => absurd ((gdOf_wanted hgd).2 hg) hw) rfl (fun _ => rfl), hl, hbs⟩
        cases hq
      cases h
    rename_i hA
    have hA' : A.contains k = false := by simpa using hA
    split at h
    · rename_i st1 r1 cd1 he
      have still : gcond st c cd1 → (∀ a w, RelT P w0 N nt gS (sq.lose o.dst) (st1.put o.dst c r1) a w → wpT P ops Q (Mem gS) L A rest (k + 1) a w) →
          (if Region.wanted o (yielded ops a.tmps) = true then (if L.contains k = true then o.wp P a w (fun a' w' => Mem gS w' ∧ wpT P ops Q (Mem gS) L A rest (k + 1) a' w') NoQ
            else ∃ v, Qr P o a w v ∧ (A.contains k = true → ∀ w', Mem gS w' → Vr P o a w' v) ∧ wpT P ops Q (Mem gS) L A rest (k + 1) (a.put o.dst v) w)
          else wpT P ops Q (Mem gS) L A rest (k + 1) (a.put o.dst undef) w) := by
        intro hc1 kk
        by_cases hw : Region.wanted o (yielded ops a.tmps) = true
        · rw [if_pos hw, if_neg hL]
          obtain ⟨g', z, k1, k2, k3, k4, k5⟩ := stillE_sound (P := P) hτ hN HI hF ((gdOf_wanted hgd).1 hw) he (gcond_elim hF hc1 ((gdOf_wanted hgd).1 hw))
          refine ⟨z, (show Vr P o a w z from k4).qr, fun h => (by rw [hA'] at h; cases h), kk _ _ ⟨hM, hrw, hFq.lose z, by rw [lose_bx]; exact hBq, g', by rw [(put_bx _ _ _ _).1, (put_bx _ _ _ _).2.1, (put_bx _ _ _ _).2.2]; exact k2, (hF.mono k1.1).put hdst (fun _ => k5) k3 (fun h => absurd ((gdOf_wanted hgd).1 hw) h), hl.trans k1.1, hbs.trans k1.2⟩⟩
        rw [if_neg hw]
        have hst1 : st1 = st ∨ c = none := by
          cases c with
          | none => exact .inr rfl
          | some q => exact .inl (stillE_st he)
        rcases hst1 with h1 | h1
        · subst h1
          exact kk _ _ ⟨hM, hrw, hFq.lose undef, by rw [lose_bx]; exact hBq, g, by rw [(put_bx _ _ _ _).1, (put_bx _ _ _ _).2.1, (put_bx _ _ _ _).2.2]; exact HI, hF.put hdst (fun hg => absurd ((gdOf_wanted hgd).2 hg) hw) rfl (fun _ => rfl), hl, hbs⟩
        subst h1; exact absurd ((gdOf_wanted hgd).2 trivial) hw
      split at h
      · rename_i r' cd' hq
        split at h
        · injection h with h
          simp only [Prod.mk.injEq] at h
          obtain ⟨rfl, rfl, rfl⟩ := h
          exact still hc kk
        injection h with h
        simp only [Prod.mk.injEq] at h
        obtain ⟨rfl, rfl, rfl⟩ := h
        exact quiet (qopN_some hq) hc kk
      injection h with h
      simp only [Prod.mk.injEq] at h
      obtain ⟨rfl, rfl, rfl⟩ := h
      exact still hc kk
    cases h
  cases h
theorem vrunT_conds {md : Option Nat} {ops : Array Oper} {L A : List Nat} : ∀ (l : List Oper) (k : Nat) (sq st : St) (c : Prop), (vrunT τ md nt ops L A l k sq st c).2.2.1 → c := by
  intro l
  induction l with
  | nil => intro k sq st c h; exact h
  | cons o l ih =>
    intro k sq st c h
    unfold vrunT at h
    split at h
    · exact (ih _ _ _ _ h).1
    exact h
theorem vrunT_wpT {ops : Array Oper} {Q : Exit → Act → World → Prop} {L A : List Nat} {md : Option Nat} (hτ : τ.ok P) (hN : ∀ q, md = some q → N.bx.length ≤ q) : ∀ (l : List Oper) (k : Nat) (sq st : St) (c c' : Prop) (l' : List Oper) (k' : Nat), vrunT τ md nt ops L A l k sq st c = (sq', st', c', l', k') → c' →
    ∀ (a : Act) (w : World), RelT P w0 N nt gS sq st a w → (∀ a w, RelT P w0 N nt gS sq' st' a w → wpT P ops Q (Mem gS) L A l' k' a w) → wpT P ops Q (Mem gS) L A l k a w := by
  intro l
  induction l with
  | nil => intro k sq st c c' l' k' h _ a w H kk; simp only [vrunT, Prod.mk.injEq] at h; obtain ⟨rfl, rfl, rfl, rfl, rfl⟩ := h; exact kk _ _ H
  | cons o l ih =>
    intro k sq st c c' l' k' h hc a w H kk
    unfold vrunT at h
    split at h
    · rename_i sq1 st1 cd1 hs
      have hc1 : cd1 := by have := vrunT_conds (τ := τ) (nt := nt) (md := md) (ops := ops) (L := L) (A := A) l (k + 1) sq1 st1 (c ∧ cd1); rw [h] at this; exact (this hc).2
      exact vstepT_wpT hτ hN hs hc1 H fun a w H' => ih (k + 1) sq1 st1 _ c' l' k' h hc a w H' kk
    simp only [Prod.mk.injEq] at h
    obtain ⟨rfl, rfl, rfl, rfl, rfl⟩ := h
    exact kk _ _ H
theorem Inv.loose {bx : List (Ty × AV)} {fz : List Nat} {rw_ : List (TypeId × Nat)} (h : Inv P w0 N g bx fz rw_ w) : Inv P { w with heap := #[] } ⟨fun _ _ => none, [], []⟩ g bx fz rw_ w :=
  ⟨h.mem, ⟨⟨rfl, rfl, rfl, Nat.zero_le _, fun k hk => absurd hk (Nat.not_lt_zero _)⟩, fun _ _ _ _ => .inl (Nat.zero_le _), fun _ _ _ _ _ => .inl (Nat.zero_le _), fun b hb => absurd hb (Nat.not_lt_zero _), ⟨fun _ _ _ h => (by cases h), fun _ _ h => (by cases h), fun _ _ h => (by cases h)⟩⟩, h.br, h.fz, h.wr, h.wz⟩
theorem v_draw {id : Nat} {Q : Exit → Act → World → Prop} {l : List Oper} (nb : Nat) (L A : List Nat) (hm : P.follows .mixedOrders = true) (hchk : chk l.toArray (Region.before l.toArray) L A = true) (H : Rel P w0 N nt st a w)
    (hb : (st.bx.take nb).all (fun x => low nb 0 4 x.2) = true)
    (k : ∀ gS, RelT P w0 N nt gS ⟨st.t.filter fun p => low nb 0 4 p.2.2, st.bx.take nb, st.fz, []⟩ st a w.drew → wpT P l.toArray Q (Mem gS) L A l 0 a w.drew) : (Code.region id l.toArray true).wp P Q a w := by
  obtain ⟨g, HI, hF⟩ := H
  have HI' := HI.drew
  have hc := HI'.loose.cut (nr := 0) (Nat.zero_le _) (Nat.zero_le _) hb
  have hgb : ∀ (i : Nat) x, (g.cut nb 0).bx[i]? = some x → g.bx[i]? = some x := fun i x hx => by
    have : (g.bx.take nb)[i]? = some x := hx
    rw [List.getElem?_take] at this
    split at this
    · exact this
    cases this
  have hle : (g.cut nb 0).le g := ⟨fun _ _ _ h => h, fun i x hx => ⟨x, hgb i x hx, x.same⟩, fun i r hr => by simp [Gh.cut] at hr⟩
  have hbs : Bs (g.cut nb 0) g := fun i x hx => ⟨x, hgb i x hx, rfl, rfl, rfl, rfl, rfl⟩
  have HT : RelT P w0 N nt (g.cut nb 0) ⟨st.t.filter fun p => low nb 0 4 p.2.2, st.bx.take nb, st.fz, []⟩ st a w.drew :=
    ⟨hc.mem, by simp [Gh.cut], ⟨hF.sz, hF.df, fun p hp hg => by
      simp only [List.mem_filter] at hp
      exact (hF.t p hp.1 hg).low_ (d := 3) hp.2, fun p hp hg => hF.u p (List.mem_filter.1 hp).1 hg⟩, hc.br, g, HI', hF, hle, hbs⟩
  exact wp_region_T L A (Mem (g.cut nb 0)) hm hchk HT.mem (k _ HT)
theorem v_drawNil {ops : Array Oper} {Q : Exit → Act → World → Prop} {L A : List Nat} {k : Nat} (H : RelT P w0 N nt gS sq st a w) (h : Rel P w0 N nt st a w → Q .normal a w) : wpT P ops Q (Mem gS) L A [] k a w := by
  obtain ⟨_, _, _, _, g, HI, hF, _⟩ := H
  exact h ⟨g, HI, hF⟩
theorem v_callT {ops : Array Oper} {Q : Exit → Act → World → Prop} {L A : List Nat} {k : Nat} {rest : List Oper} {o : Oper} {f : FuncId} {xs : List Operand} {ats : Array TypeId} {bxc bx' : List (Ty × AV)} {fzc fz' : List Nat} {rwc rw' : List (TypeId × Nat)} {args : List AV} {res : AV} (js ks : List Nat)
    (hc : VX P f bxc fzc rwc args bx' fz' rw' res) (H : RelT P w0 N nt gS sq st a w) (hL : L.contains k = true) (hjs : js.all (fun j => decide (sq.bx.length ≤ j)) = true)
    (hgd : o.guard = none) (ho : o.op = .call ⟨.value (.func f), xs.toArray, ats⟩) (hchk : (okSel js st.bx.length && okSel ks st.rw.length && usesB js st.bx && fzOk js st.fz fzc 0 && xs.all (fun x => argOk js (st.ev none x)) && uses some 4 res && bx'.all (fun x => uses some 4 x.2) && okDst nt none o.dst) = true)
    (hb : bxs (pickB js ks st.bx) bxc) (hr : ks.filterMap (st.rw[·]?) = rwc) (ha : allP (sub 4) (cargs st js ks xs) args)
    (kk : ∀ a w, RelT P w0 N nt gS (sq.lose o.dst) ((⟨st.t, mergeL st.bx js (renB js ks st.bx.length st.rw.length bx'), st.fz ++ fz'.map (nth js st.bx.length), mergeL st.rw ks rw'⟩ : St).put o.dst none (ren (fun k => some (nth js st.bx.length k)) (fun k => some (nth ks st.rw.length k)) 4 res)) a w → wpT P ops Q (Mem gS) L A rest (k + 1) a w) : wpT P ops Q (Mem gS) L A (o :: rest) k a w := by
  obtain ⟨hfok, hcall⟩ := hc
  obtain ⟨hM, hrw, hFq, hBq, g, HI, hF, hle, hbs⟩ := H
  simp only [Bool.and_eq_true] at hchk
  obtain ⟨⟨⟨⟨⟨⟨⟨c1, c2⟩, c3⟩, c4⟩, c5⟩, c6⟩, c7⟩, c8⟩ := hchk
  obtain ⟨hj, nj⟩ := okSel_ok c1
  obtain ⟨hk, nk⟩ := okSel_ok c2
  obtain ⟨h1, h2⟩ := cargs_ok HI hF hj hk c5 ha
  unfold wpT
  rw [if_pos (by simp [Region.wanted, hgd]), if_pos hL]
  unfold Oper.wp
  rw [run_callF hfok xs ats ho w, Oper.upon_enter]
  have HP : Inv P w (g.pick js ks) (g.pick js ks) bxc fzc rwc w := HI.pick js ks hj hk nj nk (usesB_ok c3) hb (fun i j hi hm => by simpa using fzOk_ok c4 i j hi hm) hr
    ⟨Kept.refl _ _, fun i x hx hxo => .inr ⟨x, hx, hxo, rfl⟩, fun i r k hr hrk => .inr ⟨r, hr, hrk⟩, fun _ _ _ _ => rfl, Gh.le.refl _⟩
  refine (hcall w (g.pick js ks) (xs.map a.eval) HP (by simp [h1]) h2).mono fun e w' hp => ?_
  obtain ⟨g1, v, rfl, HI1, hv⟩ := hp
  obtain ⟨k1, k2, k3, k4⟩ := HI.call HI1 hj hk nj nk (fun x hx => List.all_eq_true.1 c7 x hx)
  have hv' := hv.ren_ (g1 := g1) (g2 := ⟨g1.ro, mergeL g.bx js g1.bx, mergeL g.rw ks g1.rw⟩) (fb := fun k => some (nth js st.bx.length k)) (fr := fun k => some (nth ks st.rw.length k)) (d := 3) rfl (fun i j x hij hx => by injection hij with hij; subst hij; exact k3 i x hx) (fun i j x hij hx => by injection hij with hij; subst hij; exact k4 i x hx) (uses_some c6)
  have hbs' : Bs gS ⟨g1.ro, mergeL g.bx js g1.bx, mergeL g.rw ks g1.rw⟩ := fun i x hx => by
    obtain ⟨y, h3, h4⟩ := hbs i x hx
    refine ⟨y, merge_old (fun hm => ?_) h3, h4⟩
    have h5 := List.all_eq_true.1 hjs i hm
    simp only [decide_eq_true_eq] at h5
    have h6 := (List.getElem?_eq_some_iff.1 hx).1
    rw [hBq.len] at h6; omega
  have hM' := MemS (st := ⟨st.t, mergeL st.bx js (renB js ks st.bx.length st.rw.length bx'), st.fz ++ fz'.map (nth js st.bx.length), mergeL st.rw ks rw'⟩) hM hrw k2 (hle.trans k1) hbs'
  refine ⟨hM', kk _ _ ⟨hM', hrw, hFq.lose v, by rw [lose_bx]; exact hBq, _, ?_, (hF.mono k1).put c8 (fun _ => hv') rfl (fun h => absurd trivial h), hle.trans k1, hbs'⟩⟩
  rw [(put_bx _ _ _ _).1, (put_bx _ _ _ _).2.1, (put_bx _ _ _ _).2.2]
  exact k2
theorem v_moreT {ops : Array Oper} {Q : Exit → Act → World → Prop} {L A : List Nat} {q : Nat} {l l' : List Oper} {k k' : Nat} {c' : Prop} (hτ : τ.ok P) (hN : N.bx.length ≤ q) (H : RelT P w0 N nt gS sq st a w) (h : vrunT τ (some q) nt ops L A l k sq st True = (sq', st', c', l', k')) (hc : c')
    (kk : ∀ a w, RelT P w0 N nt gS sq' st' a w → wpT P ops Q (Mem gS) L A l' k' a w) : wpT P ops Q (Mem gS) L A l k a w :=
  vrunT_wpT hτ (hNq hN) l k sq st True c' l' k' h hc a w H kk
end
theorem pk : type_of% (And.intro @eq_self.{1} <| And.intro @Bool.not_true <| And.intro @Bool.not_false <| And.intro @cond_true.{1} <| And.intro @cond_false.{1} <| And.intro @List.cons_append.{0} <| And.intro @List.nil_append.{0} <| And.intro @List.append_nil.{0} <| And.intro @List.length_cons.{0} <| And.intro @List.length_nil.{0} <| And.intro @List.length_append.{0} <| And.intro @Nat.zero_add <| And.intro @Nat.add_zero <| And.intro @List.set_cons_zero.{0} <| And.intro @List.set_cons_succ.{0} <| And.intro @List.getElem?_cons_zero.{0} <| And.intro @List.getElem?_cons_succ.{0} <| And.intro @or_self <| And.intro @or_false <| And.intro @false_or <| And.intro @decide_true <| And.intro @decide_false <| And.intro @List.map_cons.{0, 0} <| And.intro @List.map_nil.{0, 0} <| And.intro @Int.toNat_natCast <| And.intro @Option.some.injEq.{0} <| And.intro @List.filter_cons.{0} <| And.intro @List.filter_nil.{0} <| And.intro @List.contains_cons.{0} <| And.intro @List.contains_nil.{0} <| And.intro @Bool.or_self <| And.intro @Bool.or_false <| And.intro @Bool.false_or <| And.intro @Bool.or_true <| And.intro @Bool.true_or <| And.intro @Bool.false_eq_true <| And.intro @List.take_succ_cons.{0} <| And.intro @List.take_zero.{0} <| And.intro @List.take_nil.{0} <| And.intro @rep1 <| And.intro @rep2 <| And.intro @rep3 <| And.intro @rep4 <| And.intro @rep5 <| And.intro @UInt8.ofNat_toNat <| And.intro @wrapu8 <| And.intro @wrapu16 <| And.intro @wrapu32 <| And.intro @wrapu64 <| And.intro @Nat.min_def <| And.intro @sub_refl <| And.intro @List.getD_nil.{0} <| And.intro @List.getD_cons_zero.{0} <| And.intro @List.getD_cons_succ.{0} <| And.intro @List.drop_succ_cons.{0} <| And.intro @List.drop_nil.{0} <| And.intro @Option.bind_some.{0, 0} <| And.intro @Option.bind_none.{0, 0} <| And.intro @Option.getD_some.{0} <| And.intro @Nat.sub_zero <| And.intro @Nat.sub_self <| And.intro @Nat.add_sub_cancel_left <| And.intro @Bool.and_self <| And.intro @Bool.and_true <| And.intro @Bool.true_and <| And.intro @List.all_cons.{0} <| And.intro @List.all_nil.{0} <| And.intro @Option.map_some.{0, 0} <| And.intro @Option.map_none.{0, 0} <| And.intro @Int.toNat_zero <| And.intro @List.drop_zero.{0} <| And.intro @List.take_length.{0} <| And.intro @and_self <| And.intro @and_true <| And.intro @true_and <| @implies_true.{0}) :=
  And.intro @eq_self.{1} <| And.intro @Bool.not_true <| And.intro @Bool.not_false <| And.intro @cond_true.{1} <| And.intro @cond_false.{1} <| And.intro @List.cons_append.{0} <| And.intro @List.nil_append.{0} <| And.intro @List.append_nil.{0} <| And.intro @List.length_cons.{0} <| And.intro @List.length_nil.{0} <| And.intro @List.length_append.{0} <| And.intro @Nat.zero_add <| And.intro @Nat.add_zero <| And.intro @List.set_cons_zero.{0} <| And.intro @List.set_cons_succ.{0} <| And.intro @List.getElem?_cons_zero.{0} <| And.intro @List.getElem?_cons_succ.{0} <| And.intro @or_self <| And.intro @or_false <| And.intro @false_or <| And.intro @decide_true <| And.intro @decide_false <| And.intro @List.map_cons.{0, 0} <| And.intro @List.map_nil.{0, 0} <| And.intro @Int.toNat_natCast <| And.intro @Option.some.injEq.{0} <| And.intro @List.filter_cons.{0} <| And.intro @List.filter_nil.{0} <| And.intro @List.contains_cons.{0} <| And.intro @List.contains_nil.{0} <| And.intro @Bool.or_self <| And.intro @Bool.or_false <| And.intro @Bool.false_or <| And.intro @Bool.or_true <| And.intro @Bool.true_or <| And.intro @Bool.false_eq_true <| And.intro @List.take_succ_cons.{0} <| And.intro @List.take_zero.{0} <| And.intro @List.take_nil.{0} <| And.intro @rep1 <| And.intro @rep2 <| And.intro @rep3 <| And.intro @rep4 <| And.intro @rep5 <| And.intro @UInt8.ofNat_toNat <| And.intro @wrapu8 <| And.intro @wrapu16 <| And.intro @wrapu32 <| And.intro @wrapu64 <| And.intro @Nat.min_def <| And.intro @sub_refl <| And.intro @List.getD_nil.{0} <| And.intro @List.getD_cons_zero.{0} <| And.intro @List.getD_cons_succ.{0} <| And.intro @List.drop_succ_cons.{0} <| And.intro @List.drop_nil.{0} <| And.intro @Option.bind_some.{0, 0} <| And.intro @Option.bind_none.{0, 0} <| And.intro @Option.getD_some.{0} <| And.intro @Nat.sub_zero <| And.intro @Nat.sub_self <| And.intro @Nat.add_sub_cancel_left <| And.intro @Bool.and_self <| And.intro @Bool.and_true <| And.intro @Bool.true_and <| And.intro @List.all_cons.{0} <| And.intro @List.all_nil.{0} <| And.intro @Option.map_some.{0, 0} <| And.intro @Option.map_none.{0, 0} <| And.intro @Int.toNat_zero <| And.intro @List.drop_zero.{0} <| And.intro @List.take_length.{0} <| And.intro @and_self <| And.intro @and_true <| And.intro @true_and <| @implies_true.{0}
theorem cd {c : Prop} (h : c := by ((repeat' (apply And.intro)) <;> first | exact True.intro | assumption | omega | (intro hg; simp at hg; omega) | (intro hg; simp at hg; (repeat' (apply And.intro)) <;> first | omega | (simp; omega)) | (simp; done) | (simp; omega) | (simp [ilo, ihi, IntKind.bits]; omega) | (simp [fit, AV.put]; done) | (simp [fit, AV.put]; omega))) : c := h
section
variable {P : Program} {τ : Tab} {w0 w : World} {N : Gh} {g gS : Gh} {st st' sq sq' : St} {nt : Nat} {a : Act}
def cargsG (st : St) (c : Gd) (js ks : List Nat) (xs : List Operand) : List AV := xs.map fun x => ren (idx? js) (idx? ks) 4 (st.ev c x)
theorem cargs_okG {c : Gd} (hg : gholds a c) (HI : Inv P w0 N g st.bx st.fz st.rw w) (hF : FR g nt st a) {js ks : List Nat} (hj : ∀ j ∈ js, j < st.bx.length) (hk : ∀ k ∈ ks, k < st.rw.length) {xs : List Operand} {args : List AV} (hx : xs.all (fun x => argOk js (st.ev c x)) = true) (ha : allP (sub 4) (cargsG st c js ks xs) args) :
    args.length = xs.length ∧ ∀ (i : Nat) x v, args[i]? = some x → (xs.map a.eval)[i]? = some v → RV (g.pick js ks) x v := by
  obtain ⟨h1, h2⟩ := allP_get ha
  refine ⟨by rw [← h1]; simp [cargsG], fun i x v hi hv => ?_⟩
  obtain ⟨y, hy, hs⟩ := h2 i x hi
  unfold cargsG at hy
  rw [List.getElem?_map] at hy hv
  obtain ⟨o, ho, rfl⟩ := Option.map_eq_some_iff.1 hy
  rw [ho] at hv
  simp only [Option.map_some, Option.some.injEq] at hv
  subst hv
  have hc := List.all_eq_true.1 hx o (List.mem_of_getElem? ho)
  simp only [argOk, Bool.and_eq_true, Bool.not_eq_true'] at hc
  have hr := ev_sound hF hg o
  have hlr : g.rw.length = st.rw.length := by rw [← HI.wr, List.length_map]
  have hp := hr.pick_ (js := js) (ks := ks) (d := 3) (fun j hm => by rw [HI.br.len]; exact hj j hm) (fun k hm => by rw [hlr]; exact hk k hm) hc.1.1
  have ht : ∀ az, st.ev c o ≠ .tup az := fun az e => by rw [e] at hc; simp at hc
  exact ((hp.rv1 (ren_any hc.1.2) (ren_tup ht)).sub_ hs).rv
theorem v_callG {ops : Array Oper} {Q : Exit → Act → World → Prop} {rest : List Oper} {o : Oper} {f : FuncId} {xs : List Operand} {ats : Array TypeId} {bxc bx' : List (Ty × AV)} {fzc fz' : List Nat} {rwc rw' : List (TypeId × Nat)} {args : List AV} {res : AV} {c : Gd} (js ks : List Nat)
    (hc : VX P f bxc fzc rwc args bx' fz' rw' res) (H : Rel P w0 N nt st a w)
    (hgd : gdOf ops o = some c) (ho : o.op = .call ⟨.value (.func f), xs.toArray, ats⟩) (hchk : (okSel js st.bx.length && okSel ks st.rw.length && usesB js st.bx && fzOk js st.fz fzc 0 && xs.all (fun x => argOk js (st.ev c x)) && uses some 4 res && bx'.all (fun x => uses some 4 x.2) && okDst nt c o.dst) = true)
    (hb : bxs (pickB js ks st.bx) bxc) (hr : ks.filterMap (st.rw[·]?) = rwc) (ha : allP (sub 4) (cargsG st c js ks xs) args)
    (hmb : mergeL st.bx js (renB js ks st.bx.length st.rw.length bx') = st.bx) (hmf : fz'.map (nth js st.bx.length) = []) (hmr : mergeL st.rw ks rw' = st.rw)
    (k : ∀ a w, Rel P w0 N nt (st.put o.dst c (ren (fun k => some (nth js st.bx.length k)) (fun k => some (nth ks st.rw.length k)) 4 res)) a w → wpList P ops Q rest a w) : wpList P ops Q (o :: rest) a w := by
  obtain ⟨hfok, hcall⟩ := hc
  obtain ⟨g, HI, hF⟩ := H
  simp only [Bool.and_eq_true] at hchk
  obtain ⟨⟨⟨⟨⟨⟨⟨c1, c2⟩, c3⟩, c4⟩, c5⟩, c6⟩, c7⟩, c8⟩ := hchk
  obtain ⟨hj, nj⟩ := okSel_ok c1
  obtain ⟨hk, nk⟩ := okSel_ok c2
  refine wpList_step fun K hK => ?_
  by_cases hw : Region.wanted o (yielded ops a.tmps) = true
  · rw [if_pos hw]
    obtain ⟨h1, h2⟩ := cargs_okG ((gdOf_wanted hgd).1 hw) HI hF hj hk c5 ha
    unfold Oper.wp
    rw [run_callF hfok xs ats ho w, Oper.upon_enter]
    have HP : Inv P w (g.pick js ks) (g.pick js ks) bxc fzc rwc w := HI.pick js ks hj hk nj nk (usesB_ok c3) hb (fun i j hi hm => by simpa using fzOk_ok c4 i j hi hm) hr
      ⟨Kept.refl _ _, fun i x hx hxo => .inr ⟨x, hx, hxo, rfl⟩, fun i r k hr hrk => .inr ⟨r, hr, hrk⟩, fun _ _ _ _ => rfl, Gh.le.refl _⟩
    refine (hcall w (g.pick js ks) (xs.map a.eval) HP (by simp [h1]) h2).mono fun e w' hp => ?_
    obtain ⟨g1, v, rfl, HI1, hv⟩ := hp
    obtain ⟨k1, k2, k3, k4⟩ := HI.call HI1 hj hk nj nk (fun x hx => List.all_eq_true.1 c7 x hx)
    have hv' := hv.ren_ (g1 := g1) (g2 := ⟨g1.ro, mergeL g.bx js g1.bx, mergeL g.rw ks g1.rw⟩) (fb := fun k => some (nth js st.bx.length k)) (fr := fun k => some (nth ks st.rw.length k)) (d := 3) rfl (fun i j x hij hx => by injection hij with hij; subst hij; exact k3 i x hx) (fun i j x hij hx => by injection hij with hij; subst hij; exact k4 i x hx) (uses_some c6)
    rw [hmb, hmf, hmr, List.append_nil] at k2
    refine hK _ _ (k _ _ ⟨_, ?_, (hF.mono k1).put c8 (fun _ => hv') rfl (fun h => absurd ((gdOf_wanted hgd).1 hw) h)⟩)
    cases o.dst <;> exact k2
  rw [if_neg hw]
  refine hK _ _ (k _ _ ⟨g, ?_, hF.put c8 (fun hg => absurd ((gdOf_wanted hgd).2 hg) hw) rfl (fun _ => rfl)⟩)
  cases o.dst <;> exact HI
theorem v_callTG {ops : Array Oper} {Q : Exit → Act → World → Prop} {L A : List Nat} {k : Nat} {rest : List Oper} {o : Oper} {f : FuncId} {xs : List Operand} {ats : Array TypeId} {bxc bx' : List (Ty × AV)} {fzc fz' : List Nat} {rwc rw' : List (TypeId × Nat)} {args : List AV} {res : AV} {c : Gd} (js ks : List Nat)
    (hc : VX P f bxc fzc rwc args bx' fz' rw' res) (H : RelT P w0 N nt gS sq st a w) (hL : L.contains k = true) (hjs : js.all (fun j => decide (sq.bx.length ≤ j)) = true)
    (hgd : gdOf ops o = some c) (ho : o.op = .call ⟨.value (.func f), xs.toArray, ats⟩) (hchk : (okSel js st.bx.length && okSel ks st.rw.length && usesB js st.bx && fzOk js st.fz fzc 0 && xs.all (fun x => argOk js (st.ev c x)) && uses some 4 res && bx'.all (fun x => uses some 4 x.2) && okDst nt c o.dst) = true)
    (hb : bxs (pickB js ks st.bx) bxc) (hr : ks.filterMap (st.rw[·]?) = rwc) (ha : allP (sub 4) (cargsG st c js ks xs) args)
    (hmb : mergeL st.bx js (renB js ks st.bx.length st.rw.length bx') = st.bx) (hmf : fz'.map (nth js st.bx.length) = []) (hmr : mergeL st.rw ks rw' = st.rw)
    (kk : ∀ a w, RelT P w0 N nt gS (sq.lose o.dst) (st.put o.dst c (ren (fun k => some (nth js st.bx.length k)) (fun k => some (nth ks st.rw.length k)) 4 res)) a w → wpT P ops Q (Mem gS) L A rest (k + 1) a w) : wpT P ops Q (Mem gS) L A (o :: rest) k a w := by
  obtain ⟨hfok, hcall⟩ := hc
  obtain ⟨hM, hrw, hFq, hBq, g, HI, hF, hle, hbs⟩ := H
  simp only [Bool.and_eq_true] at hchk
  obtain ⟨⟨⟨⟨⟨⟨⟨c1, c2⟩, c3⟩, c4⟩, c5⟩, c6⟩, c7⟩, c8⟩ := hchk
  obtain ⟨hj, nj⟩ := okSel_ok c1
  obtain ⟨hk, nk⟩ := okSel_ok c2
  unfold wpT
  by_cases hw : Region.wanted o (yielded ops a.tmps) = true
  · rw [if_pos hw, if_pos hL]
    obtain ⟨h1, h2⟩ := cargs_okG ((gdOf_wanted hgd).1 hw) HI hF hj hk c5 ha
    unfold Oper.wp
    rw [run_callF hfok xs ats ho w, Oper.upon_enter]
    have HP : Inv P w (g.pick js ks) (g.pick js ks) bxc fzc rwc w := HI.pick js ks hj hk nj nk (usesB_ok c3) hb (fun i j hi hm => by simpa using fzOk_ok c4 i j hi hm) hr
      ⟨Kept.refl _ _, fun i x hx hxo => .inr ⟨x, hx, hxo, rfl⟩, fun i r k hr hrk => .inr ⟨r, hr, hrk⟩, fun _ _ _ _ => rfl, Gh.le.refl _⟩
    refine (hcall w (g.pick js ks) (xs.map a.eval) HP (by simp [h1]) h2).mono fun e w' hp => ?_
    obtain ⟨g1, v, rfl, HI1, hv⟩ := hp
    obtain ⟨k1, k2, k3, k4⟩ := HI.call HI1 hj hk nj nk (fun x hx => List.all_eq_true.1 c7 x hx)
    have hv' := hv.ren_ (g1 := g1) (g2 := ⟨g1.ro, mergeL g.bx js g1.bx, mergeL g.rw ks g1.rw⟩) (fb := fun k => some (nth js st.bx.length k)) (fr := fun k => some (nth ks st.rw.length k)) (d := 3) rfl (fun i j x hij hx => by injection hij with hij; subst hij; exact k3 i x hx) (fun i j x hij hx => by injection hij with hij; subst hij; exact k4 i x hx) (uses_some c6)
    have hbs' : Bs gS ⟨g1.ro, mergeL g.bx js g1.bx, mergeL g.rw ks g1.rw⟩ := fun i x hx => by
      obtain ⟨y, h3, h4⟩ := hbs i x hx
      refine ⟨y, merge_old (fun hm => ?_) h3, h4⟩
      have h5 := List.all_eq_true.1 hjs i hm
      simp only [decide_eq_true_eq] at h5
      have h6 := (List.getElem?_eq_some_iff.1 hx).1
      rw [hBq.len] at h6; omega
    rw [hmb, hmf, hmr, List.append_nil] at k2
    have hM' := MemS (st := st) hM hrw k2 (hle.trans k1) hbs'
    refine ⟨hM', kk _ _ ⟨hM', hrw, hFq.lose v, by rw [lose_bx]; exact hBq, _, ?_, (hF.mono k1).put c8 (fun _ => hv') rfl (fun h => absurd ((gdOf_wanted hgd).1 hw) h), hle.trans k1, hbs'⟩⟩
    rw [(put_bx _ _ _ _).1, (put_bx _ _ _ _).2.1, (put_bx _ _ _ _).2.2]
    exact k2
  rw [if_neg hw]
  exact kk _ _ ⟨hM, hrw, hFq.lose undef, by rw [lose_bx]; exact hBq, g, by rw [(put_bx _ _ _ _).1, (put_bx _ _ _ _).2.1, (put_bx _ _ _ _).2.2]; exact HI, hF.put c8 (fun hg => absurd ((gdOf_wanted hgd).2 hg) hw) rfl (fun _ => rfl), hle, hbs⟩
end
section
variable {P : Program} {τ : Tab} {w0 w : World} {N : Gh} {g gS : Gh} {st st' sq sq' : St} {nt : Nat} {a : Act}
theorem v_guard {ops : Array Oper} {Q : Exit → Act → World → Prop} {rest : List Oper} {o : Oper} {t : Nat} {b : Bool} (H : Rel P w0 N nt st a w) (hgd : gdOf ops o = some (some (t, b))) (hk : st.tmp none t = .v (.bool b))
    (h : wpList P ops Q ({ o with guard := none } :: rest) a w) : wpList P ops Q (o :: rest) a w := by
  obtain ⟨g, HI, hF⟩ := H
  have h1 := tmp_sound hF (c := none) trivial t
  rw [hk] at h1
  have hw : Region.wanted o (yielded ops a.tmps) = true := (gdOf_wanted hgd).2 h1.v_inv
  obtain ⟨dst, op, ty, pos, after, gd⟩ := o
  unfold wpList at h ⊢
  rw [if_pos hw]
  rw [if_pos (by simp [Region.wanted])] at h
  exact h
theorem cd2 {c : Prop} (h : c := by ((repeat' (apply And.intro)) <;> (intros; first | omega | (simp at *; omega) | (simp_all; done) | (simp_all; omega)))) : c := h
theorem not_wanted {ops : Array Oper} {o : Oper} {t : Nat} {b : Bool} (hF : FR g nt st a) (hgd : gdOf ops o = some (some (t, b))) (hk : st.tmp none t = .v (.bool (!b))) : ¬ Region.wanted o (yielded ops a.tmps) = true := fun hw => by
  have h1 := tmp_sound hF (c := none) trivial t
  rw [hk] at h1
  have h2 : a.tmps.getD t undef = .bool b := (gdOf_wanted hgd).1 hw
  rw [h1.v_inv] at h2
  injection h2 with h2
  cases b <;> cases h2
theorem v_skip {ops : Array Oper} {Q : Exit → Act → World → Prop} {rest : List Oper} {o : Oper} {t : Nat} {b : Bool} (r : AV) (H : Rel P w0 N nt st a w) (hgd : gdOf ops o = some (some (t, b))) (hk : st.tmp none t = .v (.bool (!b))) (hd : okDst nt (some (t, b)) o.dst = true)
    (k : ∀ a w, Rel P w0 N nt (st.put o.dst (some (t, b)) r) a w → wpList P ops Q rest a w) : wpList P ops Q (o :: rest) a w := by
  obtain ⟨g, HI, hF⟩ := H
  have hw := not_wanted hF hgd hk
  refine wpList_step fun K hK => ?_
  rw [if_neg hw]
  refine hK _ _ (k _ _ ⟨g, ?_, hF.put hd (fun hg => absurd ((gdOf_wanted hgd).2 hg) hw) rfl (fun _ => rfl)⟩)
  cases o.dst <;> exact HI
theorem v_skipT {ops : Array Oper} {Q : Exit → Act → World → Prop} {L A : List Nat} {i : Nat} {rest : List Oper} {o : Oper} {t : Nat} {b : Bool} (r : AV) (H : RelT P w0 N nt gS sq st a w) (hgd : gdOf ops o = some (some (t, b))) (hk : st.tmp none t = .v (.bool (!b))) (hd : okDst nt (some (t, b)) o.dst = true)
    (kk : ∀ a w, RelT P w0 N nt gS (sq.lose o.dst) (st.put o.dst (some (t, b)) r) a w → wpT P ops Q (Mem gS) L A rest (i + 1) a w) : wpT P ops Q (Mem gS) L A (o :: rest) i a w := by
  obtain ⟨hM, hrw, hFq, hBq, g, HI, hF, hle, hbs⟩ := H
  have hw := not_wanted hF hgd hk
  unfold wpT
  rw [if_neg hw]
  exact kk _ _ ⟨hM, hrw, hFq.lose undef, by rw [lose_bx]; exact hBq, g, by rw [(put_bx _ _ _ _).1, (put_bx _ _ _ _).2.1, (put_bx _ _ _ _).2.2]; exact HI, hF.put hd (fun hg => absurd ((gdOf_wanted hgd).2 hg) hw) rfl (fun _ => rfl), hle, hbs⟩
theorem v_ref (H : Rel P w0 N nt st a w) (d i : Nat) {T : Ty} {x : AV} (hN : N.bx.length ≤ i) (hb : st.bx[i]? = some (T, x)) (hp : pure_ 4 x = true) (hd : find d st.t = some (none, .ptr i [])) (hTg : T.grows = false := by rfl) :
    Rel P w0 N nt ⟨nilT d (.ref T (strip 4 x)) st.t, st.bx, i :: st.fz, st.rw⟩ a w := by
  obtain ⟨g, HI, hF⟩ := H
  obtain ⟨y, hy, hT, hrc⟩ := HI.br.at_ i T x hb
  obtain ⟨hyo, hym, hrc⟩ := hrc.rc hTg
  obtain ⟨g1, l1, I1, ⟨y', hy', hblk, hcells, hty, _⟩, hro⟩ := HI.freeze hy hyo hym hN
  refine ⟨g1, I1, (hF.mono l1.1).sz, hF.df, fun p hp' hg => ?_, fun p hp hg => by rcases nilT_mem hp with h | h; (subst h; exact absurd trivial hg); exact hF.u p h hg⟩
  rcases nilT_mem hp' with h | h
  · subst h
    have h1 := (hF.t _ (find_mem hd) trivial).ptr_inv
    have hv : a.tmps.getD d undef = .pointer (some ⟨y.blk, 0, none⟩) := by
      generalize a.tmps.getD d undef = u at h1
      cases h1 with
      | ptr h ho =>
        rw [hy] at h
        injection h with h
        subst h
        rw [Ty.loc_nil (Ty.loc_grows ho)] at ho
        simp only [Option.some.injEq, Prod.mk.injEq] at ho
        rw [ho.1]
    have : RV g1 (.ref T (strip 4 x)) (a.tmps.getD d undef) := by
      rw [hv]
      exact (RC.ref (g := g1) y.cells ((hrc.mono l1.1).strip_ hp) (fun j u hu => by rw [Nat.zero_add]; exact hro j u hu)).rvp
    exact this
  exact (hF.mono l1.1).t p h hg
theorem v_bc (H : Rel P w0 N nt st a w) (d i : Nat) {m n : Nat} {l : List UInt8} (hN : N.bx.length ≤ i) (hb : st.bx[i]? = some (.ba m, .ba l)) (hm : 0 < m) (hd : find d st.t = some (none, .win i [] 0 n)) :
    Rel P w0 N nt ⟨nilT d (.bc l n (some i)) st.t, st.bx, i :: st.fz, st.rw⟩ a w := by
  obtain ⟨g, HI, hF⟩ := H
  obtain ⟨y, hy, hT, hrc⟩ := HI.br.at_ i _ _ hb
  obtain ⟨hyo, hym, hrc⟩ := hrc.rc rfl
  obtain ⟨g1, l1, I1, ⟨y', hy', hblk, hcells, hty, _⟩, hro⟩ := HI.freeze hy hyo hym hN
  have hc : y.cells = l.map B8 ∧ l.length = m := by
    generalize y.cells = cs at hrc
    cases hrc with
    | ba h => exact ⟨rfl, h⟩
  refine ⟨g1, I1, (hF.mono l1.1).sz, hF.df, fun p hp' hg => ?_, fun p hp hg => by rcases nilT_mem hp with h | h; (subst h; exact absurd trivial hg); exact hF.u p h hg⟩
  rcases nilT_mem hp' with h | h
  · subst h
    have h1 := (hF.t _ (find_mem hd) trivial).win_inv
    have : RV g1 (.bc l n (some i)) (a.tmps.getD d undef) := by
      generalize a.tmps.getD d undef = u at h1
      cases h1 with
      | win h ho hn hc2 hm2 hA =>
        rw [hy] at h
        injection h with h
        subst h
        rw [hT] at ho
        simp only [Ty.loc, Option.some.injEq, Prod.mk.injEq, Ty.ba.injEq] at ho
        obtain ⟨rfl, rfl⟩ := ho
        rw [Nat.zero_add] at hn
        subst hn
        rcases hA with hA | hA
        · omega
        rw [hA]
        have e := RC.bc (g := g1) (l := l) (n := n) (tok := some i) (A := some ⟨y.blk, 0, none⟩) (by rw [hc.2]; exact hc2) (by rw [hc.2]; exact hm2) (.inr ⟨y.blk, 0, rfl, fun j hj => by rw [Nat.zero_add]; exact hro j _ (by rw [hc.1]; simp [hj])⟩)
          (fun k hk => by injection hk with hk; subst hk; exact ⟨y', hy', by rw [hblk], by rw [hty, hT, hc.2]⟩)
        rw [hc.2] at e
        exact e.rvp
    exact this
  exact (hF.mono l1.1).t p h hg
theorem v_some {ops : Array Oper} {Q : Exit → Act → World → Prop} {q : Nat} {o : Oper} {l : List Oper} {c' : Prop} (n : Nat) (hτ : τ.ok P) (hN : N.bx.length ≤ q) (H : Rel P w0 N nt st a w) (h : vrun τ (some q) nt ops ((o :: l).take n) st True = (st', c', [])) (hc : c')
    (k : ∀ a w, Rel P w0 N nt st' a w → wpList P ops Q ((o :: l).drop n) a w) : wpList P ops Q (o :: l) a w := v_steps n hτ hN H h hc k
theorem v_someT {ops : Array Oper} {Q : Exit → Act → World → Prop} {L A : List Nat} {q k k' : Nat} {o : Oper} {l : List Oper} {c' : Prop} (n : Nat) (hτ : τ.ok P) (hN : N.bx.length ≤ q) (H : RelT P w0 N nt gS sq st a w) (h : vrunT τ (some q) nt ops L A ((o :: l).take n) k sq st True = (sq', st', c', [], k')) (hc : c')
    (kk : ∀ a w, RelT P w0 N nt gS sq' st' a w → wpT P ops Q (Mem gS) L A ((o :: l).drop n) k' a w) : wpT P ops Q (Mem gS) L A (o :: l) k a w := by
  have key : ∀ (l1 l2 : List Oper) (k : Nat) (sq st : St) (c : Prop), vrunT τ (some q) nt ops L A l1 k sq st c = (sq', st', c', [], k') → c' → ∀ a w, RelT P w0 N nt gS sq st a w → (∀ a w, RelT P w0 N nt gS sq' st' a w → wpT P ops Q (Mem gS) L A l2 k' a w) → wpT P ops Q (Mem gS) L A (l1 ++ l2) k a w := by
    intro l1 l2
    induction l1 with
    | nil => intro k sq st c h _ a w H kk; simp only [vrunT, Prod.mk.injEq] at h; obtain ⟨rfl, rfl, _, _, rfl⟩ := h; exact kk _ _ H
    | cons o l1 ih =>
      intro k sq st c h hc a w H kk
      unfold vrunT at h
      split at h
      · rename_i sq1 st1 cd1 hs
        have hc1 : cd1 := by have := vrunT_conds (τ := τ) (nt := nt) (md := some q) (ops := ops) (L := L) (A := A) l1 (k + 1) sq1 st1 (c ∧ cd1); rw [h] at this; exact (this hc).2
        exact vstepT_wpT hτ (hNq hN) hs hc1 H fun a w H' => ih (k + 1) sq1 st1 _ h hc a w H' kk
      simp at h
  have := key ((o :: l).take n) ((o :: l).drop n) k sq st True h hc a w H kk
  rwa [List.take_append_drop] at this
end
section
variable {P : Program} {τ : Tab} {w0 w : World} {N : Gh} {st : St} {nt : Nat} {a : Act}
theorem v_nilV (hτ : τ.ok P) (H : Rel P w0 N nt st a w) (d e : Nat) {j : TI} (hj : Tab.get e τ = some j) (hs : 0 < j.ty.size) (hd : find d st.t = some (none, .v (.slice none 0 0))) :
    Rel P w0 N nt ⟨nilT d (.vw st.bx.length 0 0) st.t, st.bx ++ [(.vc e j.ty, .vc 0 [])], st.fz, st.rw⟩ a w := by
  obtain ⟨g, HI, hF⟩ := H
  obtain ⟨g1, l1, I1, h1⟩ := HI.boxG (x := ⟨0, e, .vc e j.ty, [], false, 0, 0, true, none⟩) (a := .vc 0 []) (w' := w) rfl ⟨rfl, rfl, rfl, Nat.le_refl _, fun _ _ _ => rfl⟩ (fun e => by cases e) (fun _ => rfl) (fun e => by cases e)
    (.inr (.inl ⟨j.ty, 0, [], fun _ => [], [], ⟨_, rfl, rfl⟩, rfl, rfl, rfl, hs, ⟨Nat.zero_le _, fun _ => rfl⟩, rfl, (by show 0 = 0 * _; rw [Nat.zero_mul]), fun u hu => (by cases hu), fun k hk => absurd hk (by simp)⟩))
  refine ⟨g1, I1, (hF.mono l1.1).sz, hF.df, fun p hp' hg => ?_, fun p hp hg => by rcases nilT_mem hp with h | h; (subst h; exact absurd trivial hg); exact hF.u p h hg⟩
  rcases nilT_mem hp' with h | h
  · subst h
    have hv := (hF.t _ (find_mem hd) trivial).v_inv
    have e1 : a.tmps.getD d undef = .slice none 0 0 := hv
    show RV g1 (.vw st.bx.length 0 0) (a.tmps.getD d undef)
    rw [e1]
    exact (RC.vw h1 rfl (Nat.le_refl _) (Nat.le_refl _) (Nat.zero_le _) fun _ => ⟨rfl, .inl ⟨rfl, rfl⟩⟩).rv1
  exact (hF.mono l1.1).t p h hg
theorem v_nilVB (hτ : τ.ok P) (H : Rel P w0 N nt st a w) (i : Nat) (path : List Nat) (e : Nat) {j : TI} {T : Ty} {x : AV} (hj : Tab.get e τ = some j) (hs : 0 < j.ty.size) (hb : st.bx[i]? = some (T, x)) {o : Nat} (hT : T.loc path = some (o, .sc)) (hx : x.loc path = some (.v (.slice none 0 0))) :
    Rel P w0 N nt ⟨st.t, st.bx.set i (T, x.put path (.vw st.bx.length 0 0)) ++ [(.vc e j.ty, .vc 0 [])], st.fz, st.rw⟩ a w := by
  obtain ⟨g, HI, hF⟩ := H
  obtain ⟨g1, l1, I1, h1⟩ := HI.boxG (x := ⟨0, e, .vc e j.ty, [], false, 0, 0, true, none⟩) (a := .vc 0 []) (w' := w) rfl ⟨rfl, rfl, rfl, Nat.le_refl _, fun _ _ _ => rfl⟩ (fun e => by cases e) (fun _ => rfl) (fun e => by cases e)
    (.inr (.inl ⟨j.ty, 0, [], fun _ => [], [], ⟨_, rfl, rfl⟩, rfl, rfl, rfl, hs, ⟨Nat.zero_le _, fun _ => rfl⟩, rfl, (by show 0 = 0 * _; rw [Nat.zero_mul]), fun u hu => (by cases hu), fun k hk => absurd hk (by simp)⟩))
  have hil : i < st.bx.length := (List.getElem?_eq_some_iff.1 hb).1
  obtain ⟨y, hy, hyT, hbc⟩ := I1.br.at_ i T x (by rw [List.getElem?_append_left hil]; exact hb)
  obtain ⟨hyo, hym, hrc⟩ := hbc.rc (Ty.loc_grows hT)
  obtain ⟨a', ha', pre, mid, post, hcs, hpre, hmid, hput⟩ := hrc.lens hT
  rw [hx] at ha'; injection ha' with ha'; subst ha'
  obtain ⟨_, rfl⟩ := hmid.v_inv
  have hn := hput (.vw st.bx.length 0 0) [.slice none 0 0] (RC.vw h1 rfl (Nat.le_refl _) (Nat.le_refl _) (Nat.zero_le _) fun _ => ⟨rfl, .inl ⟨rfl, rfl⟩⟩)
  rw [← hcs] at hn
  have I2 := I1.re hy (.pl (hyT ▸ hn) hyo hym)
  rw [hyT, List.set_append_left _ _ hil] at I2
  have h9 := hF.mono l1.1
  exact ⟨g1, I2, h9.sz, h9.df, h9.t, h9.u⟩
theorem v_frz (H : Rel P w0 N nt st a w) (d i : Nat) {e γ n : Nat} {T : Ty} {es : List AV} (hN : N.bx.length ≤ i) (hb : st.bx[i]? = some (.vc e T, .vc γ es)) (hn : n ≤ es.length) (hd : find d st.t = some (none, .vw i γ n)) :
    Rel P w0 N nt ⟨nilT d (.sl T (es.take n) none) st.t, st.bx, i :: st.fz, st.rw⟩ a w := by
  obtain ⟨g, HI, hF⟩ := H
  obtain ⟨y, hy, hyT, hbc⟩ := HI.br.at_ i _ _ hb
  obtain ⟨T2, F, sp, ⟨e2, he2, htid⟩, hmp, hgen, h0, hcm, hcs, hcl, hsp, hFk⟩ := hbc.vc_inv
  injection he2 with he20 he2; subst he20 he2
  have hv := (hF.t _ (find_mem hd) trivial).vw_inv.vw_inv
  obtain ⟨_, y', e3, T3, A, c, hval, hy', hty', hle, hnc, hm, hxx⟩ := hv
  rw [hy] at hy'; injection hy' with hy'; subst hy'
  injection hval with hval
  obtain ⟨hcc, hA⟩ := hxx hgen
  have hval : a.tmps.getD d undef = .slice A n c := hval
  have htl : (es.take n).length = n := by rw [List.length_take]; omega
  rcases hA with ⟨ho, hA⟩ | ⟨ho, hA⟩
  · have hc0 : c = 0 := by rw [hcc]; exact hcm.2 ho
    refine ⟨g, ⟨HI.mem, HI.fr, HI.br, fun j x hj hf => List.mem_cons_of_mem _ (HI.fz j x hj hf), HI.wr, HI.wz⟩, hF.sz, hF.df, fun p hp' hg => ?_, fun p hp hg => by rcases nilT_mem hp with h | h; (subst h; exact absurd trivial hg); exact hF.u p h hg⟩
    rcases nilT_mem hp' with h | h
    · subst h
      show RV g (.sl T (es.take n) none) (a.tmps.getD d undef)
      have hn0 : n = 0 := by omega
      rw [hval, hA, hn0, hc0]
      exact (RC.nil2 (by simp)).rv1
    exact hF.t p h hg
  obtain ⟨g1, l1, I1, _, hro⟩ := HI.freeze hy ho hmp hN
  refine ⟨g1, I1, (hF.mono l1.1).sz, hF.df, fun p hp' hg => ?_, fun p hp hg => by rcases nilT_mem hp with h | h; (subst h; exact absurd trivial hg); exact hF.u p h hg⟩
  rcases nilT_mem hp' with h | h
  · subst h
    show RV g1 (.sl T (es.take n) none) (a.tmps.getD d undef)
    rw [hval, hA]
    have := RC.sl (g := g1) (T := T) (es := es.take n) (tok := none) (A := some ⟨y.blk, 0, none⟩) (c := c) (by omega) hm F (.inr ⟨y.blk, 0, rfl, fun k hk j u hu => by
      rw [Nat.zero_add]
      refine hro _ _ ?_
      rw [hcs]
      exact flat_at hFk (by omega) hu⟩) (fun k hk => by
      rw [List.getElem_take]
      exact (hFk k (by omega)).mono l1.1.base) (fun i hi => by cases hi)
    rw [htl] at this
    exact this.rv1
  exact (hF.mono l1.1).t p h hg
end
section
variable {P : Program} {τ : Tab} {w0 w : World} {N : Gh} {g gS : Gh} {st st' sq sq' : St} {nt : Nat} {a : Act} {r : AV} {cd : Prop}
end
theorem cb {c : Prop} (h : c := by (simp [pickB, bxs, ren, idx?, sub_refl, sub, allP] <;> omega)) : c := h
theorem bulk_part {H : Type} {d : DataW H} : ∀ {l : List (DataW H)}, d ∈ l → Rows.uptoBulk d ≤ Rows.uptoBulkAll l
  | x :: l, h => by
    rcases List.mem_cons.1 h with e | e
    · subst e; simp only [Rows.uptoBulkAll]; omega
    have := bulk_part e; simp only [Rows.uptoBulkAll]; omega
theorem bulk_one {H : Type} (d : DataW H) : 1 ≤ Rows.uptoBulk d := by
  cases d with
  | lit l => cases l <;> simp [Rows.uptoBulk]
  | _ => simp [Rows.uptoBulk]
theorem bulk_len {H : Type} : ∀ l : List (DataW H), l.length ≤ Rows.uptoBulkAll l
  | [] => by simp
  | x :: l => by have := bulk_one x; have := bulk_len l; simp only [Rows.uptoBulkAll, List.length_cons]; omega
def isU8 (τ : Tab) (e : Nat) : Bool := match Tab.get e τ with
  | some j => (match j.d with | .int .u8 => true | _ => false)
  | none => false
def tyOf (τ : Tab) (e : Nat) : Ty := match Tab.get e τ with
  | some j => j.ty
  | none => .sc
def ShL (f : Nat → AV → Prop) : List Nat → List AV → Prop
  | [], [] => True
  | t :: ts, a :: az => f t a ∧ ShL f ts az
  | _, _ => False
def Sh (τ : Tab) (M : Nat) : Nat → Nat → AV → Prop
  | 0, _, _ => False
  | d + 1, t, a => match (Tab.get t τ).map TI.d with
    | some (.int k) => ∃ n, a = .v (.int k n) ∧ ilo k ≤ n ∧ n ≤ ihi k
    | some .bool => ∃ b, a = .v (.bool b)
    | some .str => ∃ s : ByteArray, a = .v (.string s) ∧ s.size ≤ M
    | some (.slc e) => if isU8 τ e then ∃ l, a = .bs l none ∧ l.length ≤ M else ∃ es, a = .sl (tyOf τ e) es none ∧ es.length ≤ M ∧ ∀ x ∈ es, Sh τ M d e x
    | some (.arr n _) => ∃ l, a = .ba l ∧ l.length = n
    | some (.rcd fs) => ∃ az, a = .st az ∧ ShL (Sh τ M d) (fs.map (·.2)) az
    | _ => False
def lay (τ : Tab) : List (Nat × Nat) → Nat → Ty → Bool
  | [], _, .nl => true
  | (o, t) :: fs, off, .cn T Ts => o == off && (Tab.get t τ).isSome && tyOf τ t == T && lay τ fs (off + T.size) Ts
  | _, _, _ => false
def okT (τ : Tab) : Nat → Nat → Bool
  | 0, _ => false
  | d + 1, t => match Tab.get t τ with
    | some i => (match i.d with
      | .int _ => i.ty == .sc
      | .bool => i.ty == .sc
      | .str => i.ty == .sc
      | .slc e => i.ty == .sc && (Tab.get e τ).isSome && decide (0 < (tyOf τ e).size) && (isU8 τ e && tyOf τ e == .sc || !isU8 τ e && okT τ d e)
      | .arr n e => isU8 τ e && i.ty == .ba n && tyOf τ e == .sc
      | .rcd fs => lay τ fs 0 i.ty && i.ty.agg && fs.all fun f => okT τ d f.2
      | _ => false)
    | none => false
section
variable {τ : Tab} {M d t : Nat} {a : AV} {i : TI}
theorem Sh.int {k : IntKind} (ht : Tab.get t τ = some i) (hd : i.d = .int k) (h : Sh τ M (d + 1) t a) : ∃ n, a = .v (.int k n) ∧ ilo k ≤ n ∧ n ≤ ihi k := by
  unfold Sh at h; simp only [ht, Option.map_some, hd] at h; exact h
theorem Sh.bool (ht : Tab.get t τ = some i) (hd : i.d = .bool) (h : Sh τ M (d + 1) t a) : ∃ b, a = .v (.bool b) := by
  unfold Sh at h; simp only [ht, Option.map_some, hd] at h; exact h
theorem Sh.bytes {e : Nat} (ht : Tab.get t τ = some i) (hd : i.d = .slc e) (hu : isU8 τ e = true) (h : Sh τ M (d + 1) t a) : ∃ l, a = .bs l none ∧ l.length ≤ M := by
  unfold Sh at h; simp only [ht, Option.map_some, hd, hu, if_true] at h; exact h
theorem Sh.slc {e : Nat} (ht : Tab.get t τ = some i) (hd : i.d = .slc e) (hu : isU8 τ e = false) (h : Sh τ M (d + 1) t a) : ∃ es, a = .sl (tyOf τ e) es none ∧ es.length ≤ M ∧ ∀ x ∈ es, Sh τ M d e x := by
  unfold Sh at h; simp only [ht, Option.map_some, hd, hu, Bool.false_eq_true, if_false] at h; exact h
theorem Sh.arr {n e : Nat} (ht : Tab.get t τ = some i) (hd : i.d = .arr n e) (h : Sh τ M (d + 1) t a) : ∃ l, a = .ba l ∧ l.length = n := by
  unfold Sh at h; simp only [ht, Option.map_some, hd] at h; exact h
theorem Sh.rcd {fs : List (Nat × Nat)} (ht : Tab.get t τ = some i) (hd : i.d = .rcd fs) (h : Sh τ M (d + 1) t a) : ∃ az, a = .st az ∧ ShL (Sh τ M d) (fs.map (·.2)) az := by
  unfold Sh at h; simp only [ht, Option.map_some, hd] at h; exact h
theorem shl_nil {f : Nat → AV → Prop} {az : List AV} (h : ShL f [] az) : az = [] := by
  cases az with
  | nil => rfl
  | cons _ _ => exact h.elim
theorem shl_cons {f : Nat → AV → Prop} {t : Nat} {ts : List Nat} {az : List AV} (h : ShL f (t :: ts) az) : ∃ a r, az = a :: r ∧ f t a ∧ ShL f ts r := by
  cases az with
  | nil => exact h.elim
  | cons a r => exact ⟨a, r, rfl, h.1, h.2⟩
theorem sh_list {α : Type} {p : AV → Prop} {q : α → Prop} {f : α → AV} (hp : ∀ x, p x → ∃ y, x = f y ∧ q y) : ∀ {es : List AV}, (∀ x ∈ es, p x) → ∃ ys : List α, es = ys.map f ∧ ∀ y ∈ ys, q y
  | [], _ => ⟨[], rfl, fun y h => by cases h⟩
  | x :: es, h => by
    obtain ⟨y, rfl, hy⟩ := hp x (h x List.mem_cons_self)
    obtain ⟨ys, rfl, hys⟩ := sh_list hp (es := es) fun x hx => h x (List.mem_cons_of_mem _ hx)
    exact ⟨y :: ys, rfl, fun z hz => by rcases List.mem_cons.1 hz with e | e; (subst e; exact hy); exact hys z e⟩
end
def allOf (w : World) : Gh := ⟨fun b o => w.cell? ⟨b, o, none⟩, [], []⟩
section
variable {H : Type} {enc : TypeId × Value → H} {P : Program} {τ : Tab} {w : World} {sp : Nat → Bool} {held : Bool} {M : Nat}
theorem wf_lohi {k : IntKind} {n : Int} (h : (Lit.int k n).wf = true) : ilo k ≤ n ∧ n ≤ ihi k := by
  cases k <;> simp [Lit.wf, IntKind.min, IntKind.max, IntKind.signed, IntKind.bits] at h <;> simp only [ilo, ihi] <;> omega
theorem isU8_ok (hτ : τ.ok P) {e : Nat} (h : isU8 τ e = true) : P.underlying e = some (.int .u8) := by
  unfold isU8 at h
  split at h
  · rename_i j hj
    have hok := (Tab.get_ok hτ hj).d
    split at h
    · rename_i hd; rw [hd] at hok; exact hok
    cases h
  cases h
theorem cells_ty (hτ : τ.ok P) {e : Nat} (h : (Tab.get e τ).isSome = true) : P.cellsOf e = (tyOf τ e).size := by
  unfold tyOf
  cases hj : Tab.get e τ with
  | none => rw [hj] at h; cases h
  | some j =>
    obtain ⟨inf, z, h1, h2, _⟩ := (Tab.get_ok hτ hj).info
    simp [Program.cellsOf, h1, h2]
theorem isU8_some {e : Nat} (h : isU8 τ e = true) : (Tab.get e τ).isSome = true := by
  unfold isU8 at h
  split at h
  · rename_i j hj; rw [hj]; rfl
  cases h
theorem B8_of {n : Int} (h : 0 ≤ n ∧ n ≤ 255) : B8 (UInt8.ofNat n.toNat) = .int .u8 n := by
  simp only [B8, UInt8.toNat_ofNat']
  congr 1; omega
theorem trod_rc (hτ : τ.ok P) : ∀ (d : Nat) {t fuel : Nat} {cs : List Value} {x : DataW H × List MemPlace}, okT τ d t = true → DataW.trod enc P w 0 sp held fuel t cs = some x → Rows.uptoBulk x.1 ≤ M →
    ∃ a, Sh τ M d t a ∧ RC (allOf w) (tyOf τ t) a cs := by
  intro d
  induction d with
  | zero => intro t fuel cs x h; cases h
  | succ d ih =>
    intro t fuel cs x hok hx hM
    unfold okT at hok
    cases hg : Tab.get t τ with
    | none => rw [hg] at hok; cases hok
    | some i =>
    rw [hg] at hok
    have hi := Tab.get_ok hτ hg
    have hty : tyOf τ t = i.ty := by unfold tyOf; rw [hg]
    have hdd := hi.d
    have hsz : P.cellsOf t = i.ty.size := by rw [← hty]; exact cells_ty hτ (by rw [hg]; rfl)
    rw [hty]
    dsimp only at hok
    have sh : ∀ a, (match some i.d with
      | some (.int k) => ∃ n, a = AV.v (.int k n) ∧ ilo k ≤ n ∧ n ≤ ihi k
      | some .bool => ∃ b, a = .v (.bool b)
      | some .str => ∃ s : ByteArray, a = .v (.string s) ∧ s.size ≤ M
      | some (.slc e) => if isU8 τ e then ∃ l, a = .bs l none ∧ l.length ≤ M else ∃ es, a = .sl (tyOf τ e) es none ∧ es.length ≤ M ∧ ∀ x ∈ es, Sh τ M d e x
      | some (.arr n _) => ∃ l, a = .ba l ∧ l.length = n
      | some (.rcd fs) => ∃ az, a = .st az ∧ ShL (Sh τ M d) (fs.map (·.2)) az
      | _ => False) → Sh τ M (d + 1) t a := fun a h => by unfold Sh; rw [hg]; exact h
    generalize hdi : i.d = D' at hok hdd sh
    cases D' with
    | int k =>
      obtain ⟨n, rfl, rfl, hw⟩ := DataW.trod_int hdd hx
      rw [eq_of_beq hok]
      exact ⟨.v (.int k n), sh _ ⟨n, rfl, wf_lohi hw⟩, .v rfl⟩
    | bool =>
      obtain ⟨b, rfl, rfl⟩ := DataW.trod_bool hdd hx
      rw [eq_of_beq hok]
      exact ⟨.v (.bool b), sh _ ⟨b, rfl⟩, .v rfl⟩
    | str =>
      obtain ⟨s, rfl, rfl, hs⟩ := DataW.trod_string hdd hx
      rw [eq_of_beq hok]
      refine ⟨.v (.string s), sh _ ⟨s, rfl, ?_⟩, .v rfl⟩
      simp only [Rows.uptoBulk] at hM
      have : s.data.toList.length = s.size := by rw [Array.length_toList]; rfl
      omega
    | slc e =>
      simp only [Bool.and_eq_true, Bool.or_eq_true, Bool.not_eq_true', decide_eq_true_eq] at hok
      obtain ⟨⟨⟨h1, h2⟩, h3⟩, h4⟩ := hok
      have hce := cells_ty hτ h2
      rw [eq_of_beq h1]
      by_cases hu : isU8 τ e = true
      · have hu1 : tyOf τ e = .sc := by rcases h4 with h4 | h4; exact eq_of_beq h4.2; rw [h4.1] at hu; cases hu
        have hs0 : P.cellsOf e = 1 := by rw [hce, hu1]; rfl
        rcases ChangeShapes.open_ints hdd (isU8_ok hτ hu) hs0 hx with ⟨rfl, rfl⟩ | ⟨A, len, cap, zs, rfl, _, hl, hm, hz, rfl, hc, hw⟩
        · refine ⟨.bs [] none, sh _ ?_, RC.nil1 rfl⟩
          show ite _ _ _
          rw [if_pos hu]; exact ⟨[], rfl, Nat.zero_le _⟩
        · have hlz : len ≤ zs.length := by rw [hz]; split <;> omega
          have hll : ((zs.take len).map fun n => UInt8.ofNat n.toNat).length = len := by simp [hlz]
          refine ⟨.bs ((zs.take len).map fun n => UInt8.ofNat n.toNat) none, sh _ ?_, ?_⟩
          · show ite _ _ _
            rw [if_pos hu]
            refine ⟨_, rfl, ?_⟩
            rw [hll]
            simp only [Rows.uptoBulk] at hM
            have h5 := bulk_len (ChangeShapes.lits (H := H) .u8 (zs.take len))
            have h6 : (ChangeShapes.lits (H := H) .u8 (zs.take len)).length = len := by simp [ChangeShapes.lits, hlz]
            omega
          have := RC.bs (g := allOf w) (l := (zs.take len).map fun n => UInt8.ofNat n.toNat) (tok := none) (A := some A) (c := cap) (by rw [hll]; exact hl) hm ?_ (fun i hi => by cases hi)
          · rw [hll] at this; exact this
          rcases Nat.eq_zero_or_pos len with h0 | h0
          · left; rw [h0]; rfl
          right
          obtain ⟨b, o, rfl, hcc⟩ := ints_at hc (by omega)
          refine ⟨b, o, rfl, fun j hj => ?_⟩
          rw [hll] at hj
          have h7 := hcc j (by omega)
          show w.cell? _ = _
          rw [h7]
          have h8 : zs.getD j 0 = zs[j]'(by omega) := by simp [List.getD, show j < zs.length by omega]
          have h9 := wf_lohi (hw _ (List.getElem_mem (show j < zs.length by omega)))
          simp only [ilo, ihi] at h9
          rw [h8]
          simp only [List.getElem_map, List.getElem_take]
          rw [B8_of h9]
      have h4' : okT τ d e = true := by rcases h4 with h4 | h4; exact absurd h4.1 hu; exact h4.2
      rcases DataW.trod_slice hdd hx with ⟨rfl, rfl⟩ | ⟨A, len, cap, elems, rest, n, _, rfl, rfl, _, hl, hm, hlen, hel, _, _⟩
      · refine ⟨.sl (tyOf τ e) [] none, sh _ ?_, RC.nil2 rfl⟩
        show ite _ _ _
        rw [if_neg hu]; exact ⟨[], rfl, Nat.zero_le _, fun x hx => by cases hx⟩
      simp only [Rows.uptoBulk] at hM
      have hb1 := bulk_len (elems.map (·.1))
      rw [List.length_map, hlen] at hb1
      have each : ∀ k, ∃ p : List Value × AV, k < len → w.cells? 0 (A.add (k * P.cellsOf e)) (P.cellsOf e) = some p.1 ∧ Sh τ M d e p.2 ∧ RC (allOf w) (tyOf τ e) p.2 p.1 := fun k => by
        by_cases hk : k < len
        · have h5 := hel k hk
          rw [List.getElem?_eq_getElem (by omega)] at h5
          obtain ⟨cs', h6, h7⟩ := Option.bind_eq_some_iff.1 h5
          have h8 : Rows.uptoBulk (elems[k]'(by omega)).1 ≤ M := by
            have := bulk_part (List.mem_map_of_mem (f := (·.1)) (List.getElem_mem (show k < elems.length by omega)))
            omega
          obtain ⟨a, ha1, ha2⟩ := ih h4' h7 h8
          exact ⟨(cs', a), fun _ => ⟨h6, ha1, ha2⟩⟩
        exact ⟨([], .any), fun h => absurd h hk⟩
      obtain ⟨f, hf⟩ := Classical.axiomOfChoice each
      have hll : ((List.range len).map fun k => (f k).2).length = len := by simp
      refine ⟨.sl (tyOf τ e) ((List.range len).map fun k => (f k).2) none, sh _ ?_, ?_⟩
      · show ite _ _ _
        rw [if_neg hu]
        refine ⟨_, rfl, by rw [hll]; omega, fun x hx => ?_⟩
        obtain ⟨k, hk, rfl⟩ := List.mem_map.1 hx
        exact (hf k (List.mem_range.1 hk)).2.1
      have := RC.sl (g := allOf w) (T := tyOf τ e) (es := (List.range len).map fun k => (f k).2) (tok := none) (A := some A) (c := cap) (by rw [hll]; exact hl) hm (fun k => (f k).1) ?_ (fun k hk => ?_) (fun i hi => by cases hi)
      · rw [hll] at this; exact this
      · rcases Nat.eq_zero_or_pos len with h0 | h0
        · left; rw [h0]; rfl
        right
        obtain ⟨b, o, spot⟩ := A
        have hs0 : spot = none := by
          obtain ⟨_, h6, h7⟩ := World.cells?_some (hf 0 h0).1
          have h8 := h7 0 (by omega)
          have : 0 < (f 0).1.length := by omega
          rw [List.getElem?_eq_getElem this] at h8
          have := World.cell?_spot h8
          simpa [Addr.add] using this
        subst hs0
        refine ⟨b, o, rfl, fun k hk j u hu => ?_⟩
        rw [hll] at hk
        obtain ⟨_, h6, h7⟩ := World.cells?_some (hf k hk).1
        have hj := (List.getElem?_eq_some_iff.1 hu).1
        have h8 := h7 j (by omega)
        rw [hu, addr_add, addr_add, hce] at h8
        exact h8
      have hk' : k < len := by rw [hll] at hk; exact hk
      simp only [List.getElem_map, List.getElem_range]
      exact (hf k hk').2.2
    | arr n e =>
      simp only [Bool.and_eq_true] at hok
      obtain ⟨⟨h1, h2⟩, h3⟩ := hok
      have hce : P.cellsOf e = 1 := by rw [cells_ty hτ (isU8_some h1), eq_of_beq h3]; rfl
      obtain ⟨xs, m, _, rfl, hcl, hxl, hx1⟩ := DataW.trod_array hdd.1 hx
      rw [eq_of_beq h2]
      have hn : cs.length = n := by rw [hcl, hsz, eq_of_beq h2]; rfl
      have key : ∀ k (hk : k < cs.length), ∃ q : Int, cs[k] = .int .u8 q ∧ 0 ≤ q ∧ q ≤ 255 := fun k hk => by
        have h5 := hx1 k (by omega)
        rw [List.getElem?_eq_getElem (by omega)] at h5
        obtain ⟨q, h6, _, h7⟩ := DataW.trod_int (isU8_ok hτ h1) h5
        rw [hce, Nat.mul_one] at h6
        have h8 : ((cs.drop k).take 1)[0]? = some (.int .u8 q) := by rw [h6]; rfl
        rw [List.getElem?_take, if_pos (by decide), List.getElem?_drop, Nat.add_zero, List.getElem?_eq_getElem hk] at h8
        injection h8 with h8
        have := wf_lohi h7
        exact ⟨q, h8, this⟩
      have hcs : cs = (cs.map fun v => match v with | .int _ q => UInt8.ofNat q.toNat | _ => 0).map B8 := by
        apply List.ext_getElem
        · simp
        intro k hk _
        obtain ⟨q, h5, h6⟩ := key k hk
        simp only [List.getElem_map, h5]
        exact (B8_of h6).symm
      obtain ⟨l, hl⟩ : ∃ l : List UInt8, cs = l.map B8 := ⟨_, hcs⟩
      subst hl
      exact ⟨.ba l, sh _ ⟨l, rfl, by simpa using hn⟩, .ba (by simpa using hn)⟩
    | rcd fs =>
      simp only [Bool.and_eq_true, List.all_eq_true] at hok
      obtain ⟨⟨h1, h2⟩, h3⟩ := hok
      obtain ⟨F, hu, hF, _⟩ := hdd
      obtain ⟨xs, m, _, rfl, hcl, hxl, hx1⟩ := DataW.trod_struct hu hx
      simp only [Rows.uptoBulk] at hM
      rw [hsz] at hcl
      have key : ∀ (L : List (Nat × Nat)) (off : Nat) (T : Ty) (k : Nat), fs.drop k = L → lay τ L off T = true → cs.length = off + T.size → ∃ az, ShL (Sh τ M d) (L.map (·.2)) az ∧ RC (allOf w) T (.st az) (cs.drop off) := by
        intro L
        induction L with
        | nil =>
          intro off T k _ hlay hc
          cases T with
          | nl => rw [show cs.drop off = [] from List.drop_eq_nil_of_le (by rw [hc]; exact Nat.le_refl _)]; exact ⟨[], trivial, .nl⟩
          | _ => cases hlay
        | cons p L ihL =>
          intro off T k hk hlay hc
          cases T with
          | cn T Ts =>
            obtain ⟨o, ft⟩ := p
            simp only [lay, Bool.and_eq_true] at hlay
            obtain ⟨⟨⟨h4, h5⟩, h6⟩, h7⟩ := hlay
            obtain rfl := eq_of_beq h4
            obtain rfl := eq_of_beq h6
            have hfk : fs[k]? = some (o, ft) := by
              have : (fs.drop k)[0]? = some (o, ft) := by rw [hk]; rfl
              rw [List.getElem?_drop, Nat.add_zero] at this; exact this
            have hFk : ∃ fl, F[k]? = some fl ∧ fl.offset = o ∧ fl.type = ft := by
              rw [← hF, List.getElem?_map] at hfk
              obtain ⟨fl, h8, h9⟩ := Option.map_eq_some_iff.1 hfk
              simp only [Prod.mk.injEq] at h9
              exact ⟨fl, by simpa using h8, h9.1, h9.2⟩
            obtain ⟨fl, hfl, rfl, rfl⟩ := hFk
            have h8 := hx1 k fl hfl
            have hkx : k < xs.length := by rw [hxl]; have := (Array.getElem?_eq_some_iff.1 hfl).1; exact this
            rw [List.getElem?_eq_getElem hkx] at h8
            have h9 : Rows.uptoBulk xs[k].1 ≤ M := by
              have := bulk_part (List.mem_map_of_mem (f := (·.1)) (List.getElem_mem hkx))
              omega
            obtain ⟨a, ha1, ha2⟩ := ih (h3 _ (List.mem_of_getElem? hfk)) h8 h9
            obtain ⟨az, hz1, hz2⟩ := ihL (fl.offset + (tyOf τ fl.type).size) Ts (k + 1) (by rw [← List.drop_drop, hk]; rfl) h7 (by rw [hc]; simp only [Ty.size]; omega)
            refine ⟨a :: az, ⟨ha1, hz1⟩, ?_⟩
            have := RC.cn ha2 hz2
            rw [cells_ty hτ h5, ← List.drop_drop, List.take_append_drop] at this
            exact this
          | _ => cases hlay
      obtain ⟨az, hz1, hz2⟩ := key fs 0 i.ty 0 rfl h1 (by rw [hcl]; omega)
      exact ⟨.st az, sh _ ⟨az, rfl, hz1⟩, hz2⟩
    | _ => cases hok
theorem arg_rv (hτ : τ.ok P) {d t b0 : Nat} {r : Reach} {v : Value} {x : DataW H} {ps : List MemPlace} (hok : okT τ d t = true) (hval : Value.okWide P w r b0 t v) (hx : DataW.Trod enc P w 0 sp held t v x ps) (hM : Rows.uptoBulk x ≤ M) :
    ∃ a, Sh τ M d t a ∧ RV (allOf w) a v := by
  obtain ⟨fuel, hf⟩ := hx
  obtain ⟨a, h1, h2⟩ := trod_rc hτ d hok hf hM
  refine ⟨a, h1, ?_⟩
  cases d with
  | zero => cases hok
  | succ d =>
  unfold okT at hok
  cases hg : Tab.get t τ with
  | none => rw [hg] at hok; cases hok
  | some i =>
  rw [hg] at hok
  have hdd := (Tab.get_ok hτ hg).d
  have hty : tyOf τ t = i.ty := by unfold tyOf; rw [hg]
  rw [hty] at h2
  dsimp only at hok
  have hag : i.ty.agg = true → (∃ cs, v = .agg cs) → RV (allOf w) a v := fun h3 ⟨cs, hv⟩ => by
    subst hv
    refine (show RV1 (allOf w) a (.agg cs) from .inl ⟨i.ty, cs.toList, h3, h2, rfl⟩).rv
  have hsc : i.ty = .sc → v.cells.toList = [v] → RV (allOf w) a v := fun h3 hv => by
    rw [h3, hv] at h2; exact h2.rvp
  generalize i.d = D' at hok hdd
  cases D' with
  | int k => obtain ⟨n, rfl⟩ := WideShapes.okWide_int hdd hval; exact hsc (eq_of_beq hok) rfl
  | bool => obtain ⟨n, rfl⟩ := WideShapes.okWide_bool hdd hval; exact hsc (eq_of_beq hok) rfl
  | str => obtain ⟨n, rfl⟩ := WideShapes.okWide_string hdd hval; exact hsc (eq_of_beq hok) rfl
  | slc e =>
    obtain ⟨A, len, cap, rfl⟩ := WideShapes.okWide_slice hdd hval
    simp only [Bool.and_eq_true] at hok
    exact hsc (eq_of_beq hok.1.1.1) rfl
  | arr n e =>
    simp only [Bool.and_eq_true] at hok
    have hu := hdd.1
    simp only [Value.okWide, hu] at hval
    obtain ⟨cs, rfl, _⟩ := hval
    exact hag (by rw [eq_of_beq hok.1.2]; rfl) ⟨cs, rfl⟩
  | rcd fs =>
    simp only [Bool.and_eq_true] at hok
    obtain ⟨F, hu, _⟩ := hdd
    obtain ⟨cs, rfl, _⟩ := WideShapes.okWide_struct hu hval
    exact hag hok.1.2 ⟨cs, rfl⟩
  | _ => cases hok
theorem args_rv (hτ : τ.ok P) {d b0 : Nat} {r : Reach} : ∀ {ts : List TypeId} {vs : List Value} {ds : List (DataW H)} {ps : List MemPlace}, (ts.all fun t => okT τ d t) = true → DataW.TrodAll enc P w 0 sp held ts vs ds ps →
    (∀ (j : Nat) t v, ts[j]? = some t → vs[j]? = some v → Value.okWide P w r b0 t v) → Rows.uptoBulkAll ds ≤ M →
    ∃ az, ShL (Sh τ M d) ts az ∧ vs.length = az.length ∧ ∀ (i : Nat) x v, az[i]? = some x → vs[i]? = some v → RV (allOf w) x v
  | [], [], [], _, _, _, _, _ => ⟨[], trivial, rfl, fun i x v h => by simp at h⟩
  | t :: ts, v :: vs, x :: ds, _, hok, h, hval, hM => by
    obtain ⟨p, q, h1, h2, _⟩ := h
    simp only [List.all_cons, Bool.and_eq_true] at hok
    simp only [Rows.uptoBulkAll] at hM
    obtain ⟨a, ha1, ha2⟩ := arg_rv (M := M) hτ hok.1 (hval 0 t v rfl rfl) h1 (by omega)
    obtain ⟨az, hz1, hz2, hz3⟩ := args_rv hτ hok.2 h2 (fun j t v hj hv => hval (j + 1) t v hj hv) (by omega)
    refine ⟨a :: az, ⟨ha1, hz1⟩, by simp [hz2], fun i y u hy hu => ?_⟩
    cases i with
    | zero =>
      simp only [List.getElem?_cons_zero, Option.some.injEq] at hy hu
      subst hy hu; exact ha2
    | succ i => exact hz3 i y u (by simpa using hy) (by simpa using hu)
  | [], _ :: _, _, _, _, h, _, _ => by cases h
  | [], [], _ :: _, _, _, h, _, _ => by cases h
  | _ :: _, [], _, _, _, h, _, _ => by cases h
  | _ :: _, _ :: _, [], _, _, h, _, _ => by cases h
theorem allOf_inv (P : Program) (w : World) : Inv P w (allOf w) (allOf w) [] [] [] w := by
  have nb : ∀ (i : Nat) (x : Bx), (allOf w).bx[i]? = some x → False := fun i x h => by simp [allOf] at h
  have nr : ∀ (i : Nat) (x : Rw), (allOf w).rw[i]? = some x → False := fun i x h => by simp [allOf] at h
  refine ⟨⟨fun b o u h => h, fun i x hx => (nb i x hx).elim, fun i x hx => (nb i x hx).elim, fun i x hx => (nb i x hx).elim, fun i r hr => (nr i r hr).elim, fun i x hx => (nb i x hx).elim, fun i x hx => (nb i x hx).elim, fun i j x y hx => (nb i x hx).elim, fun i r k hr => (nr i r hr).elim, fun i r k hr => (nr i r hr).elim, fun i j x r hx => (nb i x hx).elim, fun i j r s k hr => (nr i r hr).elim⟩,
    ⟨Kept.refl _ _, fun i x hx => (nb i x hx).elim, fun i r k hr => (nr i r hr).elim, fun b _ _ o => rfl, Gh.le.refl _⟩, ⟨rfl, fun i T a h => by simp at h⟩, fun i x hx => (nb i x hx).elim, rfl, fun r hr => by simp [allOf] at hr⟩
theorem law_calls (hτ : τ.ok P) {f : FuncId} {fn : Func} {d b0 : Nat} {r : Reach} {args : Array Value} {ds : List (DataW H)} {ps : List MemPlace} (hok : (fn.params.toList.all fun t => okT τ d t) = true)
    (hT : DataW.TrodAll enc P w 0 sp held fn.params.toList args.toList ds ps) (hval : ∀ (j : Nat) t v, fn.params[j]? = some t → args[j]? = some v → Value.okWide P w r b0 t v) (hM : Rows.uptoBulkAll ds ≤ M)
    (h : ∀ az, ShL (Sh τ M d) fn.params.toList az → VC P f az [] (.v (.bool true))) : Calls P f args w fun e w' => e = .returned (.bool true) ∧ Below w.heap.size w w' := by
  obtain ⟨az, h1, h2, h3⟩ := args_rv (M := M) hτ hok hT (fun j t v hj hv => hval j t v (by simpa using hj) (by simpa using hv)) hM
  have := (h az h1).2 w (allOf w) args.toList (allOf_inv P w) h2 h3
  refine this.mono fun e w' hp => ?_
  obtain ⟨g, v, rfl, hi, hv⟩ := hp
  refine ⟨by rw [hv.v_inv], hi.fr.kept.below (Nat.le_refl _) fun k _ hk => ?_⟩
  rcases hk with ⟨x, hx, _⟩ | ⟨x, hx, _⟩ <;> simp [allOf] at hx
theorem trodAll_below (hl : laidOutB P = true) {W W' : World} (hb : Below W.heap.size W W') : ∀ {ts : List TypeId} {vs : List Value} {ds : List (DataW H)} {ps : List MemPlace}, (ts.all fun t => P.readableRec t && decide (t < P.types.size)) = true →
    DataW.TrodAll enc P W 0 (fun _ => true) true ts vs ds ps → (∀ x ∈ ps, x.block < W.heap.size) → DataW.TrodAll enc P W' 0 (fun b => decide (b < W.heap.size)) true ts vs ds ps
  | [], [], [], _, _, h, _ => h
  | t :: ts, v :: vs, x :: ds, _, hr, h, hlt => by
    obtain ⟨p, q, h1, h2, rfl⟩ := h
    simp only [List.all_cons, Bool.and_eq_true, decide_eq_true_eq] at hr
    exact ⟨p, q, Below.trod hl hr.1.1 hr.1.2 h1 hb (fun x hx => hlt x (List.mem_append_left _ hx)), trodAll_below hl hb hr.2 h2 (fun x hx => hlt x (List.mem_append_right _ hx)), rfl⟩
  | [], _ :: _, _, _, _, h, _ => by cases h
  | [], [], _ :: _, _, _, h, _ => by cases h
  | _ :: _, [], _, _, _, h, _ => by cases h
  | _ :: _, _ :: _, [], _, _, h, _ => by cases h
theorem post_true (hl : laidOutB P = true) {fn : Func} {s : ChangeSpec} {W W' : World} {args : Array Value} {ds gs : List (DataW H)} {before : List MemPlace} {bt : TypeId}
    (hW : DataW.Whole enc P fn.params.toList s.vars false W args.toList ds gs before) (hb : Below W.heap.size W W') (hr : (fn.params.toList.all fun t => P.readableRec t && decide (t < P.types.size)) = true) (hv : s.vars = []) (hrt : fn.resultTypes = #[bt]) (hbt : P.underlying bt = some .bool)
    (hs : s.fn H (ds ++ gs) = ⟨[.lit (.bool true)], ds, []⟩) : s.post enc P fn false true false false W args (.bool true) W' := by
  have hlt := fun x hx => hW.lt x hx
  obtain ⟨p, q, hA, hV, rfl, hfz, hnd⟩ := id hW
  refine ⟨ds, gs, p ++ q, [], p, [], hW, ?_, ?_, ?_, hb.frame _, fun h => by cases h⟩
  · rw [hrt, hs]
    exact ⟨[], [], ⟨1, by simp [DataW.trod, hbt, Value.cells]⟩, rfl, rfl⟩
  · rw [hs]
    exact trodAll_below hl hb hr hA fun x hx => by simpa using hlt x (List.mem_append_left _ hx)
  rw [hs, hv]; rfl
end
section
variable {P : Program} {τ : Tab} {w0 w : World} {N : Gh} {g gS : Gh} {st st' sq sq' : St} {nt : Nat} {a : Act}
def gdEq (t : Nat) : Bool → Gd → Bool
  | true, some (k, true) => k == t
  | false, some (k, false) => k == t
  | _, _ => false
theorem gdEq_ok {t : Nat} {b : Bool} {c : Gd} (h : gdEq t b c = true) : c = some (t, b) := by
  unfold gdEq at h
  split at h
  · rw [beq_iff_eq.1 h]
  · rw [beq_iff_eq.1 h]
  cases h
def unG (t : Nat) (b : Bool) : List (Nat × Gd × AV) → List (Nat × Gd × AV)
  | [] => []
  | (k, c, x) :: l => (k, bif gdEq t b c then none else c, x) :: unG t b l
theorem unG_mem {t : Nat} {b : Bool} {p : Nat × Gd × AV} : ∀ {l : List (Nat × Gd × AV)}, p ∈ unG t b l → ∃ q ∈ l, p = (q.1, bif gdEq t b q.2.1 then none else q.2.1, q.2.2)
  | (k, c, x) :: l, h => by
    rcases List.mem_cons.1 h with h | h
    · exact ⟨_, List.mem_cons_self, h⟩
    obtain ⟨q, hq, e⟩ := unG_mem h
    exact ⟨q, List.mem_cons_of_mem _ hq, e⟩
theorem FR.unG (hF : FR g nt st a) {t : Nat} {b : Bool} (h : a.tmps.getD t undef = .bool b) : FR g nt ⟨unG t b st.t, st.bx, st.fz, st.rw⟩ a := by
  refine ⟨hF.sz, hF.df, fun p hp hg => ?_, fun p hp hg => ?_⟩
  · obtain ⟨q, hq, rfl⟩ := unG_mem hp
    cases e : gdEq t b q.2.1 with
    | true => exact hF.t q hq (by rw [gdEq_ok e]; exact h)
    | false => exact hF.t q hq (by simpa [e] using hg)
  obtain ⟨q, hq, rfl⟩ := unG_mem hp
  cases e : gdEq t b q.2.1 with
  | true => exact absurd (by rw [e]; exact trivial) hg
  | false => exact hF.u q hq (by simpa [e] using hg)
theorem v_known (H : Rel P w0 N nt st a w) (t : Nat) (b : Bool) (hk : st.tmp none t = .v (.bool b)) : Rel P w0 N nt ⟨unG t b st.t, st.bx, st.fz, st.rw⟩ a w := by
  obtain ⟨g, HI, hF⟩ := H
  have h1 := tmp_sound hF (c := none) trivial t
  rw [hk] at h1
  exact ⟨g, HI, hF.unG h1.v_inv⟩
theorem v_knownT (H : RelT P w0 N nt gS sq st a w) (t : Nat) (b : Bool) (hk : st.tmp none t = .v (.bool b)) : RelT P w0 N nt gS sq ⟨unG t b st.t, st.bx, st.fz, st.rw⟩ a w := by
  obtain ⟨hM, hrw, hFq, hBq, g, HI, hF, hle, hbs⟩ := H
  have h1 := tmp_sound hF (c := none) trivial t
  rw [hk] at h1
  exact ⟨hM, hrw, hFq, hBq, g, HI, hF.unG h1.v_inv, hle, hbs⟩
theorem v_guardT {ops : Array Oper} {Q : Exit → Act → World → Prop} {L A : List Nat} {i : Nat} {rest : List Oper} {o : Oper} {t : Nat} {b : Bool} (H : RelT P w0 N nt gS sq st a w) (hL : L.contains i = true) (hgd : gdOf ops o = some (some (t, b))) (hk : st.tmp none t = .v (.bool b))
    (h : wpT P ops Q (Mem gS) L A ({ o with guard := none } :: rest) i a w) : wpT P ops Q (Mem gS) L A (o :: rest) i a w := by
  obtain ⟨hM, hrw, hFq, hBq, g, HI, hF, hle, hbs⟩ := H
  have h1 := tmp_sound hF (c := none) trivial t
  rw [hk] at h1
  have hw : Region.wanted o (yielded ops a.tmps) = true := (gdOf_wanted hgd).2 h1.v_inv
  obtain ⟨dst, op, ty, pos, after, gd⟩ := o
  unfold wpT at h ⊢
  rw [if_pos hw, if_pos hL]
  rw [if_pos (by simp [Region.wanted]), if_pos hL] at h
  exact h
end
section
variable {P : Program} {τ : Tab} {w0 w : World} {N : Gh} {g gS : Gh} {st st' sq sq' : St} {nt : Nat} {a : Act} {r : AV} {cd : Prop}
end
open Go
section
variable {P : Program} {ops : Array Oper} {Q : Exit → Act → World → Prop} {S : World → Prop} {L A : List Nat} {c f : Nat}
theorem unlisted {listed : Array Bool} {k : Nat} (h : k ∈ Region.ready .any ops listed) : listed.getD k false ≠ true := by
  obtain ⟨h1, _⟩ := mem_ready.1 h
  intro h2
  rcases Nat.lt_or_ge k listed.size with h' | h'
  · simp [h'] at h1 h2; rw [h1] at h2; cases h2
  simp [Array.getElem?_eq_none h'] at h1
def Upto (n : Nat) (k : Nat) (x : Bool) (f : Nat) (listed : Array Bool) : Prop := listed.size = n ∧ ∀ i, i < n → ∀ d, listed.getD i d = (decide (i < k) || (x && i == f))
theorem Upto.down {n k f : Nat} {x : Bool} {listed : Array Bool} (hn : n = ops.size) (h : Upto n k x f listed) (he : ∀ (j : Nat) (o : Oper), ops[j]? = some o → ∀ e ∈ o.after, Region.binds .any e = true → e.on < j)
    (hfe : x = true → ∀ o, ops[f]? = some o → ∀ e ∈ o.after, Region.binds .any e = true → e.on < k) : Down ops listed := by
  intro j o hj hl e hm hb
  have hjlt := (Array.getElem?_eq_some_iff.1 hj).1
  rw [h.2 j (by omega) false] at hl
  have h1 := he j o hj e hm hb
  rw [h.2 e.on (by omega) false]
  simp only [Bool.or_eq_true, decide_eq_true_eq, Bool.and_eq_true, beq_iff_eq] at hl ⊢
  rcases hl with hl | ⟨hx, rfl⟩
  · exact .inl (by omega)
  exact .inl (hfe hx o hj e hm hb)
theorem tAny_nil {listed : Array Bool} {a : Act} {w : World} (h : ∀ i, i < ops.size → ∀ d, listed.getD i d = true) (hQ : Q .normal a w) : tAny P ops Q S L A 0 listed a w := by
  refine ⟨?_, hQ⟩
  rw [List.eq_nil_iff_forall_not_mem]
  intro j hj
  obtain ⟨hju, o, ho, _⟩ := mem_ready.1 hj
  rw [h j (Array.getElem?_eq_some_iff.1 ho).1 true] at hju
  cases hju
end
section
variable {P : Program} {τ : Tab} {w0 w : World} {N : Gh} {g gS : Gh} {st st' sq sq' : St} {nt : Nat} {a : Act}
theorem v_fz (H : Rel P w0 N nt st a w) : Rel P w0 N nt ⟨st.t, st.bx, st.fz.filter fun i => decide (i < st.bx.length), st.rw⟩ a w := by
  obtain ⟨g, HI, hF⟩ := H
  refine ⟨g, ⟨HI.mem, HI.fr, HI.br, fun i x hx hf => ?_, HI.wr, HI.wz⟩, ⟨hF.sz, hF.df, hF.t, hF.u⟩⟩
  have h1 := HI.fz i x hx hf
  have h2 := (List.getElem?_eq_some_iff.1 hx).1
  rw [HI.br.len] at h2
  simp only [List.mem_filter, decide_eq_true_eq]
  exact ⟨h1, h2⟩
theorem v_sub (H : Rel P w0 N nt st a w) (d : Nat) {x y : AV} (hs : sub 4 x y) (hx : isAny x = false) (ht : ∀ az, x ≠ .tup az) (hd : find d st.t = some (none, x)) : Rel P w0 N nt ⟨nilT d y st.t, st.bx, st.fz, st.rw⟩ a w := by
  obtain ⟨g, HI, hF⟩ := H
  refine ⟨g, HI, hF.sz, hF.df, fun p hp hg => ?_, fun p hp hg => by rcases nilT_mem hp with h | h; (subst h; exact absurd trivial hg); exact hF.u p h hg⟩
  rcases nilT_mem hp with h | h
  · subst h
    have h1 : RV g x (a.tmps.getD d undef) := hF.t _ (find_mem hd) trivial
    exact ((h1.rv1 hx ht).sub_ hs).rv
  exact hF.t p h hg
theorem RelT.toRel (H : RelT P w0 N nt gS sq st a w) : Rel P w0 N nt st a w := by
  obtain ⟨_, _, _, _, g, HI, hF, _⟩ := H
  exact ⟨g, HI, hF⟩
end
structure Bx9 (p : Prop) : Prop where
  out : p
theorem bx9k {p q : Act → World → Prop} {G2 : Prop} (k : Bx9 G2) {a : Act} {w : World} (H : p a w) (h : G2 = ∀ a w, p a w → q a w := by rfl) : q a w := (h ▸ k.out) a w H
section
variable {P : Program} {w0 w : World} {N gS : Gh} {nt : Nat} {st s2 sq q2 : St} {a : Act}
theorem nfs {s s2 : St} (h : s = s2 := by ((try simp only [List.nil_append, List.cons_append, pk, elemB, St.put, St.ev, St.tmp, St.keep, find, dropT, slots, AV.put, AV.loc, fitI, convI, IntKind.signed, IntKind.bits, strip, St.lose, mergeL, setAll, nth, renB, ren, idx?, sub, allP, low, bnd, Int.reduceEq, Int.reduceMul, Nat.reduceAdd, Nat.reduceLT, reduceIte, reduceCtorEq, Nat.reduceEqDiff, Nat.reduceLeDiff, Nat.reduceBEq, Int.reducePow, Int.reduceToNat]); (try (simp only [hX]; try simp only [List.nil_append, List.cons_append, pk, elemB, St.put, St.ev, St.tmp, St.keep, find, dropT, slots, AV.put, AV.loc, fitI, convI, IntKind.signed, IntKind.bits, strip, St.lose, mergeL, setAll, nth, renB, ren, idx?, sub, allP, low, bnd, Int.reduceEq, Int.reduceMul, Nat.reduceAdd, Nat.reduceLT, reduceIte, reduceCtorEq, Nat.reduceEqDiff, Nat.reduceLeDiff, Nat.reduceBEq, Int.reducePow, Int.reduceToNat])); rfl)) : s = s2 := h
theorem nf (H : Rel P w0 N nt st a w) (h : st = s2 := by exact nfs) : Rel P w0 N nt s2 a w := h ▸ H
theorem ntf (H : RelT P w0 N nt gS sq st a w) (h1 : sq = q2 := by exact nfs) (h : st = s2 := by exact nfs) : RelT P w0 N nt gS q2 s2 a w := h1 ▸ h ▸ H
theorem ctX {c : Prop} (h : c := by ((try simp only [hX]); (try simp only [hY]); (try simp only [List.nil_append, List.cons_append, pk, elemB, St.put, St.ev, St.tmp, St.keep, find, dropT, slots, AV.put, AV.loc, fitI, convI, IntKind.signed, IntKind.bits, strip, St.lose, mergeL, setAll, nth, renB, ren, idx?, sub, allP, low, bnd, Int.reduceEq, Int.reduceMul, Nat.reduceAdd, Nat.reduceLT, reduceIte, reduceCtorEq, Nat.reduceEqDiff, Nat.reduceLeDiff, Nat.reduceBEq, Int.reducePow, Int.reduceToNat, fit, gcond, ilo, ihi]); first | done | exact cd | exact cd2 | skip)) : c := h
theorem cbX {c : Prop} (h : c := by (first | (simp [pickB, bxs, ren, idx?, List.idxOf_cons, sub_refl, sub, allP, hX] <;> omega) | (simp [pickB, bxs, ren, idx?, List.idxOf_cons, sub_refl, sub, allP] <;> omega))) : c := h
theorem cwX {c : Prop} (h : c := by (first | rfl | (simp [hX] <;> omega) | (simp <;> omega))) : c := h
theorem caX {c : Prop} (h : c := by (first | exact trivial | exact ⟨sub_refl _ _, trivial⟩ | exact ⟨sub_refl _ _, sub_refl _ _, trivial⟩ | exact ⟨sub_refl _ _, sub_refl _ _, sub_refl _ _, trivial⟩ | exact ⟨⟨rfl, sub_refl _ _, trivial⟩, sub_refl _ _, trivial⟩ | (simp [cargs, cargsG, St.ev, St.tmp, find, ren, idx?, sub_refl, sub, allP, resv, resC, bss, hX] <;> omega) | (simp [cargs, cargsG, St.ev, St.tmp, find, ren, idx?, sub_refl, sub, allP, resv, resC, bss] <;> omega))) : c := h
theorem mS {G G2 : Prop} (g : G2) (f : Bx9 G2 → G := by (intro kk9; (repeat (first | refine wp_seq ?_ | refine wp_block ?_ | refine wp_skip ?_ | refine wp_exit ?_)); exact kk9.out)) : G := f ⟨g⟩
theorem mW {G G2 : Prop} (g : G2) (f : Bx9 G2 → G := by (intro kk9; (repeat (first | refine wp_seq ?_ | refine wp_block ?_ | refine wp_skip ?_ | refine wp_exit ?_ | ((first | refine v_some 5 tab_ok hN H (by rfl) ctX ?_ | refine v_more tab_ok hN H (by rfl) (by rfl) ctX ?_); intro a w H; replace H := nf H; (try simp only [drL]); try refine wpList_nil ?_) | refine wp_region_lit ?_)); exact bx9k kk9 H)) : G := f ⟨g⟩
theorem mT {G G2 : Prop} (g : G2) (f : Bx9 G2 → G := by (intro kk9; (repeat (refine v_someT 5 tab_ok hN H (by rfl) ctX ?_; intro a w H; replace H := ntf H; simp only [drL])); (refine v_moreT tab_ok hN H (by rfl) ctX ?_; intro a w H; try replace H := ntf H); exact bx9k kk9 H)) : G := f ⟨g⟩
theorem mN {ops : Array Oper} {Q : Exit → Act → World → Prop} {q : Nat} {l : List Oper} {c' : Prop} {st' : St} (n : Nat) (hN : N.bx.length ≤ q) (H : Rel Tryz.prog w0 N nt st a w) (g : ∀ a w, Rel Tryz.prog w0 N nt s2 a w → wpList Tryz.prog ops Q (l.drop n) a w)
    (h : vrun tab (some q) nt ops (l.take n) st True = (st', c', []) := by rfl) (hc : c' := by exact ctX) (hs : st' = s2 := by exact nfs) : wpList Tryz.prog ops Q l a w := v_steps n tab_ok hN H h hc fun a w H => g a w (hs ▸ H)
theorem mTN {ops : Array Oper} {Q : Exit → Act → World → Prop} {L A : List Nat} {q k k' : Nat} {o : Oper} {l : List Oper} {c' : Prop} {sq' st' : St} (n : Nat) (hN : N.bx.length ≤ q) (H : RelT Tryz.prog w0 N nt gS sq st a w) (g : ∀ a w, RelT Tryz.prog w0 N nt gS q2 s2 a w → wpT Tryz.prog ops Q (Mem gS) L A ((o :: l).drop n) k' a w)
    (h : vrunT tab (some q) nt ops L A ((o :: l).take n) k sq st True = (sq', st', c', [], k') := by rfl) (hc : c' := by exact ctX) (h1 : sq' = q2 := by exact nfs) (hs : st' = s2 := by exact nfs) : wpT Tryz.prog ops Q (Mem gS) L A (o :: l) k a w := v_someT n tab_ok hN H h hc fun a w H => g a w (h1 ▸ hs ▸ H)
theorem mC {Q : Exit → Act → World → Prop} {c : Operand} {x y : Code} {b : Bool} (H : Rel P w0 N nt st a w) (h1 : b = true → x.wp P Q a w) (h2 : b = false → y.wp P Q a w) (hc : st.ev none c = .v (.bool b) := by rfl) : (Code.cond c x y).wp P Q a w := v_cond H hc h1 h2
theorem mE {f : FuncId} {fn : Func} {c : Code} {bx bx' : List (Ty × AV)} {fz fz' : List Nat} {rw rws : List (TypeId × Nat)} {args : List AV} {res : AV} (hf : P.funcs[f]? = some fn) (h : ∀ (N : Gh) (w0 : World) (a : Act) (w : World), N.bx.length ≤ bx.length → N.rw.length ≤ rw.length → Rel P w0 N fn.ntmps ⟨slots 0 args, bx, fz, rw⟩ a w → c.wp P (bodyPost P fn (VPost P w0 N bx' fz' rws res)) a w)
    (hb : fn.body = some c := by rfl) (hnm : (fn.name == "runtime.NumGoroutine") = false := by kernel_rfl) (hn : args.length ≤ fn.ntmps := by exact Nat.le_of_ble_eq_true rfl) : VX P f bx fz rw args bx' fz' rws res := v_enter hf hb hnm hn h
theorem mK {p q : Nat} (ks : List Nat) (nb nr : Nat) (hN : N.bx.length ≤ p) (hR : N.rw.length ≤ q) (H : Rel P w0 N nt st a w) (h1 : p ≤ nb := by exact Nat.le_of_ble_eq_true rfl) (h2 : q ≤ nr := by exact Nat.le_of_ble_eq_true rfl) (h3 : keepT ks nb nr st.t = true := by rfl) (h4 : (st.bx.take nb).all (fun x => low nb nr 4 x.2) = true := by rfl)
    (hs : st.keep ks nb nr = s2 := by exact nfs) : Rel P w0 N nt s2 a w := hs ▸ H.keep ks nb nr ⟨Nat.le_trans hN h1, Nat.le_trans hR h2⟩ h3 h4
theorem mEnd {fn : Func} {nb nr : Nat} (js ks : List Nat) (rs : List ResultVar) (ress : List AV) (hN : N.bx.length ≤ nb) (hR : N.rw.length ≤ nr) (H : Rel Tryz.prog w0 N nt st a w) {bx' : List (Ty × AV)} {fz' : List Nat} {rw' : List (TypeId × Nat)} {res : AV} (ht : tupOf ress = res := by rfl) (hr : fn.results = rs.toArray := by rfl)
    (hchk : (okSel js st.bx.length && okSel ks st.rw.length && usesB js st.bx && preOk js nb && preOk ks nr && rs.all (fun x => argOk js (resv tab st x))) = true := by rfl) (hf : fzOk js st.fz fz' 0 = true := by rfl) (hb : bxs (pickB js ks st.bx) bx' := by exact cbX) (hw : ks.filterMap (st.rw[·]?) = rw' := by exact cwX)
    (he : allP (sub 4) (rs.map fun x => ren (idx? js) (idx? ks) 4 (resv tab st x)) ress := by exact caX) : a.defers = [] ∧ ∃ v, (results fn a.tmps).run Tryz.prog w = .ok v w ∧ VPost Tryz.prog w0 N bx' fz' rw' res (.returned v) w := v_end js ks tab_ok ⟨hN, hR⟩ hr H hchk hf hb hw he ht
theorem mCall {ops : Array Oper} {Q : Exit → Act → World → Prop} {rest : List Oper} {o : Oper} {f : FuncId} {xs : List Operand} {ats : Array TypeId} {bxc bx' : List (Ty × AV)} {fzc fz' : List Nat} {rwc rw' : List (TypeId × Nat)} {args : List AV} {res : AV} {s2 : St} (js ks : List Nat) (hc : VX P f bxc fzc rwc args bx' fz' rw' res) (H : Rel P w0 N nt st a w) (g : ∀ a w, Rel P w0 N nt s2 a w → wpList P ops Q rest a w)
    (hgd : o.guard = none := by rfl) (ho : o.op = .call ⟨.value (.func f), xs.toArray, ats⟩ := by rfl) (hchk : (okSel js st.bx.length && okSel ks st.rw.length && usesB js st.bx && fzOk js st.fz fzc 0 && xs.all (fun x => argOk js (st.ev none x)) && uses some 4 res && bx'.all (fun x => uses some 4 x.2) && okDst nt none o.dst) = true := by rfl) (hb : bxs (pickB js ks st.bx) bxc := by exact cbX) (hr : ks.filterMap (st.rw[·]?) = rwc := by exact cwX) (ha : allP (sub 4) (cargs st js ks xs) args := by exact caX)
    (hs : (⟨st.t, mergeL st.bx js (renB js ks st.bx.length st.rw.length bx'), st.fz ++ fz'.map (nth js st.bx.length), mergeL st.rw ks rw'⟩ : St).put o.dst none (ren (fun k => some (nth js st.bx.length k)) (fun k => some (nth ks st.rw.length k)) 4 res) = s2 := by exact nfs) : wpList P ops Q (o :: rest) a w := v_call js ks hc H hgd ho hchk hb hr ha fun a w H => g a w (hs ▸ H)
theorem mCallG {ops : Array Oper} {Q : Exit → Act → World → Prop} {rest : List Oper} {o : Oper} {f : FuncId} {xs : List Operand} {ats : Array TypeId} {bxc bx' : List (Ty × AV)} {fzc fz' : List Nat} {rwc rw' : List (TypeId × Nat)} {args : List AV} {res : AV} {s2 : St} {c : Gd} (js ks : List Nat) (hc : VX P f bxc fzc rwc args bx' fz' rw' res) (H : Rel P w0 N nt st a w) (g : ∀ a w, Rel P w0 N nt s2 a w → wpList P ops Q rest a w)
    (hgd : gdOf ops o = some c := by rfl) (ho : o.op = .call ⟨.value (.func f), xs.toArray, ats⟩ := by rfl) (hchk : (okSel js st.bx.length && okSel ks st.rw.length && usesB js st.bx && fzOk js st.fz fzc 0 && xs.all (fun x => argOk js (st.ev c x)) && uses some 4 res && bx'.all (fun x => uses some 4 x.2) && okDst nt c o.dst) = true := by rfl) (hb : bxs (pickB js ks st.bx) bxc := by exact cbX) (hr : ks.filterMap (st.rw[·]?) = rwc := by exact cwX) (ha : allP (sub 4) (cargsG st c js ks xs) args := by exact caX)
    (hmb : mergeL st.bx js (renB js ks st.bx.length st.rw.length bx') = st.bx := by rfl) (hmf : fz'.map (nth js st.bx.length) = [] := by rfl) (hmr : mergeL st.rw ks rw' = st.rw := by rfl)
    (hs : st.put o.dst c (ren (fun k => some (nth js st.bx.length k)) (fun k => some (nth ks st.rw.length k)) 4 res) = s2 := by exact nfs) : wpList P ops Q (o :: rest) a w := v_callG js ks hc H hgd ho hchk hb hr ha hmb hmf hmr fun a w H => g a w (hs ▸ H)
theorem mCallT {ops : Array Oper} {Q : Exit → Act → World → Prop} {rest : List Oper} {o : Oper} {f : FuncId} {xs : List Operand} {ats : Array TypeId} {bxc bx' : List (Ty × AV)} {fzc fz' : List Nat} {rwc rw' : List (TypeId × Nat)} {args : List AV} {res : AV} {s2 : St} {L A : List Nat} {k : Nat} (js ks : List Nat) (hc : VX P f bxc fzc rwc args bx' fz' rw' res) (H : RelT P w0 N nt gS sq st a w) (g : ∀ a w, RelT P w0 N nt gS q2 s2 a w → wpT P ops Q (Mem gS) L A rest (k + 1) a w) (hL : L.contains k = true := by rfl) (hjs : js.all (fun j => decide (sq.bx.length ≤ j)) = true := by rfl)
    (hgd : o.guard = none := by rfl) (ho : o.op = .call ⟨.value (.func f), xs.toArray, ats⟩ := by rfl) (hchk : (okSel js st.bx.length && okSel ks st.rw.length && usesB js st.bx && fzOk js st.fz fzc 0 && xs.all (fun x => argOk js (st.ev none x)) && uses some 4 res && bx'.all (fun x => uses some 4 x.2) && okDst nt none o.dst) = true := by rfl) (hb : bxs (pickB js ks st.bx) bxc := by exact cbX) (hr : ks.filterMap (st.rw[·]?) = rwc := by exact cwX) (ha : allP (sub 4) (cargs st js ks xs) args := by exact caX)
    (h1 : sq.lose o.dst = q2 := by exact nfs) (hs : (⟨st.t, mergeL st.bx js (renB js ks st.bx.length st.rw.length bx'), st.fz ++ fz'.map (nth js st.bx.length), mergeL st.rw ks rw'⟩ : St).put o.dst none (ren (fun k => some (nth js st.bx.length k)) (fun k => some (nth ks st.rw.length k)) 4 res) = s2 := by exact nfs) : wpT P ops Q (Mem gS) L A (o :: rest) k a w := v_callT js ks hc H hL hjs hgd ho hchk hb hr ha fun a w H => g a w (h1 ▸ hs ▸ H)
theorem mCallTG {ops : Array Oper} {Q : Exit → Act → World → Prop} {rest : List Oper} {o : Oper} {f : FuncId} {xs : List Operand} {ats : Array TypeId} {bxc bx' : List (Ty × AV)} {fzc fz' : List Nat} {rwc rw' : List (TypeId × Nat)} {args : List AV} {res : AV} {s2 : St} {c : Gd} {L A : List Nat} {k : Nat} (js ks : List Nat) (hc : VX P f bxc fzc rwc args bx' fz' rw' res) (H : RelT P w0 N nt gS sq st a w) (g : ∀ a w, RelT P w0 N nt gS q2 s2 a w → wpT P ops Q (Mem gS) L A rest (k + 1) a w) (hL : L.contains k = true := by rfl) (hjs : js.all (fun j => decide (sq.bx.length ≤ j)) = true := by rfl)
    (hgd : gdOf ops o = some c := by rfl) (ho : o.op = .call ⟨.value (.func f), xs.toArray, ats⟩ := by rfl) (hchk : (okSel js st.bx.length && okSel ks st.rw.length && usesB js st.bx && fzOk js st.fz fzc 0 && xs.all (fun x => argOk js (st.ev c x)) && uses some 4 res && bx'.all (fun x => uses some 4 x.2) && okDst nt c o.dst) = true := by rfl) (hb : bxs (pickB js ks st.bx) bxc := by exact cbX) (hr : ks.filterMap (st.rw[·]?) = rwc := by exact cwX) (ha : allP (sub 4) (cargsG st c js ks xs) args := by exact caX)
    (hmb : mergeL st.bx js (renB js ks st.bx.length st.rw.length bx') = st.bx := by rfl) (hmf : fz'.map (nth js st.bx.length) = [] := by rfl) (hmr : mergeL st.rw ks rw' = st.rw := by rfl)
    (h1 : sq.lose o.dst = q2 := by exact nfs) (hs : st.put o.dst c (ren (fun k => some (nth js st.bx.length k)) (fun k => some (nth ks st.rw.length k)) 4 res) = s2 := by exact nfs) : wpT P ops Q (Mem gS) L A (o :: rest) k a w := v_callTG js ks hc H hL hjs hgd ho hchk hb hr ha hmb hmf hmr fun a w H => g a w (h1 ▸ hs ▸ H)
theorem mD {id : Nat} {Q : Exit → Act → World → Prop} {l : List Oper} (nb : Nat) (L A : List Nat) (H : Rel P w0 N nt st a w) (g : ∀ gS, RelT P w0 N nt gS q2 s2 a w.drew → wpT P l.toArray Q (Mem gS) L A l 0 a w.drew) (hm : P.follows .mixedOrders = true := by kernel_rfl) (hchk : chk l.toArray (Region.before l.toArray) L A = true := by kernel_rfl)
    (hb : (st.bx.take nb).all (fun x => low nb 0 4 x.2) = true := by rfl) (h1 : (⟨st.t.filter fun p => low nb 0 4 p.2.2, st.bx.take nb, st.fz, []⟩ : St) = q2 := by exact nfs) (h2 : st = s2 := by exact nfs) : (Code.region id l.toArray true).wp P Q a w := v_draw nb L A hm hchk H hb fun gS H => g gS (h1 ▸ h2 ▸ H)
theorem mSk {ops : Array Oper} {Q : Exit → Act → World → Prop} {rest : List Oper} {o : Oper} {t : Nat} {b : Bool} (r : AV) (H : Rel P w0 N nt st a w) (g : ∀ a w, Rel P w0 N nt s2 a w → wpList P ops Q rest a w) (hgd : gdOf ops o = some (some (t, b)) := by rfl) (hk : st.tmp none t = .v (.bool (!b)) := by rfl) (hd : okDst nt (some (t, b)) o.dst = true := by rfl)
    (hs : st.put o.dst (some (t, b)) r = s2 := by exact nfs) : wpList P ops Q (o :: rest) a w := v_skip r H hgd hk hd fun a w H => g a w (hs ▸ H)
theorem mSkT {ops : Array Oper} {Q : Exit → Act → World → Prop} {L A : List Nat} {i : Nat} {rest : List Oper} {o : Oper} {t : Nat} {b : Bool} (r : AV) (H : RelT P w0 N nt gS sq st a w) (g : ∀ a w, RelT P w0 N nt gS q2 s2 a w → wpT P ops Q (Mem gS) L A rest (i + 1) a w) (hgd : gdOf ops o = some (some (t, b)) := by rfl) (hk : st.tmp none t = .v (.bool (!b)) := by rfl) (hd : okDst nt (some (t, b)) o.dst = true := by rfl)
    (h1 : sq.lose o.dst = q2 := by exact nfs) (hs : st.put o.dst (some (t, b)) r = s2 := by exact nfs) : wpT P ops Q (Mem gS) L A (o :: rest) i a w := v_skipT r H hgd hk hd fun a w H => g a w (h1 ▸ hs ▸ H)
theorem mG {ops : Array Oper} {Q : Exit → Act → World → Prop} {rest : List Oper} {o : Oper} {t : Nat} {b : Bool} (H : Rel P w0 N nt st a w) (h : wpList P ops Q ({ o with guard := none } :: rest) a w) (hgd : gdOf ops o = some (some (t, b)) := by rfl) (hk : st.tmp none t = .v (.bool b) := by rfl) : wpList P ops Q (o :: rest) a w := v_guard H hgd hk h
end
abbrev OneV := { v : Value // v.oneCell' = true }
instance : Inhabited OneV := ⟨⟨.bool false, rfl⟩⟩
section
variable {P : Program} {ops : Array Oper} {Q : Exit → Act → World → Prop} {S : World → Prop} {L A : List Nat}
def rk (ord : List Nat) (i : Nat) : Nat := ord.idxOf i
def chkO (ops : Array Oper) (ord : List Nat) : Bool :=
  ord.length == ops.size && ord.all (fun i => decide (i < ops.size)) && (List.range ops.size).all (fun i => ord.contains i) && (List.range ord.length).all (fun p => match ord[p]? with | some x => rk ord x == p | none => false) &&
    (List.range ops.size).all fun j => (match ops[j]? with | some o => o.after.all fun e => !Region.binds .any e || decide (rk ord e.on < rk ord j) | none => true)
structure OrdOk (ops : Array Oper) (ord : List Nat) : Prop where
  len : ord.length = ops.size
  lt : ∀ i ∈ ord, i < ops.size
  mem : ∀ i, i < ops.size → i ∈ ord
  pos : ∀ p (h : p < ord.length), rk ord ord[p] = p
  edge : ∀ j o, ops[j]? = some o → ∀ e ∈ o.after, Region.binds .any e = true → rk ord e.on < rk ord j
theorem chkO_ok {ops : Array Oper} {ord : List Nat} (h : chkO ops ord = true) : OrdOk ops ord := by
  simp only [chkO, Bool.and_eq_true, beq_iff_eq, List.all_eq_true, decide_eq_true_eq, List.mem_range, List.contains_eq_mem] at h
  obtain ⟨⟨⟨⟨h1, h2⟩, h3⟩, h4⟩, h5⟩ := h
  refine ⟨h1, h2, h3, fun p hp => ?_, fun j o hj e he hb => ?_⟩
  · have := h4 p hp; rw [List.getElem?_eq_getElem hp] at this; simpa using this
  have := h5 j (Array.getElem?_eq_some_iff.1 hj).1
  rw [hj] at this
  have := (Array.all_eq_true_iff_forall_mem.1 this) e he
  simpa [hb] using this
theorem OrdOk.inj {ops : Array Oper} {ord : List Nat} (h : OrdOk ops ord) {i j : Nat} (hi : i < ops.size) (hj : j < ops.size) (e : rk ord i = rk ord j) : i = j := by
  have h1 := List.getElem_idxOf (List.idxOf_lt_length_of_mem (h.mem i hi))
  have h2 := List.getElem_idxOf (List.idxOf_lt_length_of_mem (h.mem j hj))
  unfold rk at e
  rw [← h1, ← h2]
  simp only [e]
def chkZ (ops : Array Oper) (pre : Array Nat) (ord L A : List Nat) : Bool :=
  (List.range ops.size).all fun j => (List.range ops.size).all fun i => !decide (rk ord i < rk ord j) || ((pre.getD j 0).testBit i || (!(L.contains i && L.contains j) && (!L.contains j || A.contains i) && (!L.contains i || A.contains j)) ||
    (L.contains i && L.contains j && (match ops[j]? with | some o => o.after.all fun e => !Region.binds .any e || (decide (rk ord e.on < rk ord i) || L.contains e.on) | none => true)))
theorem pair_Z {pre : Array Nat} {ord : List Nat} (hf : Fine ops pre [] []) (hz : chkZ ops pre ord L A = true) {listed : Array Bool} (hd : Down ops listed) {i j : Nat} (hi : i ∈ Region.ready .any ops listed) (hj : j ∈ Region.ready .any ops listed) (hij : rk ord i < rk ord j) :
    ∃ oi oj, ops[i]? = some oi ∧ ops[j]? = some oj ∧ oi.apart ops oj = true ∧ oj.apart ops oi = true ∧
      ((¬ (L.contains i = true ∧ L.contains j = true) ∧ (L.contains j = true → A.contains i = true) ∧ (L.contains i = true → A.contains j = true)) ∨
       (L.contains i = true ∧ L.contains j = true ∧ ∀ e ∈ oj.after, Region.binds .any e = true → rk ord e.on < rk ord i ∨ L.contains e.on = true)) := by
  obtain ⟨oi, oj, hoi, hoj, g1, g2, _⟩ := pair_of_ready hf hd hi hj (by rintro rfl; omega)
  refine ⟨oi, oj, hoi, hoj, g1, g2, ?_⟩
  have unl : ∀ k, listed.getD k true = false → listed.getD k false = true → False := by
    intro k h1 h2
    rcases Nat.lt_or_ge k listed.size with h' | h'
    · simp [h'] at h1 h2; rw [h1] at h2; cases h2
    simp [Array.getElem?_eq_none h'] at h1
  obtain ⟨hiu, _⟩ := mem_ready.1 hi
  obtain ⟨_, oj', hoj', hallj⟩ := mem_ready.1 hj
  rw [hoj] at hoj'; injection hoj' with hoj'; subst hoj'
  have nij : (pre.getD j 0).testBit i = false := by
    cases ht : (pre.getD j 0).testBit i
    · rfl
    exact (unl i hiu (pre_listed hf hd j oj hoj hallj i ht)).elim
  simp only [chkZ, List.all_eq_true, List.mem_range] at hz
  have h1 := hz j (Array.getElem?_eq_some_iff.1 hoj).1 i (Array.getElem?_eq_some_iff.1 hoi).1
  rw [nij, hoj, decide_eq_true hij] at h1
  simp only [Bool.not_true, Bool.false_or, Bool.or_eq_true, Bool.and_eq_true] at h1
  rcases h1 with ⟨⟨g1, g2⟩, g3⟩ | ⟨⟨g1, g2⟩, g3⟩
  · refine .inl ⟨fun ⟨x, y⟩ => ?_, fun x => ?_, fun x => ?_⟩
    · rw [x, y] at g1; cases g1
    · rw [x] at g2; simpa using g2
    rw [x] at g3; simpa using g3
  refine .inr ⟨g1, g2, fun e he hb => ?_⟩
  have := (Array.all_eq_true_iff_forall_mem.1 g3) e he
  simpa [hb] using this
theorem tOp_all {ι : Type} {p : ι → Prop} {j : Nat} {oj : Oper} {a : Act} {w : World} {K : ι → Act → World → Prop} (hi : ops[j]? = some oj) (hL : ¬ L.contains j = true) (hA : A.contains j = true) (hS : S w) (m0 : ι) (h0 : p m0) (h : ∀ m, p m → tOp P ops S L A j (K m) a w) :
    tOp P ops S L A j (fun a w => ∀ m, p m → K m a w) a w := by
  have h1 := h m0 h0
  unfold tOp at h1 ⊢
  simp only [hi] at h1 ⊢
  by_cases hw : Region.wanted oj (yielded ops a.tmps) = true
  · rw [if_pos hw, if_neg hL] at h1 ⊢
    obtain ⟨v, e1, e2, _⟩ := h1
    refine ⟨v, e1, e2, fun m hm => ?_⟩
    have h2 := h m hm
    unfold tOp at h2
    simp only [hi] at h2
    rw [if_pos hw, if_neg hL] at h2
    obtain ⟨u, f1, f2, f3⟩ := h2
    have := Vr.uniq (e2 hA w hS) (f2 hA w hS)
    subst this
    exact f3
  rw [if_neg hw] at h1 ⊢
  intro m hm
  have h2 := h m hm
  unfold tOp at h2
  simp only [hi] at h2
  rw [if_neg hw] at h2
  exact h2
theorem ready_lt {listed : Array Bool} {i : Nat} (h : i ∈ Region.ready .any ops listed) : i < ops.size := by
  obtain ⟨_, o, h, _⟩ := mem_ready.1 h; exact (Array.getElem?_eq_some_iff.1 h).1
theorem tAny_quiet {pre : Array Nat} {ord : List Nat} (ho : OrdOk ops ord) (hf : Fine ops pre [] []) (hz : chkZ ops pre ord L A = true) {i : Nat} (hL : ¬ L.contains i = true) : ∀ (fuel : Nat) (listed : Array Bool) (a : Act) (w : World), Down ops listed → i ∈ Region.ready .any ops listed → S w →
    tOp P ops S L A i (tAny P ops Q S L A fuel (listed.setIfInBounds i true)) a w → tAny P ops Q S L A (fuel + 1) listed a w := by
  intro fuel
  induction fuel with
  | zero =>
    intro listed a w hd hr hS H
    refine ⟨fun h => (by rw [h] at hr; cases hr), fun j hj => ?_⟩
    by_cases hji : j = i
    · subst hji; exact H
    have := ready_mono hj hji
    obtain ⟨a', w', h⟩ := tOp_some H
    rw [h.1] at this
    cases this
  | succ fuel ih =>
    intro listed a w hd hr hS H
    refine ⟨fun h => (by rw [h] at hr; cases hr), fun j hj => ?_⟩
    by_cases hji : j = i
    · subst hji; exact H
    have hp : ∃ oi oj, ops[i]? = some oi ∧ ops[j]? = some oj ∧ oi.apart ops oj = true ∧ oj.apart ops oi = true ∧ ¬ (L.contains i = true ∧ L.contains j = true) ∧ (L.contains j = true → A.contains i = true) ∧ (L.contains i = true → A.contains j = true) := by
      rcases Nat.lt_or_gt_of_ne (fun e => hji (ho.inj (ready_lt hj) (ready_lt hr) e)) with h | h
      · obtain ⟨oj, oi, hoj, hoi, g1, g2, g3⟩ := pair_Z hf hz hd hj hr h
        rcases g3 with ⟨k1, k2, k3⟩ | ⟨_, k, _⟩
        · exact ⟨oi, oj, hoi, hoj, g2, g1, fun ⟨x, y⟩ => k1 ⟨y, x⟩, k3, k2⟩
        exact absurd k hL
      obtain ⟨oi, oj, hoi, hoj, g1, g2, g3⟩ := pair_Z hf hz hd hr hj h
      rcases g3 with ⟨k1, k2, k3⟩ | ⟨k, _⟩
      · exact ⟨oi, oj, hoi, hoj, g1, g2, k1, k2, k3⟩
      exact absurd k hL
    obtain ⟨oi, oj, hoi, hoj, g1, g2, g3, g4, g5⟩ := hp
    have H2 : tOp P ops S L A i (tOp P ops S L A j (tAny P ops Q S L A fuel ((listed.setIfInBounds i true).setIfInBounds j true))) a w :=
      tOp_mono hS (fun a w _ h => h.2 j (ready_mono hj hji)) H
    have H3 := tOp_swap hoi hoj g1 g2 (fun cs b => hf.sel i oi cs b hoi) (fun cs b => hf.sel j oj cs b hoj) g3 g4 g5 hS H2
    refine tOp_mono hS (fun a' w' _ h => ?_) H3
    refine ih (listed.setIfInBounds j true) a' w' (down_set hd hj) (ready_mono hr (Ne.symm hji)) h.1 ?_
    rw [Array.setIfInBounds_comm _ _ hji]
    exact h.2
theorem tAny_loud {pre : Array Nat} {ord : List Nat} (ho : OrdOk ops ord) (hf : Fine ops pre [] []) (hz : chkZ ops pre ord L A = true) {i : Nat} (hL : L.contains i = true) : ∀ (fuel : Nat) (listed : Array Bool) (a : Act) (w : World), Down ops listed → (∀ j, j < ops.size → rk ord j < rk ord i → listed.getD j false = true) → i ∈ Region.ready .any ops listed → S w →
    (∀ m, (m ∈ Region.ready .any ops listed ∧ L.contains m = true) → tOp P ops S L A m (tAny P ops Q S L A fuel (listed.setIfInBounds m true)) a w) → tAny P ops Q S L A (fuel + 1) listed a w := by
  intro fuel
  induction fuel with
  | zero =>
    intro listed a w hd hlow hr hS H
    refine ⟨fun h => (by rw [h] at hr; cases hr), fun j hj => ?_⟩
    by_cases hji : j = i
    · subst hji; exact H j ⟨hj, hL⟩
    have := ready_mono hj hji
    obtain ⟨a', w', h⟩ := tOp_some (H i ⟨hr, hL⟩)
    rw [h.1] at this
    cases this
  | succ fuel ih =>
    intro listed a w hd hlow hr hS H
    refine ⟨fun h => (by rw [h] at hr; cases hr), fun j hj => ?_⟩
    by_cases hLj : L.contains j = true
    · exact H j ⟨hj, hLj⟩
    have hall : ∀ m, (m ∈ Region.ready .any ops listed ∧ L.contains m = true) → ∃ om oj, ops[m]? = some om ∧ ops[j]? = some oj ∧ om.apart ops oj = true ∧ oj.apart ops om = true ∧ A.contains j = true := fun m hm => by
      have hmj : m ≠ j := fun e => hLj (e ▸ hm.2)
      rcases Nat.lt_or_gt_of_ne (fun e => hmj (ho.inj (ready_lt hm.1) (ready_lt hj) e)) with h | h
      · obtain ⟨om, oj, k1, k2, k3, k4, k5⟩ := pair_Z hf hz hd hm.1 hj h
        rcases k5 with ⟨_, _, k7⟩ | ⟨_, k, _⟩
        · exact ⟨om, oj, k1, k2, k3, k4, k7 hm.2⟩
        exact absurd k hLj
      obtain ⟨oj, om, k1, k2, k3, k4, k5⟩ := pair_Z hf hz hd hj hm.1 h
      rcases k5 with ⟨_, k6, _⟩ | ⟨k, _⟩
      · exact ⟨om, oj, k2, k1, k4, k3, k6 hm.2⟩
      exact absurd k hLj
    obtain ⟨_, oj, _, hoj, _, _, hAj⟩ := hall i ⟨hr, hL⟩
    have B : ∀ m, (m ∈ Region.ready .any ops listed ∧ L.contains m = true) → tOp P ops S L A j (fun a w => S w ∧ tOp P ops S L A m (tAny P ops Q S L A fuel ((listed.setIfInBounds m true).setIfInBounds j true)) a w) a w := fun m hm => by
      have hmj : j ≠ m := fun e => hLj (e ▸ hm.2)
      obtain ⟨om, oj', hom, hoj', g1, g2, _⟩ := hall m hm
      rw [hoj] at hoj'; injection hoj' with hoj'; subst hoj'
      have H2 : tOp P ops S L A m (tOp P ops S L A j (tAny P ops Q S L A fuel ((listed.setIfInBounds m true).setIfInBounds j true))) a w :=
        tOp_mono hS (fun a w _ h => h.2 j (ready_mono hj hmj)) (H m hm)
      exact tOp_swap hom hoj g1 g2 (fun cs b => hf.sel m om cs b hom) (fun cs b => hf.sel j oj cs b hoj) (fun ⟨_, y⟩ => hLj y) (fun y => absurd y hLj) (fun _ => hAj) hS H2
    refine tOp_mono hS (fun a' w' hS' h => ?_) (tOp_all hoj hLj hAj hS i ⟨hr, hL⟩ B)
    have hji : j ≠ i := fun e => hLj (e ▸ hL)
    refine ih (listed.setIfInBounds j true) a' w' (down_set hd hj) (fun k hks hk => by
      by_cases e : j = k
      · subst e; exact getD_set_true (hlow _ hks hk)
      rw [getD_set_ne false e]; exact hlow k hks hk) (ready_mono hr (Ne.symm hji)) hS' fun m hm => ?_
    have hmj : j ≠ m := fun e => hLj (e ▸ hm.2)
    have hmr : m ∈ Region.ready .any ops listed := by
      by_cases hmi : m = i
      · subst hmi; exact hr
      have hd' := down_set hd hj
      have hri := ready_mono hr (Ne.symm hji)
      rcases Nat.lt_or_gt_of_ne (fun e => hmi (ho.inj (ready_lt hm.1) (ready_lt hr) e)) with h | h
      · exfalso
        refine unlisted hm.1 ?_
        rw [getD_set_ne false hmj]
        exact hlow m (ready_lt hm.1) h
      obtain ⟨_, om, _, hom, _, _, k5⟩ := pair_Z hf hz hd' hri hm.1 h
      rcases k5 with ⟨k, _⟩ | ⟨_, _, k⟩
      · exact absurd ⟨hL, hm.2⟩ k
      obtain ⟨q1, om', q2, _⟩ := mem_ready.1 hm.1
      rw [hom] at q2; injection q2 with q2; subst q2
      rw [getD_set_ne true hmj] at q1
      obtain ⟨_, om', q3, q4⟩ := mem_ready.1 hm.1
      rw [hom] at q3; injection q3 with q3; subst q3
      refine mem_ready.2 ⟨q1, om, hom, fun e he hb => ?_⟩
      rcases k e he hb with k | k
      · exact hlow _ (Nat.lt_trans (hf.edge m _ hom e he hb) (ready_lt hm.1)) k
      have q5 := q4 e he hb
      have hne : j ≠ e.on := fun hh => hLj (hh ▸ k)
      rwa [getD_set_ne _ hne] at q5
    rw [Array.setIfInBounds_comm _ _ hmj]
    exact (h m ⟨hmr, hm.2⟩).2
def altZ (U : List (Nat × Nat)) (i : Nat) (rest : List Nat) : List Nat := rest.filter fun m => U.contains (i, m) && rest.all fun j => !U.contains (m + 1000, j)
def wpZ (P : Program) (ops : Array Oper) (Q : Exit → Act → World → Prop) (S : World → Prop) (L A : List Nat) (U : List (Nat × Nat)) : Nat → List Nat → Act → World → Prop
  | 0, _, a, w => Q .normal a w
  | _ + 1, [], a, w => Q .normal a w
  | n + 1, i :: rest, a, w => if L.contains i then ∀ m ∈ i :: altZ U i rest, tOp P ops S L A m (wpZ P ops Q S L A U n ((i :: rest).erase m)) a w
      else tOp P ops S L A i (wpZ P ops Q S L A U n rest) a w
def chkU (ops : Array Oper) (pre : Array Nat) (ord L : List Nat) (U : List (Nat × Nat)) : Bool :=
  ((List.range ops.size).all fun j => (List.range ops.size).all fun i => !decide (rk ord i < rk ord j) || (pre.getD j 0).testBit i || !(L.contains i && L.contains j) || U.contains (i, j)) && U.all fun p => decide (p.1 < 1000) || (pre.getD (p.1 - 1000) 0).testBit p.2
theorem wpZ_any {pre : Array Nat} {ord : List Nat} {U : List (Nat × Nat)} (ho : OrdOk ops ord) (hf : Fine ops pre [] []) (hz : chkZ ops pre ord L A = true) (hu : chkU ops pre ord L U = true) : ∀ (n : Nat) (pend : List Nat) (listed : Array Bool) (a : Act) (w : World), pend.length = n → pend.Pairwise (rk ord · < rk ord ·) → (∀ m ∈ pend, m < ops.size) → listed.size = ops.size →
    (∀ i, i < ops.size → ∀ d, listed.getD i d = !pend.contains i) → Down ops listed → S w → wpZ P ops Q S L A U n pend a w → tAny P ops Q S L A n listed a w := by
  intro n
  induction n with
  | zero =>
    intro pend listed a w hl hp hb hsz hli hd hS h
    obtain rfl : pend = [] := List.length_eq_zero_iff.1 hl
    exact tAny_nil (fun i hi d => by rw [hli i hi d]; rfl) h
  | succ n ih =>
    intro pend listed a w hl hp hb hsz hli hd hS h
    match pend, hl with
    | i :: rest, hl =>
      have hl' : rest.length = n := by simpa using hl
      obtain ⟨hp1, hp2⟩ := List.pairwise_cons.1 hp
      have hilt := hb i List.mem_cons_self
      have hlow : ∀ j, j < ops.size → rk ord j < rk ord i → listed.getD j false = true := fun j hjs hj => by
        rw [hli j hjs false]
        simp only [Bool.not_eq_true', List.contains_eq_mem, decide_eq_false_iff_not, List.mem_cons, not_or]
        exact ⟨by rintro rfl; omega, fun e => by have := hp1 j e; omega⟩
      have hri : i ∈ Region.ready .any ops listed := by
        refine mem_ready.2 ⟨by rw [hli i hilt true]; simp, _, Array.getElem?_eq_getElem hilt, fun e he hb => hlow _ (Nat.lt_trans (hf.edge i _ (Array.getElem?_eq_getElem hilt) e he hb) hilt) (ho.edge i _ (Array.getElem?_eq_getElem hilt) e he hb)⟩
      have next : ∀ m, m ∈ Region.ready .any ops listed → m ∈ i :: rest → ∀ a w, S w → wpZ P ops Q S L A U n ((i :: rest).erase m) a w → tAny P ops Q S L A n (listed.setIfInBounds m true) a w := fun m hmr hm a w hS h => by
        refine ih _ _ a w (by rw [List.length_erase_of_mem hm, hl]; rfl) (hp.sublist List.erase_sublist) (fun x hx => hb x (List.mem_of_mem_erase hx)) (by simpa using hsz) (fun x hx d => ?_) (down_set hd hmr) hS h
        have hnd : (i :: rest).Nodup := hp.imp (fun {a b} h => by rintro rfl; omega)
        by_cases e : m = x
        · subst e
          have h1 : (listed.setIfInBounds m true).getD m d = true := by simp [hsz, hx]
          rw [h1]
          simp [List.contains_eq_mem, hnd.mem_erase_iff]
        rw [getD_set_ne d e, hli x hx d]
        congr 1
        simp only [List.contains_eq_mem, hnd.mem_erase_iff]
        have : x ≠ m := fun h => e h.symm
        simp [this]
      unfold wpZ at h
      by_cases hL : L.contains i = true
      · rw [if_pos hL] at h
        refine tAny_loud ho hf hz hL n listed a w hd hlow hri hS fun m hm => ?_
        have hmp : m ∈ i :: rest := by
          obtain ⟨q1, om, q2, _⟩ := mem_ready.1 hm.1
          have := hli m (Array.getElem?_eq_some_iff.1 q2).1 true
          rw [q1] at this
          have hc : (i :: rest).contains m = true := by
            cases hq : (i :: rest).contains m
            · rw [hq] at this; cases this
            rfl
          simpa [List.contains_eq_mem] using hc
        have hmc : m ∈ i :: altZ U i rest := by
          rcases List.mem_cons.1 hmp with rfl | hmr
          · exact List.mem_cons_self
          refine List.mem_cons_of_mem _ (List.mem_filter.2 ⟨hmr, ?_⟩)
          have him := hp1 m hmr
          simp only [chkU, Bool.and_eq_true, List.all_eq_true, List.mem_range] at hu
          obtain ⟨hu, hu2⟩ := hu
          have h1 := hu m (hb m hmp) i hilt
          have h2 : (rest.all fun j => !U.contains (m + 1000, j)) = true := by
            refine List.all_eq_true.2 fun j hj => ?_
            cases hc : U.contains (m + 1000, j) with
            | false => rfl
            | true =>
              have h3 := hu2 (m + 1000, j) (by simpa [List.contains_eq_mem] using hc)
              have h4 : ¬ (m + 1000 < 1000) := by omega
              simp only [h4, decide_false, Bool.false_or, Nat.add_sub_cancel] at h3
              obtain ⟨_, om, hom, hall⟩ := mem_ready.1 hm.1
              have h5 := pre_listed hf hd m om hom hall j h3
              have hjb := hb j (List.mem_cons_of_mem _ hj)
              rw [hli j hjb false] at h5
              simp [List.contains_eq_mem, hj] at h5
          rw [decide_eq_true him] at h1
          obtain ⟨_, om, hom, hall⟩ := mem_ready.1 hm.1
          have hn : (pre.getD m 0).testBit i = false := by
            cases ht : (pre.getD m 0).testBit i
            · rfl
            exact absurd (pre_listed hf hd m om hom hall i ht) (unlisted hri)
          rw [hn, hL, hm.2] at h1
          have h6 : U.contains (i, m) = true := by simpa using h1
          rw [h6, h2]; rfl
        exact tOp_mono hS (fun a' w' hS' hh => next m hm.1 hmp a' w' hS' hh) (h m hmc)
      rw [if_neg hL] at h
      refine tAny_quiet ho hf hz hL n listed a w hd hri hS ?_
      refine tOp_mono hS (fun a' w' hS' hh => next i hri List.mem_cons_self a' w' hS' ?_) h
      rw [List.erase_cons_head]
      exact hh
theorem wp_region_Z {id : Nat} {a : Act} {w : World} {l : List Oper} (ord L A : List Nat) (U : List (Nat × Nat)) (S : World → Prop) (hm : P.follows .mixedOrders = true) (hc : chk l.toArray (Region.before l.toArray) [] [] = true) (hoc : chkO l.toArray ord = true) (hz : chkZ l.toArray (Region.before l.toArray) ord L A = true) (hu : chkU l.toArray (Region.before l.toArray) ord L U = true)
    (hS : S w.drew) (h : wpZ P l.toArray Q S L A U l.length ord a w.drew) : (Code.region id l.toArray true).wp P Q a w := by
  refine wp_region_any hm (wpAny_of_tAny (L := L) (A := A) (S := S) _ _ _ _ ?_)
  have hsz : l.toArray.size = l.length := by simp
  have ho := chkO_ok hoc
  have hol : ord.length = l.length := ho.len.trans hsz
  have := wpZ_any (P := P) (Q := Q) (S := S) ho (fine_of_chk hc) hz hu l.length ord (Array.replicate l.toArray.size false) a w.drew hol (List.pairwise_iff_getElem.2 fun i j hi hj hij => by rw [ho.pos i hi, ho.pos j hj]; exact hij) ho.lt (by simp)
    (fun i hi d => by
      have hm := ho.mem i hi
      simp only [Array.getD_eq_getD_getElem?, Array.getElem?_replicate, if_pos hi, List.contains_eq_mem]
      simp [hm])
    (fun j o hj hl => by
      have hjl := (Array.getElem?_eq_some_iff.1 hj).1
      simp only [Array.getD_eq_getD_getElem?, Array.getElem?_replicate, if_pos hjl] at hl
      simp at hl) hS h
  rw [hsz]
  exact this
theorem wpZ_loud {U : List (Nat × Nat)} {i n : Nat} {rest : List Nat} {a : Act} {w : World} (hL : L.contains i = true) (h : ∀ m ∈ i :: altZ U i rest, tOp P ops S L A m (wpZ P ops Q S L A U n ((i :: rest).erase m)) a w) : wpZ P ops Q S L A U (n + 1) (i :: rest) a w := by
  unfold wpZ; rw [if_pos hL]; exact h
theorem wpZ_pick {U : List (Nat × Nat)} {m n : Nat} {pend pend' : List Nat} {o : Oper} {a : Act} {w : World} (he : pend.erase m = pend') (ho : (ops.toList.drop m).head? = some o) (h : wpT P ops (fun _ a w => wpZ P ops Q S L A U n pend' a w) S L A [o] m a w) : tOp P ops S L A m (wpZ P ops Q S L A U n (pend.erase m)) a w := by
  have ho : ops[m]? = some o := by rw [List.head?_drop, Array.getElem?_toList] at ho; exact ho
  rw [he]; unfold tOp; simp only [ho]; exact h
theorem all1 {p : Nat → Prop} {x : Nat} (h : p x) : ∀ m ∈ [x], p m := fun m hm => by simp at hm; subst hm; exact h
theorem wpZ_nil {U : List (Nat × Nat)} {p : List Nat} {a : Act} {w : World} (h : Q .normal a w) : wpZ P ops Q S L A U 0 p a w := h
theorem wpZ_two {U : List (Nat × Nat)} {i n : Nat} {rest cs : List Nat} {a : Act} {w : World} (hL : L.contains i = true) (hc : altZ U i rest = cs) (h : ∀ m ∈ i :: cs, tOp P ops S L A m (wpZ P ops Q S L A U n ((i :: rest).erase m)) a w) : wpZ P ops Q S L A U (n + 1) (i :: rest) a w := by
  subst hc; exact wpZ_loud hL h
theorem all2 {p : Nat → Prop} {x y : Nat} (h : p x ∧ p y) : ∀ m ∈ [x, y], p m := fun m hm => by
  simp at hm
  rcases hm with rfl | rfl
  · exact h.1
  exact h.2
theorem all3 {p : Nat → Prop} {x y z : Nat} (h : p x ∧ p y ∧ p z) : ∀ m ∈ [x, y, z], p m := fun m hm => by
  simp at hm
  rcases hm with rfl | rfl | rfl
  · exact h.1
  · exact h.2.1
  exact h.2.2
end
section
variable {P : Program} {w0 w : World} {N : Gh} {st : St} {nt : Nat} {a : Act}
theorem v_drawZ {id : Nat} {Q : Exit → Act → World → Prop} {l : List Oper} (nb : Nat) (ord L A : List Nat) (U : List (Nat × Nat)) (hm : P.follows .mixedOrders = true) (hchk : chk l.toArray (Region.before l.toArray) [] [] = true) (hoc : chkO l.toArray ord = true) (hz : chkZ l.toArray (Region.before l.toArray) ord L A = true) (hu : chkU l.toArray (Region.before l.toArray) ord L U = true) (H : Rel P w0 N nt st a w)
    (hb : (st.bx.take nb).all (fun x => low nb 0 4 x.2) = true)
    (k : ∀ gS, RelT P w0 N nt gS ⟨st.t.filter fun p => low nb 0 4 p.2.2, st.bx.take nb, st.fz, []⟩ st a w.drew → wpZ P l.toArray Q (Mem gS) L A U l.length ord a w.drew) : (Code.region id l.toArray true).wp P Q a w := by
  obtain ⟨g, HI, hF⟩ := H
  have HI' := HI.drew
  have hc := HI'.loose.cut (nr := 0) (Nat.zero_le _) (Nat.zero_le _) hb
  have hgb : ∀ (i : Nat) x, (g.cut nb 0).bx[i]? = some x → g.bx[i]? = some x := fun i x hx => by
    have : (g.bx.take nb)[i]? = some x := hx
    rw [List.getElem?_take] at this
    split at this
    · exact this
    cases this
  have hle : (g.cut nb 0).le g := ⟨fun _ _ _ h => h, fun i x hx => ⟨x, hgb i x hx, x.same⟩, fun i r hr => by simp [Gh.cut] at hr⟩
  have hbs : Bs (g.cut nb 0) g := fun i x hx => ⟨x, hgb i x hx, rfl, rfl, rfl, rfl, rfl⟩
  have HT : RelT P w0 N nt (g.cut nb 0) ⟨st.t.filter fun p => low nb 0 4 p.2.2, st.bx.take nb, st.fz, []⟩ st a w.drew :=
    ⟨hc.mem, by simp [Gh.cut], ⟨hF.sz, hF.df, fun p hp hg => by
      simp only [List.mem_filter] at hp
      exact (hF.t p hp.1 hg).low_ (d := 3) hp.2, fun p hp hg => hF.u p (List.mem_filter.1 hp).1 hg⟩, hc.br, g, HI', hF, hle, hbs⟩
  exact wp_region_Z ord L A U (Mem (g.cut nb 0)) hm hchk hoc hz hu HT.mem (k _ HT)
end
section
variable {P : Program} {ops : Array Oper} {Q : Exit → Act → World → Prop} {S : World → Prop} {L A : List Nat} {U : List (Nat × Nat)}
theorem wpT_at {l : List Oper} {a : Act} {w : World} (i : Nat) (h : wpT P ops Q S L A l i a w) : wpT P ops Q S L A l i a w := h
theorem wpZ_q1 {i n : Nat} {rest : List Nat} {o : Oper} {a : Act} {w : World} (hL : L.contains i = false) (ho : (ops.toList.drop i).head? = some o)
    (h : wpT P ops (fun _ a w => wpZ P ops Q S L A U n rest a w) S L A [o] i a w) : wpZ P ops Q S L A U (n + 1) (i :: rest) a w := by
  have ho : ops[i]? = some o := by rw [List.head?_drop, Array.getElem?_toList] at ho; exact ho
  unfold wpZ; rw [if_neg (by rw [hL]; exact Bool.false_ne_true)]; unfold tOp; simp only [ho]; exact h
theorem wpZ_l1 {i n : Nat} {rest : List Nat} {o : Oper} {a : Act} {w : World} (hL : L.contains i = true) (hc : altZ U i rest = []) (ho : (ops.toList.drop i).head? = some o)
    (h : wpT P ops (fun _ a w => wpZ P ops Q S L A U n rest a w) S L A [o] i a w) : wpZ P ops Q S L A U (n + 1) (i :: rest) a w := by
  refine wpZ_two hL hc (all1 ?_)
  exact wpZ_pick (by simp) ho h
theorem wpZ_l2 {i m n : Nat} {rest r2 : List Nat} {o o2 : Oper} {a : Act} {w : World} (hL : L.contains i = true) (hc : altZ U i rest = [m]) (ho : (ops.toList.drop i).head? = some o) (ho2 : (ops.toList.drop m).head? = some o2) (hr2 : (i :: rest).erase m = r2)
    (h : wpT P ops (fun _ a w => wpZ P ops Q S L A U n rest a w) S L A [o] i a w) (h2 : wpT P ops (fun _ a w => wpZ P ops Q S L A U n r2 a w) S L A [o2] m a w) : wpZ P ops Q S L A U (n + 1) (i :: rest) a w := by
  refine wpZ_two hL hc (all2 ⟨?_, ?_⟩)
  · exact wpZ_pick (by simp) ho h
  exact wpZ_pick hr2 ho2 h2
theorem wpZ_l3 {i m k n : Nat} {rest r2 r3 : List Nat} {o o2 o3 : Oper} {a : Act} {w : World} (hL : L.contains i = true) (hc : altZ U i rest = [m, k]) (ho : (ops.toList.drop i).head? = some o) (ho2 : (ops.toList.drop m).head? = some o2) (ho3 : (ops.toList.drop k).head? = some o3) (hr2 : (i :: rest).erase m = r2) (hr3 : (i :: rest).erase k = r3)
    (h : wpT P ops (fun _ a w => wpZ P ops Q S L A U n rest a w) S L A [o] i a w) (h2 : wpT P ops (fun _ a w => wpZ P ops Q S L A U n r2 a w) S L A [o2] m a w) (h3 : wpT P ops (fun _ a w => wpZ P ops Q S L A U n r3 a w) S L A [o3] k a w) : wpZ P ops Q S L A U (n + 1) (i :: rest) a w := by
  refine wpZ_two hL hc (all3 ⟨?_, ?_, ?_⟩)
  · exact wpZ_pick (by simp) ho h
  · exact wpZ_pick hr2 ho2 h2
  exact wpZ_pick hr3 ho3 h3
theorem all4 {p : Nat → Prop} {x y z u : Nat} (h : p x ∧ p y ∧ p z ∧ p u) : ∀ m ∈ [x, y, z, u], p m := fun m hm => by
  simp at hm
  rcases hm with rfl | rfl | rfl | rfl
  · exact h.1
  · exact h.2.1
  · exact h.2.2.1
  exact h.2.2.2
theorem wpZ_l4 {i m k j n : Nat} {rest r2 r3 r4 : List Nat} {o o2 o3 o4 : Oper} {a : Act} {w : World} (hL : L.contains i = true) (hc : altZ U i rest = [m, k, j]) (ho : (ops.toList.drop i).head? = some o) (ho2 : (ops.toList.drop m).head? = some o2) (ho3 : (ops.toList.drop k).head? = some o3) (ho4 : (ops.toList.drop j).head? = some o4) (hr2 : (i :: rest).erase m = r2) (hr3 : (i :: rest).erase k = r3) (hr4 : (i :: rest).erase j = r4)
    (h : wpT P ops (fun _ a w => wpZ P ops Q S L A U n rest a w) S L A [o] i a w) (h2 : wpT P ops (fun _ a w => wpZ P ops Q S L A U n r2 a w) S L A [o2] m a w) (h3 : wpT P ops (fun _ a w => wpZ P ops Q S L A U n r3 a w) S L A [o3] k a w) (h4 : wpT P ops (fun _ a w => wpZ P ops Q S L A U n r4 a w) S L A [o4] j a w) : wpZ P ops Q S L A U (n + 1) (i :: rest) a w := by
  refine wpZ_two hL hc (all4 ⟨?_, ?_, ?_, ?_⟩)
  · exact wpZ_pick (by simp) ho h
  · exact wpZ_pick hr2 ho2 h2
  · exact wpZ_pick hr3 ho3 h3
  exact wpZ_pick hr4 ho4 h4
end
end Go.Proofs.YtgffimanhmpohaaGreat
