/- The walks of the program's SHA-256: the schedule. -/
import Derived.Test.YtigmpdhnhkdeiaaA1
import Derived.BigQuiet
import Derived.BigRegion
import Derived.Deep.Draws
import Derived.Deep.LoopGhost
import Derived.Outline
import Derived.Lib.Hide
import Derived.Test.YtigmpdhnhkdeiaaA4
import Derived.Lib.BitFns
import Derived.Laws.BitsAllLaws
import Derived.Lib.Bytealg
import Derived.Laws.Externs
import Derived.Shelf.SlicesE.Reverse
set_option linter.unusedSimpArgs false
set_option linter.unusedVariables false
namespace Go.Proofs.Ytigmpdhnhkdeiaa
open Go Go.RowKit
abbrev W32 (x : BitVec 32) : Value := .int .u32 (n32 x)




attribute [local go_sem] or_bytes u32_shr10 u32_shr3 u32_xor u32_and u32_or u32_add u32_add' u32_not
end Go.Proofs.Ytigmpdhnhkdeiaa
/- The walks of the program's SHA-256: the block step. -/
namespace Go.Proofs.Ytigmpdhnhkdeiaa
open Go Go.RowKit
abbrev S8.arr (s : S8) : Array Value := #[W32 s.a, W32 s.b, W32 s.c, W32 s.d, W32 s.e, W32 s.f, W32 s.g, W32 s.h]
end Go.Proofs.Ytigmpdhnhkdeiaa
/- The walks of the program's SHA-256: the block step. -/
namespace Go.Proofs.Ytigmpdhnhkdeiaa
open Go Go.RowKit
attribute [local go_sem] or_bytes u32_shr10 u32_shr3 u32_xor u32_and u32_or u32_add u32_add' u32_not u32_not'
end Go.Proofs.Ytigmpdhnhkdeiaa
/- The walks of the reference's SHA-256: words, the block step. -/
namespace Go.Proofs.Ytigmpdhnhkdeiaa
open Go Go.RowKit
end Go.Proofs.Ytigmpdhnhkdeiaa
/- The walks of the reference's SHA-256: words. -/
namespace Go.Proofs.Ytigmpdhnhkdeiaa
open Go Go.RowKit
attribute [local go_sem] or_bytes u32_shr10 u32_shr3 u32_xor u32_and u32_or u32_add u32_add' u32_not u32_next u32_sum3 u32_sum4
end Go.Proofs.Ytigmpdhnhkdeiaa
/- The walks of the reference's SHA-256: the block step. -/
namespace Go.Proofs.Ytigmpdhnhkdeiaa
open Go Go.RowKit
attribute [local go_sem] or_bytes u32_shr10 u32_shr3 u32_xor u32_and u32_or u32_add u32_add' u32_not u32_not' u32_not2
end Go.Proofs.Ytigmpdhnhkdeiaa
/- The walk of the reference's SHA-256 of a list of bytes. -/
namespace Go.Proofs.Ytigmpdhnhkdeiaa
open Go Go.RowKit
end Go.Proofs.Ytigmpdhnhkdeiaa
/- Contracts in memory made contracts in values: the block step of SHA-256, the document's sum. -/
namespace Go.Proofs.Ytigmpdhnhkdeiaa
open Go Go.RowKit
section
variable {P : Program}
theorem VC.ofA {f : FuncId} {args : List AV} {res : AV} (hf : Fok P f)
    (h : ∀ (w : World) (N : Gh) (vs : List Value), Mem N w → vs.length = args.length → (∀ (i : Nat) x v, args[i]? = some x → vs[i]? = some v → RV N x v) →
      Calls P f vs.toArray w fun e w' => ∃ v, e = .returned v ∧ Below w.heap.size w w' ∧ RV N res v) : VC P f args [] res := by
  refine ⟨hf, fun w N vs hI hl hv => (h w N vs hI.mem hl hv).mono ?_⟩
  rintro e w' ⟨v, rfl, hb, hr⟩
  exact ⟨N, v, rfl, hI.keep (fun k hk => hb.block k hk) hb.size hb.os hb.tape hb.output, hr⟩
theorem two {args : List AV} {vs : List Value} {N : Gh} {x y : AV} (hl : vs.length = [x, y].length) (hv : ∀ (i : Nat) a v, [x, y][i]? = some a → vs[i]? = some v → RV N a v) : ∃ u v, vs = [u, v] ∧ RV N x u ∧ RV N y v := by
  match vs, hl with
  | [u, v], _ => exact ⟨u, v, rfl, hv 0 x u rfl rfl, hv 1 y v rfl rfl⟩
end
end Go.Proofs.Ytigmpdhnhkdeiaa
/- How many bits a byte has: math/bits. -/
namespace Go.Proofs.Ytigmpdhnhkdeiaa
open Go Go.RowKit
end Go.Proofs.Ytigmpdhnhkdeiaa
/- The types of the program, as they lie in memory. By program (gen_tab.py). -/
namespace Go.Proofs.Ytigmpdhnhkdeiaa
open Go Go.RowKit
abbrev ti3 : TI := ⟨.int .i64, .sc, (.v (.int .i64 0)), 8⟩
abbrev ti5 : TI := ⟨.int .u8, .sc, (.v (.int .u8 0)), 1⟩
abbrev ti25 : TI := ⟨.rcd [(0, 22), (1, 23)], (.cn .sc (.cn .sc (.nl))), (.st [(.v (.slice none 0 0)), (.v (.slice none 0 0))]), 48⟩
abbrev ti26 : TI := ⟨.slc 5, .sc, (.v (.slice none 0 0)), 24⟩
abbrev ti51 : TI := ⟨.int .u8, .sc, (.v (.int .u8 0)), 1⟩
abbrev ti54 : TI := ⟨.rcd [(0, 51), (1, 52), (33, 50), (65, 50)], (.cn .sc (.cn (.ba 32) (.cn (.ba 32) (.cn (.ba 32) (.nl))))), (.st [(.v (.int .u8 0)), (.ba (List.replicate 32 0)), (.ba (List.replicate 32 0)), (.ba (List.replicate 32 0))]), 97⟩
abbrev ti340 : TI := ⟨.slc 3, .sc, (.v (.slice none 0 0)), 24⟩
def tab : Tab := [
(2, ⟨.int .i64, .sc, (.v (.int .i64 0)), 8⟩),
(3, ⟨.int .i64, .sc, (.v (.int .i64 0)), 8⟩),
(4, ⟨.bool, .sc, (.v (.bool false)), 1⟩),
(5, ⟨.int .u8, .sc, (.v (.int .u8 0)), 1⟩),
(9, ⟨.str, .sc, (.v (.string ⟨#[]⟩)), 16⟩),
(21, ⟨.int .i32, .sc, (.v (.int .i32 0)), 4⟩),
(22, ⟨.slc 54, .sc, (.v (.slice none 0 0)), 24⟩),
(23, ⟨.slc 26, .sc, (.v (.slice none 0 0)), 24⟩),
(24, ⟨.rcd [(0, 22), (1, 23)], (.cn .sc (.cn .sc (.nl))), (.st [(.v (.slice none 0 0)), (.v (.slice none 0 0))]), 48⟩),
(25, ⟨.rcd [(0, 22), (1, 23)], (.cn .sc (.cn .sc (.nl))), (.st [(.v (.slice none 0 0)), (.v (.slice none 0 0))]), 48⟩),
(26, ⟨.slc 5, .sc, (.v (.slice none 0 0)), 24⟩),
(29, ⟨.int .i64, .sc, (.v (.int .i64 0)), 8⟩),
(42, ⟨.slc 52, .sc, (.v (.slice none 0 0)), 24⟩),
(43, ⟨.rcd [(0, 22)], (.cn .sc (.nl)), (.st [(.v (.slice none 0 0))]), 24⟩),
(44, ⟨.rcd [(0, 22)], (.cn .sc (.nl)), (.st [(.v (.slice none 0 0))]), 24⟩),
(46, ⟨.slc 56, .sc, (.v (.slice none 0 0)), 24⟩),
(49, ⟨.arr 32 5, (.ba 32), (.ba (List.replicate 32 0)), 32⟩),
(50, ⟨.arr 32 5, (.ba 32), (.ba (List.replicate 32 0)), 32⟩),
(51, ⟨.int .u8, .sc, (.v (.int .u8 0)), 1⟩),
(52, ⟨.arr 32 5, (.ba 32), (.ba (List.replicate 32 0)), 32⟩),
(53, ⟨.rcd [(0, 51), (1, 52), (33, 50), (65, 50)], (.cn .sc (.cn (.ba 32) (.cn (.ba 32) (.cn (.ba 32) (.nl))))), (.st [(.v (.int .u8 0)), (.ba (List.replicate 32 0)), (.ba (List.replicate 32 0)), (.ba (List.replicate 32 0))]), 97⟩),
(54, ⟨.rcd [(0, 51), (1, 52), (33, 50), (65, 50)], (.cn .sc (.cn (.ba 32) (.cn (.ba 32) (.cn (.ba 32) (.nl))))), (.st [(.v (.int .u8 0)), (.ba (List.replicate 32 0)), (.ba (List.replicate 32 0)), (.ba (List.replicate 32 0))]), 97⟩),
(55, ⟨.rcd [(0, 54), (97, 50), (129, 3), (130, 52), (162, 3)], (.cn (.cn .sc (.cn (.ba 32) (.cn (.ba 32) (.cn (.ba 32) (.nl))))) (.cn (.ba 32) (.cn .sc (.cn (.ba 32) (.cn .sc (.nl)))))), (.st [(.st [(.v (.int .u8 0)), (.ba (List.replicate 32 0)), (.ba (List.replicate 32 0)), (.ba (List.replicate 32 0))]), (.ba (List.replicate 32 0)), (.v (.int .i64 0)), (.ba (List.replicate 32 0)), (.v (.int .i64 0))]), 184⟩),
(56, ⟨.rcd [(0, 54), (97, 50), (129, 3), (130, 52), (162, 3)], (.cn (.cn .sc (.cn (.ba 32) (.cn (.ba 32) (.cn (.ba 32) (.nl))))) (.cn (.ba 32) (.cn .sc (.cn (.ba 32) (.cn .sc (.nl)))))), (.st [(.st [(.v (.int .u8 0)), (.ba (List.replicate 32 0)), (.ba (List.replicate 32 0)), (.ba (List.replicate 32 0))]), (.ba (List.replicate 32 0)), (.v (.int .i64 0)), (.ba (List.replicate 32 0)), (.v (.int .i64 0))]), 184⟩),
(59, ⟨.slc 76, .sc, (.v (.slice none 0 0)), 24⟩),
(64, ⟨.slc 50, .sc, (.v (.slice none 0 0)), 24⟩),
(65, ⟨.rcd [(0, 51), (1, 52), (33, 50), (65, 50), (97, 50)], (.cn .sc (.cn (.ba 32) (.cn (.ba 32) (.cn (.ba 32) (.cn (.ba 32) (.nl)))))), (.st [(.v (.int .u8 0)), (.ba (List.replicate 32 0)), (.ba (List.replicate 32 0)), (.ba (List.replicate 32 0)), (.ba (List.replicate 32 0))]), 129⟩),
(66, ⟨.rcd [(0, 51), (1, 52), (33, 50), (65, 50), (97, 50)], (.cn .sc (.cn (.ba 32) (.cn (.ba 32) (.cn (.ba 32) (.cn (.ba 32) (.nl)))))), (.st [(.v (.int .u8 0)), (.ba (List.replicate 32 0)), (.ba (List.replicate 32 0)), (.ba (List.replicate 32 0)), (.ba (List.replicate 32 0))]), 129⟩),
(67, ⟨.rcd [(0, 64), (1, 66)], (.cn .sc (.cn (.cn .sc (.cn (.ba 32) (.cn (.ba 32) (.cn (.ba 32) (.cn (.ba 32) (.nl)))))) (.nl))), (.st [(.v (.slice none 0 0)), (.st [(.v (.int .u8 0)), (.ba (List.replicate 32 0)), (.ba (List.replicate 32 0)), (.ba (List.replicate 32 0)), (.ba (List.replicate 32 0))])]), 160⟩),
(68, ⟨.rcd [(0, 64), (1, 66)], (.cn .sc (.cn (.cn .sc (.cn (.ba 32) (.cn (.ba 32) (.cn (.ba 32) (.cn (.ba 32) (.nl)))))) (.nl))), (.st [(.v (.slice none 0 0)), (.st [(.v (.int .u8 0)), (.ba (List.replicate 32 0)), (.ba (List.replicate 32 0)), (.ba (List.replicate 32 0)), (.ba (List.replicate 32 0))])]), 160⟩),
(75, ⟨.rcd [(0, 4), (1, 50)], (.cn .sc (.cn (.ba 32) (.nl))), (.st [(.v (.bool false)), (.ba (List.replicate 32 0))]), 33⟩),
(76, ⟨.rcd [(0, 4), (1, 50)], (.cn .sc (.cn (.ba 32) (.nl))), (.st [(.v (.bool false)), (.ba (List.replicate 32 0))]), 33⟩),
(86, ⟨.slc 120, .sc, (.v (.slice none 0 0)), 24⟩),
(93, ⟨.slc 86, .sc, (.v (.slice none 0 0)), 24⟩),
(100, ⟨.rcd [(0, 26), (1, 26)], (.cn .sc (.cn .sc (.nl))), (.st [(.v (.slice none 0 0)), (.v (.slice none 0 0))]), 48⟩),
(101, ⟨.rcd [(0, 26), (1, 26)], (.cn .sc (.cn .sc (.nl))), (.st [(.v (.slice none 0 0)), (.v (.slice none 0 0))]), 48⟩),
(119, ⟨.rcd [(0, 52), (32, 26)], (.cn (.ba 32) (.cn .sc (.nl))), (.st [(.ba (List.replicate 32 0)), (.v (.slice none 0 0))]), 56⟩),
(120, ⟨.rcd [(0, 52), (32, 26)], (.cn (.ba 32) (.cn .sc (.nl))), (.st [(.ba (List.replicate 32 0)), (.v (.slice none 0 0))]), 56⟩),
(124, ⟨.slc 131, .sc, (.v (.slice none 0 0)), 24⟩),
(130, ⟨.rcd [(0, 52), (32, 4), (33, 26)], (.cn (.ba 32) (.cn .sc (.cn .sc (.nl)))), (.st [(.ba (List.replicate 32 0)), (.v (.bool false)), (.v (.slice none 0 0))]), 64⟩),
(131, ⟨.rcd [(0, 52), (32, 4), (33, 26)], (.cn (.ba 32) (.cn .sc (.cn .sc (.nl)))), (.st [(.ba (List.replicate 32 0)), (.v (.bool false)), (.v (.slice none 0 0))]), 64⟩),
(133, ⟨.ptr 240, .sc, (.v (.pointer none)), 8⟩),
(144, ⟨.slc 3, .sc, (.v (.slice none 0 0)), 24⟩),
(156, ⟨.slc 255, .sc, (.v (.slice none 0 0)), 24⟩),
(179, ⟨.ptr 272, .sc, (.v (.pointer none)), 8⟩),
(189, ⟨.slc 9, .sc, (.v (.slice none 0 0)), 24⟩),
(194, ⟨.rcd [(0, 42), (1, 4), (2, 52), (34, 52)], (.cn .sc (.cn .sc (.cn (.ba 32) (.cn (.ba 32) (.nl))))), (.st [(.v (.slice none 0 0)), (.v (.bool false)), (.ba (List.replicate 32 0)), (.ba (List.replicate 32 0))]), 96⟩),
(195, ⟨.rcd [(0, 42), (1, 4), (2, 52), (34, 52)], (.cn .sc (.cn .sc (.cn (.ba 32) (.cn (.ba 32) (.nl))))), (.st [(.v (.slice none 0 0)), (.v (.bool false)), (.ba (List.replicate 32 0)), (.ba (List.replicate 32 0))]), 96⟩),
(196, ⟨.slc 68, .sc, (.v (.slice none 0 0)), 24⟩),
(204, ⟨.ptr 211, .sc, (.v (.pointer none)), 8⟩),
(208, ⟨.rcd [(0, 52), (32, 52)], (.cn (.ba 32) (.cn (.ba 32) (.nl))), (.st [(.ba (List.replicate 32 0)), (.ba (List.replicate 32 0))]), 64⟩),
(209, ⟨.rcd [(0, 52), (32, 52)], (.cn (.ba 32) (.cn (.ba 32) (.nl))), (.st [(.ba (List.replicate 32 0)), (.ba (List.replicate 32 0))]), 64⟩),
(210, ⟨.rcd [(0, 209), (64, 22), (65, 50), (97, 42), (98, 64), (99, 52), (131, 68)], (.cn (.cn (.ba 32) (.cn (.ba 32) (.nl))) (.cn .sc (.cn (.ba 32) (.cn .sc (.cn .sc (.cn (.ba 32) (.cn (.cn .sc (.cn (.cn .sc (.cn (.ba 32) (.cn (.ba 32) (.cn (.ba 32) (.cn (.ba 32) (.nl)))))) (.nl))) (.nl)))))))), (.st [(.st [(.ba (List.replicate 32 0)), (.ba (List.replicate 32 0))]), (.v (.slice none 0 0)), (.ba (List.replicate 32 0)), (.v (.slice none 0 0)), (.v (.slice none 0 0)), (.ba (List.replicate 32 0)), (.st [(.v (.slice none 0 0)), (.st [(.v (.int .u8 0)), (.ba (List.replicate 32 0)), (.ba (List.replicate 32 0)), (.ba (List.replicate 32 0)), (.ba (List.replicate 32 0))])])]), 360⟩),
(211, ⟨.rcd [(0, 209), (64, 22), (65, 50), (97, 42), (98, 64), (99, 52), (131, 68)], (.cn (.cn (.ba 32) (.cn (.ba 32) (.nl))) (.cn .sc (.cn (.ba 32) (.cn .sc (.cn .sc (.cn (.ba 32) (.cn (.cn .sc (.cn (.cn .sc (.cn (.ba 32) (.cn (.ba 32) (.cn (.ba 32) (.cn (.ba 32) (.nl)))))) (.nl))) (.nl)))))))), (.st [(.st [(.ba (List.replicate 32 0)), (.ba (List.replicate 32 0))]), (.v (.slice none 0 0)), (.ba (List.replicate 32 0)), (.v (.slice none 0 0)), (.v (.slice none 0 0)), (.ba (List.replicate 32 0)), (.st [(.v (.slice none 0 0)), (.st [(.v (.int .u8 0)), (.ba (List.replicate 32 0)), (.ba (List.replicate 32 0)), (.ba (List.replicate 32 0)), (.ba (List.replicate 32 0))])])]), 360⟩),
(224, ⟨.slc 226, .sc, (.v (.slice none 0 0)), 24⟩),
(225, ⟨.rcd [(0, 52), (32, 50)], (.cn (.ba 32) (.cn (.ba 32) (.nl))), (.st [(.ba (List.replicate 32 0)), (.ba (List.replicate 32 0))]), 64⟩),
(226, ⟨.rcd [(0, 52), (32, 50)], (.cn (.ba 32) (.cn (.ba 32) (.nl))), (.st [(.ba (List.replicate 32 0)), (.ba (List.replicate 32 0))]), 64⟩),
(232, ⟨.ptr 318, .sc, (.v (.pointer none)), 8⟩),
(235, ⟨.rcd [(0, 50)], (.cn (.ba 32) (.nl)), (.st [(.ba (List.replicate 32 0))]), 32⟩),
(236, ⟨.rcd [(0, 50)], (.cn (.ba 32) (.nl)), (.st [(.ba (List.replicate 32 0))]), 32⟩),
(237, ⟨.rcd [(0, 236), (32, 51), (33, 3), (34, 52), (66, 26), (67, 50), (99, 3), (100, 3), (101, 3), (102, 3)], (.cn (.cn (.ba 32) (.nl)) (.cn .sc (.cn .sc (.cn (.ba 32) (.cn .sc (.cn (.ba 32) (.cn .sc (.cn .sc (.cn .sc (.cn .sc (.nl))))))))))), (.st [(.st [(.ba (List.replicate 32 0))]), (.v (.int .u8 0)), (.v (.int .i64 0)), (.ba (List.replicate 32 0)), (.v (.slice none 0 0)), (.ba (List.replicate 32 0)), (.v (.int .i64 0)), (.v (.int .i64 0)), (.v (.int .i64 0)), (.v (.int .i64 0))]), 168⟩),
(238, ⟨.rcd [(0, 236), (32, 51), (33, 3), (34, 52), (66, 26), (67, 50), (99, 3), (100, 3), (101, 3), (102, 3)], (.cn (.cn (.ba 32) (.nl)) (.cn .sc (.cn .sc (.cn (.ba 32) (.cn .sc (.cn (.ba 32) (.cn .sc (.cn .sc (.cn .sc (.cn .sc (.nl))))))))))), (.st [(.st [(.ba (List.replicate 32 0))]), (.v (.int .u8 0)), (.v (.int .i64 0)), (.ba (List.replicate 32 0)), (.v (.slice none 0 0)), (.ba (List.replicate 32 0)), (.v (.int .i64 0)), (.v (.int .i64 0)), (.v (.int .i64 0)), (.v (.int .i64 0))]), 168⟩),
(239, ⟨.rcd [(0, 232)], (.cn .sc (.nl)), (.st [(.v (.pointer none))]), 8⟩),
(240, ⟨.rcd [(0, 232)], (.cn .sc (.nl)), (.st [(.v (.pointer none))]), 8⟩),
(242, ⟨.arr 2 86, (.cn .sc (.cn .sc (.nl))), (.st [(.v (.slice none 0 0)), (.v (.slice none 0 0))]), 48⟩),
(254, ⟨.rcd [(0, 52), (32, 4), (33, 26), (34, 4), (35, 26)], (.cn (.ba 32) (.cn .sc (.cn .sc (.cn .sc (.cn .sc (.nl)))))), (.st [(.ba (List.replicate 32 0)), (.v (.bool false)), (.v (.slice none 0 0)), (.v (.bool false)), (.v (.slice none 0 0))]), 96⟩),
(255, ⟨.rcd [(0, 52), (32, 4), (33, 26), (34, 4), (35, 26)], (.cn (.ba 32) (.cn .sc (.cn .sc (.cn .sc (.cn .sc (.nl)))))), (.st [(.ba (List.replicate 32 0)), (.v (.bool false)), (.v (.slice none 0 0)), (.v (.bool false)), (.v (.slice none 0 0))]), 96⟩),
(266, ⟨.slc 156, .sc, (.v (.slice none 0 0)), 24⟩),
(267, ⟨.int .u64, .sc, (.v (.int .u64 0)), 8⟩),
(271, ⟨.rcd [(0, 4), (1, 4), (2, 26)], (.cn .sc (.cn .sc (.cn .sc (.nl)))), (.st [(.v (.bool false)), (.v (.bool false)), (.v (.slice none 0 0))]), 32⟩),
(272, ⟨.rcd [(0, 4), (1, 4), (2, 26)], (.cn .sc (.cn .sc (.cn .sc (.nl)))), (.st [(.v (.bool false)), (.v (.bool false)), (.v (.slice none 0 0))]), 32⟩),
(274, ⟨.slc 51, .sc, (.v (.slice none 0 0)), 24⟩),
(285, ⟨.ptr 288, .sc, (.v (.pointer none)), 8⟩),
(287, ⟨.rcd [(0, 22), (1, 50), (33, 196)], (.cn .sc (.cn (.ba 32) (.cn .sc (.nl)))), (.st [(.v (.slice none 0 0)), (.ba (List.replicate 32 0)), (.v (.slice none 0 0))]), 80⟩),
(288, ⟨.rcd [(0, 22), (1, 50), (33, 196)], (.cn .sc (.cn (.ba 32) (.cn .sc (.nl)))), (.st [(.v (.slice none 0 0)), (.ba (List.replicate 32 0)), (.v (.slice none 0 0))]), 80⟩),
(300, ⟨.ptr 361, .sc, (.v (.pointer none)), 8⟩),
(316, ⟨.slc 372, .sc, (.v (.slice none 0 0)), 24⟩),
(317, ⟨.rcd [(0, 316), (1, 144), (2, 3), (3, 3)], (.cn .sc (.cn .sc (.cn .sc (.cn .sc (.nl))))), (.st [(.v (.slice none 0 0)), (.v (.slice none 0 0)), (.v (.int .i64 0)), (.v (.int .i64 0))]), 64⟩),
(318, ⟨.rcd [(0, 316), (1, 144), (2, 3), (3, 3)], (.cn .sc (.cn .sc (.cn .sc (.cn .sc (.nl))))), (.st [(.v (.slice none 0 0)), (.v (.slice none 0 0)), (.v (.int .i64 0)), (.v (.int .i64 0))]), 64⟩),
(321, ⟨.ptr 238, .sc, (.v (.pointer none)), 8⟩),
(322, ⟨.rcd [(0, 3), (1, 321)], (.cn .sc (.cn .sc (.nl))), (.st [(.v (.int .i64 0)), (.v (.pointer none))]), 16⟩),
(323, ⟨.slc 322, .sc, (.v (.slice none 0 0)), 24⟩),
(340, ⟨.slc 3, .sc, (.v (.slice none 0 0)), 24⟩),
(356, ⟨.int .u32, .sc, (.v (.int .u32 0)), 4⟩),
(357, ⟨.arr 8 356, (.cn .sc (.cn .sc (.cn .sc (.cn .sc (.cn .sc (.cn .sc (.cn .sc (.cn .sc (.nl))))))))), (.st [(.v (.int .u32 0)), (.v (.int .u32 0)), (.v (.int .u32 0)), (.v (.int .u32 0)), (.v (.int .u32 0)), (.v (.int .u32 0)), (.v (.int .u32 0)), (.v (.int .u32 0))]), 32⟩),
(359, ⟨.arr 64 5, (.ba 64), (.ba (List.replicate 64 0)), 64⟩),
(360, ⟨.rcd [(0, 4), (1, 357), (9, 359), (73, 3), (74, 3)], (.cn .sc (.cn (.cn .sc (.cn .sc (.cn .sc (.cn .sc (.cn .sc (.cn .sc (.cn .sc (.cn .sc (.nl))))))))) (.cn (.ba 64) (.cn .sc (.cn .sc (.nl)))))), (.st [(.v (.bool false)), (.st [(.v (.int .u32 0)), (.v (.int .u32 0)), (.v (.int .u32 0)), (.v (.int .u32 0)), (.v (.int .u32 0)), (.v (.int .u32 0)), (.v (.int .u32 0)), (.v (.int .u32 0))]), (.ba (List.replicate 64 0)), (.v (.int .i64 0)), (.v (.int .i64 0))]), 120⟩),
(361, ⟨.rcd [(0, 4), (1, 357), (9, 359), (73, 3), (74, 3)], (.cn .sc (.cn (.cn .sc (.cn .sc (.cn .sc (.cn .sc (.cn .sc (.cn .sc (.cn .sc (.cn .sc (.nl))))))))) (.cn (.ba 64) (.cn .sc (.cn .sc (.nl)))))), (.st [(.v (.bool false)), (.st [(.v (.int .u32 0)), (.v (.int .u32 0)), (.v (.int .u32 0)), (.v (.int .u32 0)), (.v (.int .u32 0)), (.v (.int .u32 0)), (.v (.int .u32 0)), (.v (.int .u32 0))]), (.ba (List.replicate 64 0)), (.v (.int .i64 0)), (.v (.int .i64 0))]), 120⟩),
(363, ⟨.int .u64, .sc, (.v (.int .u64 0)), 8⟩),
(371, ⟨.rcd [(0, 238), (103, 3)], (.cn (.cn (.cn (.ba 32) (.nl)) (.cn .sc (.cn .sc (.cn (.ba 32) (.cn .sc (.cn (.ba 32) (.cn .sc (.cn .sc (.cn .sc (.cn .sc (.nl))))))))))) (.cn .sc (.nl))), (.st [(.st [(.st [(.ba (List.replicate 32 0))]), (.v (.int .u8 0)), (.v (.int .i64 0)), (.ba (List.replicate 32 0)), (.v (.slice none 0 0)), (.ba (List.replicate 32 0)), (.v (.int .i64 0)), (.v (.int .i64 0)), (.v (.int .i64 0)), (.v (.int .i64 0))]), (.v (.int .i64 0))]), 176⟩),
(372, ⟨.rcd [(0, 238), (103, 3)], (.cn (.cn (.cn (.ba 32) (.nl)) (.cn .sc (.cn .sc (.cn (.ba 32) (.cn .sc (.cn (.ba 32) (.cn .sc (.cn .sc (.cn .sc (.cn .sc (.nl))))))))))) (.cn .sc (.nl))), (.st [(.st [(.st [(.ba (List.replicate 32 0))]), (.v (.int .u8 0)), (.v (.int .i64 0)), (.ba (List.replicate 32 0)), (.v (.slice none 0 0)), (.ba (List.replicate 32 0)), (.v (.int .i64 0)), (.v (.int .i64 0)), (.v (.int .i64 0)), (.v (.int .i64 0))]), (.v (.int .i64 0))]), 176⟩),
(376, ⟨.ptr 372, .sc, (.v (.pointer none)), 8⟩),
(384, ⟨.int .i64, .sc, (.v (.int .i64 0)), 8⟩),
(390, ⟨.ptr 340, .sc, (.v (.pointer none)), 8⟩),
(391, ⟨.arr 64 356, (.cn .sc (.cn .sc (.cn .sc (.cn .sc (.cn .sc (.cn .sc (.cn .sc (.cn .sc (.cn .sc (.cn .sc (.cn .sc (.cn .sc (.cn .sc (.cn .sc (.cn .sc (.cn .sc (.cn .sc (.cn .sc (.cn .sc (.cn .sc (.cn .sc (.cn .sc (.cn .sc (.cn .sc (.cn .sc (.cn .sc (.cn .sc (.cn .sc (.cn .sc (.cn .sc (.cn .sc (.cn .sc (.cn .sc (.cn .sc (.cn .sc (.cn .sc (.cn .sc (.cn .sc (.cn .sc (.cn .sc (.cn .sc (.cn .sc (.cn .sc (.cn .sc (.cn .sc (.cn .sc (.cn .sc (.cn .sc (.cn .sc (.cn .sc (.cn .sc (.cn .sc (.cn .sc (.cn .sc (.cn .sc (.cn .sc (.cn .sc (.cn .sc (.cn .sc (.cn .sc (.cn .sc (.cn .sc (.cn .sc (.cn .sc (.nl))))))))))))))))))))))))))))))))))))))))))))))))))))))))))))))))), (.st [(.v (.int .u32 0)), (.v (.int .u32 0)), (.v (.int .u32 0)), (.v (.int .u32 0)), (.v (.int .u32 0)), (.v (.int .u32 0)), (.v (.int .u32 0)), (.v (.int .u32 0)), (.v (.int .u32 0)), (.v (.int .u32 0)), (.v (.int .u32 0)), (.v (.int .u32 0)), (.v (.int .u32 0)), (.v (.int .u32 0)), (.v (.int .u32 0)), (.v (.int .u32 0)), (.v (.int .u32 0)), (.v (.int .u32 0)), (.v (.int .u32 0)), (.v (.int .u32 0)), (.v (.int .u32 0)), (.v (.int .u32 0)), (.v (.int .u32 0)), (.v (.int .u32 0)), (.v (.int .u32 0)), (.v (.int .u32 0)), (.v (.int .u32 0)), (.v (.int .u32 0)), (.v (.int .u32 0)), (.v (.int .u32 0)), (.v (.int .u32 0)), (.v (.int .u32 0)), (.v (.int .u32 0)), (.v (.int .u32 0)), (.v (.int .u32 0)), (.v (.int .u32 0)), (.v (.int .u32 0)), (.v (.int .u32 0)), (.v (.int .u32 0)), (.v (.int .u32 0)), (.v (.int .u32 0)), (.v (.int .u32 0)), (.v (.int .u32 0)), (.v (.int .u32 0)), (.v (.int .u32 0)), (.v (.int .u32 0)), (.v (.int .u32 0)), (.v (.int .u32 0)), (.v (.int .u32 0)), (.v (.int .u32 0)), (.v (.int .u32 0)), (.v (.int .u32 0)), (.v (.int .u32 0)), (.v (.int .u32 0)), (.v (.int .u32 0)), (.v (.int .u32 0)), (.v (.int .u32 0)), (.v (.int .u32 0)), (.v (.int .u32 0)), (.v (.int .u32 0)), (.v (.int .u32 0)), (.v (.int .u32 0)), (.v (.int .u32 0)), (.v (.int .u32 0))]), 256⟩),
(397, ⟨.int .i64, .sc, (.v (.int .i64 0)), 8⟩),
(403, ⟨.int .u64, .sc, (.v (.int .u64 0)), 8⟩),
(407, ⟨.ptr 3, .sc, (.v (.pointer none)), 8⟩),
(409, ⟨.int .u64, .sc, (.v (.int .u64 0)), 8⟩),
(412, ⟨.ptr 403, .sc, (.v (.pointer none)), 8⟩),
(414, ⟨.ptr 409, .sc, (.v (.pointer none)), 8⟩),
(425, ⟨.ptr 5, .sc, (.v (.pointer none)), 8⟩)]
set_option maxRecDepth 100000 in
theorem tab_ok : tab.ok Try.prog := tab_of (by kernel_rfl) (by kernel_rfl)
end Go.Proofs.Ytigmpdhnhkdeiaa
/- A5: Con3 Draw Con4 Con5. -/
/- Tests, stretches with at least one step; rows that are none yet. -/
namespace Go.Proofs.Ytigmpdhnhkdeiaa
open Go Go.RowKit
theorem wrapu8 (n : Int) : IntKind.u8.wrap n = n % 256 := by simp [IntKind.wrap, IntKind.bits, IntKind.signed]
theorem wrapu16 (n : Int) : IntKind.u16.wrap n = n % 65536 := by simp [IntKind.wrap, IntKind.bits, IntKind.signed]
theorem wrapu32 (n : Int) : IntKind.u32.wrap n = n % 4294967296 := by simp [IntKind.wrap, IntKind.bits, IntKind.signed]
theorem wrapu64 (n : Int) : IntKind.u64.wrap n = n % 18446744073709551616 := by simp [IntKind.wrap, IntKind.bits, IntKind.signed]
theorem u8n (x d : Nat) : UInt8.ofNat (((x : Int) / (d : Int)) % 256).toNat = UInt8.ofNat (x / d) := by
  have h : (((x : Int) / (d : Int)) % 256).toNat = x / d % 256 := by
    rw [show (x : Int) / (d : Int) = ((x / d : Nat) : Int) from (Int.natCast_ediv x d).symm]; omega
  rw [h]; apply UInt8.toNat_inj.1; simp
theorem u8m (x : Nat) : UInt8.ofNat ((x : Int) % 256).toNat = UInt8.ofNat x := by
  have h : ((x : Int) % 256).toNat = x % 256 := by omega
  rw [h]; apply UInt8.toNat_inj.1; simp
section
variable {α : Type} (x : α)
theorem rep1 : List.replicate 1 x = [x] := rfl
theorem rep2 : List.replicate 2 x = [x, x] := rfl
theorem rep3 : List.replicate 3 x = [x, x, x] := rfl
theorem rep4 : List.replicate 4 x = [x, x, x, x] := rfl
theorem rep5 : List.replicate 5 x = [x, x, x, x, x] := rfl
end
/-- bytes, each a slice -/
def bss (ls : List (List UInt8)) : List AV := ls.map fun l => .bs l none
section
variable {P : Program} {τ : Tab} {w0 w : World} {N : Gh} {g : Gh} {st st' st1 : St} {nt : Nat} {a : Act}
theorem v_cond {Q : Exit → Act → World → Prop} {c : Operand} {x y : Code} {b : Bool} (H : Rel P w0 N nt st a w) (hc : st.ev none c = .v (.bool b))
    (h1 : b = true → x.wp P Q a w) (h2 : b = false → y.wp P Q a w) : (Code.cond c x y).wp P Q a w := by
  obtain ⟨g, HI, hF⟩ := H
  have := ev_sound hF (c := none) trivial c
  rw [hc] at this
  exact wp_cond_split this.v_inv h1 h2
theorem hNq {q : Nat} (h : N.bx.length ≤ q) : ∀ k, some q = some k → N.bx.length ≤ k := fun k e => by injection e with e; subst e; exact h
theorem vrun_conds {md : Option Nat} {ops : Array Oper} : ∀ (l : List Oper) (st : St) (c : Prop), (vrun τ md nt ops l st c).2.1 → c := by
  intro l
  induction l with
  | nil => intro st c h; exact h
  | cons o l ih =>
    intro st c h
    unfold vrun at h
    split at h
    · exact (ih _ _ h).1
    · exact h
theorem v_more {ops : Array Oper} {Q : Exit → Act → World → Prop} {q : Nat} {o : Oper} {l l' : List Oper} {c1 c' : Prop} (hτ : τ.ok P) (hN : N.bx.length ≤ q) (H : Rel P w0 N nt st a w) (h0 : vstep τ (some q) nt ops o st = some (st1, c1)) (h : vrun τ (some q) nt ops l st1 c1 = (st', c', l')) (hc : c')
    (k : ∀ a w, Rel P w0 N nt st' a w → wpList P ops Q l' a w) : wpList P ops Q (o :: l) a w := by
  have hc1 : c1 := by have := vrun_conds (τ := τ) (nt := nt) (md := some q) (ops := ops) l st1 c1; rw [h] at this; exact this hc
  exact vstep_wpList hτ (hNq hN) h0 hc1 H fun a w H' => vrun_wpList hτ (hNq hN) l st1 c1 c' l' h hc a w H' k
theorem v_steps {ops : Array Oper} {Q : Exit → Act → World → Prop} {q : Nat} {l : List Oper} {c' : Prop} (n : Nat) (hτ : τ.ok P) (hN : N.bx.length ≤ q) (H : Rel P w0 N nt st a w) (h : vrun τ (some q) nt ops (l.take n) st True = (st', c', [])) (hc : c')
    (k : ∀ a w, Rel P w0 N nt st' a w → wpList P ops Q (l.drop n) a w) : wpList P ops Q l a w := by
  have key : ∀ (l1 l2 : List Oper) (st : St) (c : Prop), vrun τ (some q) nt ops l1 st c = (st', c', []) → c' → ∀ a w, Rel P w0 N nt st a w → (∀ a w, Rel P w0 N nt st' a w → wpList P ops Q l2 a w) → wpList P ops Q (l1 ++ l2) a w := by
    intro l1 l2
    induction l1 with
    | nil => intro st c h _ a w H k; simp only [vrun, Prod.mk.injEq] at h; obtain ⟨rfl, rfl, _⟩ := h; exact k _ _ H
    | cons o l1 ih =>
      intro st c h hc a w H k
      unfold vrun at h
      split at h
      · rename_i st1 cd1 hs
        have hc1 : cd1 := by have := vrun_conds (τ := τ) (nt := nt) (md := some q) (ops := ops) l1 st1 (c ∧ cd1); rw [h] at this; exact (this hc).2
        exact vstep_wpList hτ (hNq hN) hs hc1 H fun a w H' => ih st1 _ h hc a w H' k
      · simp at h
  have := key (l.take n) (l.drop n) st True h hc a w H k
  rwa [List.take_append_drop] at this
def nilT (d : Nat) (b : AV) : List (Nat × Gd × AV) → List (Nat × Gd × AV)
  | [] => []
  | (k, x) :: l => if k = d then (d, none, b) :: l else (k, x) :: nilT d b l
theorem nilT_mem {d : Nat} {b : AV} {p : Nat × Gd × AV} : ∀ {l : List (Nat × Gd × AV)}, p ∈ nilT d b l → p = (d, none, b) ∨ p ∈ l
  | q :: l, h => by
    unfold nilT at h
    split at h
    · rcases List.mem_cons.1 h with h | h
      · exact .inl h
      · exact .inr (List.mem_cons_of_mem _ h)
    · rcases List.mem_cons.1 h with h | h
      · exact .inr (by rw [h]; exact List.mem_cons_self)
      · rcases nilT_mem h with h | h
        · exact .inl h
        · exact .inr (List.mem_cons_of_mem _ h)
/-- A slice that is none becomes a row that is none yet: bytes. -/
theorem v_nilB (hτ : τ.ok P) (H : Rel P w0 N nt st a w) (d e : Nat) {j : TI} (hj : Tab.get e τ = some j) (hs : 0 < j.ty.size) (hd : find d st.t = some (none, .v (.slice none 0 0))) :
    Rel P w0 N nt ⟨nilT d (.bs [] (some st.rw.length)) st.t, st.bx, st.fz, st.rw ++ [(e, 0)]⟩ a w := by
  obtain ⟨g, HI, hF⟩ := H
  have hok := Tab.get_ok hτ hj
  obtain ⟨g1, l1, I1, h1⟩ := HI.rowNil (nilRow hok hs w) rfl rfl ⟨hok.cells.symm, rfl⟩
  refine ⟨g1, I1, (hF.mono l1.1).sz, hF.df, fun p hp hg => ?_, fun p hp hg => by rcases nilT_mem hp with h | h; (subst h; exact absurd trivial hg); exact hF.u p h hg⟩
  have hv : RV g1 (.bs [] (some st.rw.length)) (a.tmps.getD d undef) := by
    have := (hF.t _ (find_mem hd) trivial).v_inv
    rw [this]
    exact (RC.bs (g := g1) (l := []) (A := none) (c := 0) (by simp) (by simp [maxLen]) (.inl rfl) fun i hi => by injection hi with hi; subst hi; exact ⟨_, h1, by simp, fun _ => ⟨rfl, rfl⟩⟩).rv1
  have key : ∀ l : List (Nat × Gd × AV), p ∈ nilT d (.bs [] (some st.rw.length)) l → p = (d, none, .bs [] (some st.rw.length)) ∨ p ∈ l := by
    intro l
    induction l with
    | nil => intro h; cases h
    | cons q l ih =>
      intro h
      unfold nilT at h
      split at h
      · rcases List.mem_cons.1 h with h | h
        · exact .inl h
        · exact .inr (List.mem_cons_of_mem _ h)
      · rcases List.mem_cons.1 h with h | h
        · exact .inr (by rw [h]; exact List.mem_cons_self)
        · rcases ih h with h | h
          · exact .inl h
          · exact .inr (List.mem_cons_of_mem _ h)
  rcases key _ hp with h | h
  · subst h; exact hv
  · exact (hF.mono l1.1).t p h hg
end
end Go.Proofs.Ytigmpdhnhkdeiaa

/- Regions that draw their order, on what is known. -/
namespace Go.Proofs.Ytigmpdhnhkdeiaa
open Go Go.RowKit
def hasAny : Nat → AV → Bool
  | _, .any => true
  | d + 1, .st fs => fs.any (hasAny d)
  | _, _ => false
def qopN (τ : Tab) (st : St) (c : Gd) (o : Op) : QR :=
  match qop2 τ st c o with
  | some (r, cd) => if hasAny 3 r then none else some (r, cd)
  | none => none
theorem qopN_some {τ : Tab} {st : St} {c : Gd} {o : Op} {x : AV × Prop} (h : qopN τ st c o = some x) : qop2 τ st c o = some x := by
  unfold qopN at h
  split at h
  · rename_i hq
    split at h
    · cases h
    · rw [hq]; exact h
  · cases h
def qopA (τ : Tab) (st : St) (c : Gd) (o : Op) : QR :=
  match o with
  | .build t ps => qopN τ st c (.build t ps)
  | o => qop2 τ st c o
theorem qopA_some {τ : Tab} {st : St} {c : Gd} {o : Op} {x : AV × Prop} (h : qopA τ st c o = some x) : qop2 τ st c o = some x := by
  unfold qopA at h
  split at h
  · exact qopN_some h
  · exact h
def St.lose (st : St) (dst : Option Tmp) : St :=
  match dst with
  | none => st
  | some d => { st with t := dropT d st.t }
def isSlc : Op → Bool
  | .slice _ _ _ _ _ => true
  | _ => false
def loudOk (md : Option Nat) (sq : St) (o : Op) : Bool := !isSto o || sq.bx.isEmpty
def stillE (τ : Tab) (md : Option Nat) (st : St) (c : Gd) (o : Op) : ER :=
  match (match o with
    | .slice t x lo hi none => (match md, isNoneG c with
      | some q0, true => frzE τ q0 st t (st.ev c x) (lo.map (st.ev c)) (hi.map (st.ev c))
      | _, _ => none)
    | _ => none) with
  | some r => some r
  | none => (match qop2 τ st c o with
    | some (r, cd) => some (st, r, cd)
    | none => none)
def vstepT (τ : Tab) (md : Option Nat) (nt : Nat) (ops : Array Oper) (L A : List Nat) (k : Nat) (o : Oper) (sq st : St) : Option (St × St × Prop) :=
  match gdOf ops o with
  | none => none
  | some c =>
    if okDst nt c o.dst then
      (if L.contains k then
        (if isNoneG c && loudOk md sq o.op then (match orE (eop τ none st c o.op) (if sq.bx.isEmpty then eopV τ st c o.op else none) with
          | some (st', r, cd) => some (sq.lose o.dst, st'.put o.dst c r, cd)
          | none => (match qop2 τ st c o.op with
            | some (r, cd) => some (sq.lose o.dst, st.put o.dst c r, gcond st c cd)
            | none => none)) else none)
      else
        (if A.contains k then (match qopA τ sq c o.op with
          | some (r, cd) => some (sq.put o.dst c r, st.put o.dst c r, gcond sq c cd)
          | none => (match (if memless o.op then qop2 τ st c o.op else none) with
            | some (r, cd) => some (sq.lose o.dst, st.put o.dst c r, gcond st c cd)
            | none => none))
        else (match stillE τ md st c o.op with
          | some (st', r, cd) => (match qopN τ sq c o.op with
            | some (r', cd') => (if md.isSome && isSlc o.op then some (sq.lose o.dst, st'.put o.dst c r, gcond st c cd) else some (sq.put o.dst c r', st.put o.dst c r', gcond sq c cd'))
            | none => some (sq.lose o.dst, st'.put o.dst c r, gcond st c cd))
          | none => none)))
    else none
def vrunT (τ : Tab) (md : Option Nat) (nt : Nat) (ops : Array Oper) (L A : List Nat) : List Oper → Nat → St → St → Prop → St × St × Prop × List Oper × Nat
  | [], k, sq, st, c => (sq, st, c, [], k)
  | o :: l, k, sq, st, c =>
    match vstepT τ md nt ops L A k o sq st with
    | some (sq', st', cd) => vrunT τ md nt ops L A l (k + 1) sq' st' (c ∧ cd)
    | none => (sq, st, c, o :: l, k)
section
variable {P : Program} {τ : Tab} {w0 w : World} {N : Gh} {g gS : Gh} {st st' sq sq' : St} {nt : Nat} {a : Act} {r : AV} {cd : Prop}
structure RelT (P : Program) (w0 : World) (N : Gh) (nt : Nat) (gS : Gh) (sq st : St) (a : Act) (w : World) : Prop where
  mem : Mem gS w
  rows : gS.rw = []
  fr : FR gS nt sq a
  br : BR gS sq.bx
  rel : ∃ g, Inv P w0 N g st.bx st.fz st.rw w ∧ FR g nt st a ∧ gS.le g ∧ Bs gS g
theorem RelT.still {H : RelT P w0 N nt gS sq st a w} : Mem gS w := H.mem
theorem MemS {w' : World} (h : Mem gS w) (hr : gS.rw = []) (HI : Inv P w0 N g st.bx st.fz st.rw w') (hl : gS.le g) (hb : Bs gS g) : Mem gS w' := by
  have no : ∀ {i : Nat} {x : Rw}, gS.rw[i]? = some x → False := fun {i x} h => by rw [hr] at h; simp at h
  exact ⟨fun b o u hu => HI.mem.ro _ _ _ (hl.ro _ _ _ hu), fun i x hx hxo => (by
      obtain ⟨y, h1, h2, h3, h4, h5, h6⟩ := hb i x hx
      have := HI.mem.bx i y h1 (h5.trans hxo)
      exact ⟨fun e => (by have h7 := this.c (h6.trans e); rw [h2, h3, h4] at h7; exact h7), fun m e => (by have h7 := this.m m (h6.trans e); rw [h2] at h7; exact h7)⟩), h.offc, h.mpc,
    fun i x h => (no h).elim, h.fro, h.bro, h.bb, h.rro, h.rwo, h.rb, h.rr⟩
theorem FR.lose {dst : Option Tmp} (hF : FR g nt st a) (v : Value) : FR g nt (st.lose dst) (a.put dst v) := by
  cases dst with
  | none => exact hF
  | some d =>
    refine ⟨by simp [Act.put, hF.sz], hF.df, fun p hp hgp => ?_, fun p hp hgp => ?_⟩
    rotate_left
    · obtain ⟨h1, h2, h3⟩ := dropT_mem hp
      rw [getD_put h2]
      refine hF.u p h1 fun hc => hgp ?_
      cases hq : p.2.1 with
      | none => trivial
      | some k => obtain ⟨j, b⟩ := k; rw [hq] at hc; show (a.put (some d) v).tmps.getD j undef = .bool b; rw [getD_put (h3 j b hq)]; exact hc
    obtain ⟨h1, h2, h3⟩ := dropT_mem hp
    rw [getD_put h2]
    refine hF.t p h1 ?_
    cases hc : p.2.1 with
    | none => trivial
    | some k =>
      obtain ⟨j, b⟩ := k
      rw [hc] at hgp
      have : (a.put (some d) v).tmps.getD j undef = .bool b := hgp
      rw [getD_put (h3 j b hc)] at this
      exact this
theorem lose_bx (st : St) (dst : Option Tmp) : (st.lose dst).bx = st.bx := by cases dst <;> rfl
theorem put_bx (st : St) (dst : Option Tmp) (c : Gd) (r : AV) : (st.put dst c r).bx = st.bx ∧ (st.put dst c r).fz = st.fz ∧ (st.put dst c r).rw = st.rw := by cases dst <;> exact ⟨rfl, rfl, rfl⟩
/-- What an operation that leaves the world comes to. -/
theorem stillE_sound (hτ : τ.ok P) {md : Option Nat} (hN : ∀ q, md = some q → N.bx.length ≤ q) (HI : Inv P w0 N g st.bx st.fz st.rw w) (hF : FR g nt st a) {c : Gd} (hg : gholds a c) {o : Oper} (h : stillE τ md st c o.op = some (st', r, cd)) (hc : cd) :
    ∃ g' z, g.lex g' ∧ Inv P w0 N g' st'.bx st'.fz st'.rw w ∧ st'.t = st.t ∧ (execOp a.eval o).run P w = .ok (.value z) w ∧ RV g' r z := by
  unfold stillE at h
  split at h
  · rename_i q hq
    injection h with h; subst h
    split at hq
    · rename_i t x lo hi ho
      split at hq
      · rename_i q0 _
        have E := fun x => ev_sound hF hg x
        have RO_ : ∀ x : Option Operand, RO g (x.map (st.ev c)) (x.map a.eval) := fun x => by cases x with | none => trivial | some x => exact E x
        have hq' : frzE τ q0 st t (st.ev c x) (lo.map (st.ev c)) (hi.map (st.ev c)) = some (st', r, cd) := hq
        obtain ⟨g', z, h1, h2, h3, h4, h5⟩ := frzE_still hτ HI (hN _ rfl) hq' hc (E x) (RO_ lo) (RO_ hi)
        exact ⟨g', z, h1, h2, h3, by unfold execOp; rw [ho]; simp [h4], h5⟩
      · cases hq
    · cases hq
  · split at h
    · rename_i r0 cd0 hq
      obtain ⟨rfl, rfl, rfl⟩ := ER.inj h
      obtain ⟨z, h1, h2⟩ := qop2_sound (P := P) hτ hF HI.br hg hq hc
      exact ⟨g, z, Gh.lex.refl g, HI, rfl, h2 w HI.mem, h1⟩
    · cases h
theorem stillE_st {md : Option Nat} {q : Nat × Bool} {o : Op} (h : stillE τ md st (some q) o = some (st', r, cd)) : st' = st := by
  unfold stillE at h
  split at h
  · rename_i x hx
    split at hx
    · simp [isNoneG] at hx
    · cases hx
  · split at h
    · exact (ER.inj h).1.symm
    · cases h
theorem qop2_memless (hτ : τ.ok P) (hF : FR g nt st a) (hB : BR g st.bx) {c : Gd} (hg : gholds a c) {o : Oper} (hm : memless o.op = true) (h : qop2 τ st c o.op = some (r, cd)) (hc : cd) :
    ∃ z, RV g r z ∧ ∀ w, (execOp a.eval o).run P w = .ok (.value z) w := by
  unfold qop2 at h
  split at h
  · rename_i t ps ho
    obtain ⟨z, h1, h2⟩ := buildq_sound (P := P) hτ hF hg h hc
    exact ⟨z, h1, fun w => by unfold execOp; rw [ho]; simp [h2 w]⟩
  · obtain ⟨z, h1, h2⟩ := qop_sound (P := P) hτ hF hB hg h hc
    exact ⟨z, h1, fun w => h2 w (.inl hm)⟩
theorem vstepT_wpT {ops : Array Oper} {Q : Exit → Act → World → Prop} {L A : List Nat} {rest : List Oper} {k : Nat} {o : Oper} {md : Option Nat} (hτ : τ.ok P) (hN : ∀ q, md = some q → N.bx.length ≤ q) (h : vstepT τ md nt ops L A k o sq st = some (sq', st', cd)) (hc : cd)
    (H : RelT P w0 N nt gS sq st a w) (kk : ∀ a w, RelT P w0 N nt gS sq' st' a w → wpT P ops Q (Mem gS) L A rest (k + 1) a w) : wpT P ops Q (Mem gS) L A (o :: rest) k a w := by
  obtain ⟨hM, hrw, hFq, hBq, g, HI, hF, hl, hbs⟩ := H
  unfold vstepT at h
  split at h
  · cases h
  · rename_i c hgd
    split at h
    · rename_i hdst
      unfold wpT
      split at h
      · rename_i hL
        split at h
        · rename_i hcond
          simp only [Bool.and_eq_true] at hcond
          obtain ⟨hng, hlo⟩ := hcond
          have hcn : c = none := by cases c with | none => rfl | some k => simp [isNoneG] at hng
          subst hcn
          have hw : Region.wanted o (yielded ops a.tmps) = true := (gdOf_wanted hgd).2 trivial
          rw [if_pos hw, if_pos hL]
          split at h
          · rename_i st1 r1 cd1 he
            injection h with h
            simp only [Prod.mk.injEq] at h
            obtain ⟨rfl, rfl, rfl⟩ := h
            have hem : sq.bx = [] → ∀ g', Bs gS g' := fun h g' i x hx => by
              have := hBq.len; rw [h] at this
              rw [List.length_eq_zero_iff.1 this] at hx; simp at hx
            obtain ⟨g', w', ⟨k1, hbs'⟩, k2, k3, k4⟩ : ∃ g' w', (g.le g' ∧ Bs gS g') ∧ Inv P w0 N g' st1.bx st1.fz st1.rw w' ∧ st1.t = st.t ∧ ((∃ z, (execOp a.eval o).run P w = .ok (.value z) w' ∧ RV g' r1 z) ∨ ((execOp a.eval o).run P w = .ok .skip w' ∧ r1 = .any)) := by
              rcases orE_some he with he | he
              · obtain ⟨g', w', k1, k⟩ := eop_sound hτ (md := none) (fun _ h => (by cases h)) HI hF (c := none) trivial he hc
                refine ⟨g', w', ⟨k1.1, ?_⟩, k⟩
                simp only [loudOk, Bool.or_eq_true, Bool.not_eq_true', List.isEmpty_iff] at hlo
                rcases hlo with h | h
                · exact hbs.trans (k1.2 h)
                · exact hem h g'
              · split at he
                · rename_i hz
                  obtain ⟨g', w', k1, k⟩ := eopV_sound hτ HI hF (c := none) trivial he hc
                  exact ⟨g', w', ⟨k1.1, hem (List.isEmpty_iff.1 hz) g'⟩, k⟩
                · cases he
            have hl' := hl.trans k1
            have fin : ∀ v, RV g' r1 v → RelT P w0 N nt gS (sq.lose o.dst) (st1.put o.dst none r1) (a.put o.dst v) w' := fun v hv =>
              ⟨MemS hM hrw k2 hl' hbs', hrw, hFq.lose v, by rw [lose_bx]; exact hBq, g', by rw [(put_bx _ _ _ _).1, (put_bx _ _ _ _).2.1, (put_bx _ _ _ _).2.2]; exact k2, (hF.mono k1).put hdst (fun _ => hv) k3 (fun h => absurd trivial h), hl', hbs'⟩
            unfold Oper.wp
            rcases k4 with ⟨z, h1, h2⟩ | ⟨h1, h2⟩
            · rw [h1, Oper.upon_value]; exact ⟨(fin z h2).mem, kk _ _ (fin z h2)⟩
            · rw [h1, Oper.upon_skip]; have := fin undef (by rw [h2]; trivial); exact ⟨this.mem, kk _ _ this⟩
          · split at h
            · rename_i r1 cd1 hq
              injection h with h
              simp only [Prod.mk.injEq] at h
              obtain ⟨rfl, rfl, rfl⟩ := h
              obtain ⟨z, h1, h2⟩ := qop2_sound (P := P) hτ hF HI.br (c := none) trivial hq (gcond_elim hF hc trivial)
              unfold Oper.wp
              rw [h2 w HI.mem, Oper.upon_value]
              exact ⟨hM, kk _ _ ⟨hM, hrw, hFq.lose z, by rw [lose_bx]; exact hBq, g, by rw [(put_bx _ _ _ _).1, (put_bx _ _ _ _).2.1, (put_bx _ _ _ _).2.2]; exact HI, hF.put hdst (fun _ => h1) rfl (fun h => absurd trivial h), hl, hbs⟩⟩
            · cases h
        · cases h
      · rename_i hL
        have hL' : L.contains k = false := by simpa using hL
        -- a quiet operation by what is known for ever
        have quiet : ∀ {r0 : AV} {cd0 : Prop}, qop2 τ sq c o.op = some (r0, cd0) → gcond sq c cd0 → (∀ a w, RelT P w0 N nt gS (sq.put o.dst c r0) (st.put o.dst c r0) a w → wpT P ops Q (Mem gS) L A rest (k + 1) a w) →
            (if Region.wanted o (yielded ops a.tmps) = true then (if L.contains k = true then o.wp P a w (fun a' w' => Mem gS w' ∧ wpT P ops Q (Mem gS) L A rest (k + 1) a' w') NoQ
              else ∃ v, Qr P o a w v ∧ (A.contains k = true → ∀ w', Mem gS w' → Vr P o a w' v) ∧ wpT P ops Q (Mem gS) L A rest (k + 1) (a.put o.dst v) w)
            else wpT P ops Q (Mem gS) L A rest (k + 1) (a.put o.dst undef) w) := by
          intro r0 cd0 hq hc0 kk
          by_cases hw : Region.wanted o (yielded ops a.tmps) = true
          · rw [if_pos hw, if_neg hL]
            obtain ⟨z, h1, h2⟩ := qop2_sound (P := P) hτ hFq hBq ((gdOf_wanted hgd).1 hw) hq (gcond_elim hFq hc0 ((gdOf_wanted hgd).1 hw))
            have hv : ∀ w', Mem gS w' → Vr P o a w' z := h2
            refine ⟨z, (hv w hM).qr, fun _ => hv, kk _ _ ⟨hM, hrw, hFq.put hdst (fun _ => h1) rfl (fun h => absurd ((gdOf_wanted hgd).1 hw) h), by rw [(put_bx _ _ _ _).1]; exact hBq, g, by rw [(put_bx _ _ _ _).1, (put_bx _ _ _ _).2.1, (put_bx _ _ _ _).2.2]; exact HI, hF.put hdst (fun _ => h1.mono hl) rfl (fun h => absurd ((gdOf_wanted hgd).1 hw) h), hl, hbs⟩⟩
          · rw [if_neg hw]
            exact kk _ _ ⟨hM, hrw, hFq.put hdst (fun hg => absurd ((gdOf_wanted hgd).2 hg) hw) rfl (fun _ => rfl), by rw [(put_bx _ _ _ _).1]; exact hBq, g, by rw [(put_bx _ _ _ _).1, (put_bx _ _ _ _).2.1, (put_bx _ _ _ _).2.2]; exact HI, hF.put hdst (fun hg => absurd ((gdOf_wanted hgd).2 hg) hw) rfl (fun _ => rfl), hl, hbs⟩
        split at h
        · split at h
          · rename_i r1 cd1 hq
            injection h with h
            simp only [Prod.mk.injEq] at h
            obtain ⟨rfl, rfl, rfl⟩ := h
            exact quiet (qopA_some hq) hc kk
          · split at h
            · rename_i r1 cd1 hq
              injection h with h
              simp only [Prod.mk.injEq] at h
              obtain ⟨rfl, rfl, rfl⟩ := h
              split at hq
              · rename_i hml
                by_cases hw : Region.wanted o (yielded ops a.tmps) = true
                · rw [if_pos hw, if_neg hL]
                  obtain ⟨z, h1, h2⟩ := qop2_memless (P := P) hτ hF HI.br ((gdOf_wanted hgd).1 hw) hml hq (gcond_elim hF hc ((gdOf_wanted hgd).1 hw))
                  have hv : ∀ w', Mem gS w' → Vr P o a w' z := fun w' _ => h2 w'
                  exact ⟨z, (hv w hM).qr, fun _ => hv, kk _ _ ⟨hM, hrw, hFq.lose z, by rw [lose_bx]; exact hBq, g, by rw [(put_bx _ _ _ _).1, (put_bx _ _ _ _).2.1, (put_bx _ _ _ _).2.2]; exact HI, hF.put hdst (fun _ => h1) rfl (fun h => absurd ((gdOf_wanted hgd).1 hw) h), hl, hbs⟩⟩
                · rw [if_neg hw]
                  exact kk _ _ ⟨hM, hrw, hFq.lose undef, by rw [lose_bx]; exact hBq, g, by rw [(put_bx _ _ _ _).1, (put_bx _ _ _ _).2.1, (put_bx _ _ _ _).2.2]; exact HI, hF.put hdst (fun hg => absurd ((gdOf_wanted hgd).2 hg) hw) rfl (fun _ => rfl), hl, hbs⟩
              · cases hq
            · cases h
        · rename_i hA
          have hA' : A.contains k = false := by simpa using hA
          split at h
          · rename_i st1 r1 cd1 he
            have still : gcond st c cd1 → (∀ a w, RelT P w0 N nt gS (sq.lose o.dst) (st1.put o.dst c r1) a w → wpT P ops Q (Mem gS) L A rest (k + 1) a w) →
                (if Region.wanted o (yielded ops a.tmps) = true then (if L.contains k = true then o.wp P a w (fun a' w' => Mem gS w' ∧ wpT P ops Q (Mem gS) L A rest (k + 1) a' w') NoQ
                  else ∃ v, Qr P o a w v ∧ (A.contains k = true → ∀ w', Mem gS w' → Vr P o a w' v) ∧ wpT P ops Q (Mem gS) L A rest (k + 1) (a.put o.dst v) w)
                else wpT P ops Q (Mem gS) L A rest (k + 1) (a.put o.dst undef) w) := by
              intro hc1 kk
              by_cases hw : Region.wanted o (yielded ops a.tmps) = true
              · rw [if_pos hw, if_neg hL]
                obtain ⟨g', z, k1, k2, k3, k4, k5⟩ := stillE_sound (P := P) hτ hN HI hF ((gdOf_wanted hgd).1 hw) he (gcond_elim hF hc1 ((gdOf_wanted hgd).1 hw))
                refine ⟨z, (show Vr P o a w z from k4).qr, fun h => (by rw [hA'] at h; cases h), kk _ _ ⟨hM, hrw, hFq.lose z, by rw [lose_bx]; exact hBq, g', by rw [(put_bx _ _ _ _).1, (put_bx _ _ _ _).2.1, (put_bx _ _ _ _).2.2]; exact k2, (hF.mono k1.1).put hdst (fun _ => k5) k3 (fun h => absurd ((gdOf_wanted hgd).1 hw) h), hl.trans k1.1, hbs.trans k1.2⟩⟩
              · rw [if_neg hw]
                have hst1 : st1 = st ∨ c = none := by
                  cases c with
                  | none => exact .inr rfl
                  | some q => exact .inl (stillE_st he)
                rcases hst1 with h1 | h1
                · subst h1
                  exact kk _ _ ⟨hM, hrw, hFq.lose undef, by rw [lose_bx]; exact hBq, g, by rw [(put_bx _ _ _ _).1, (put_bx _ _ _ _).2.1, (put_bx _ _ _ _).2.2]; exact HI, hF.put hdst (fun hg => absurd ((gdOf_wanted hgd).2 hg) hw) rfl (fun _ => rfl), hl, hbs⟩
                · subst h1; exact absurd ((gdOf_wanted hgd).2 trivial) hw
            split at h
            · rename_i r' cd' hq
              split at h
              · injection h with h
                simp only [Prod.mk.injEq] at h
                obtain ⟨rfl, rfl, rfl⟩ := h
                exact still hc kk
              · injection h with h
                simp only [Prod.mk.injEq] at h
                obtain ⟨rfl, rfl, rfl⟩ := h
                exact quiet (qopN_some hq) hc kk
            · injection h with h
              simp only [Prod.mk.injEq] at h
              obtain ⟨rfl, rfl, rfl⟩ := h
              exact still hc kk
          · cases h
    · cases h
theorem vrunT_conds {md : Option Nat} {ops : Array Oper} {L A : List Nat} : ∀ (l : List Oper) (k : Nat) (sq st : St) (c : Prop), (vrunT τ md nt ops L A l k sq st c).2.2.1 → c := by
  intro l
  induction l with
  | nil => intro k sq st c h; exact h
  | cons o l ih =>
    intro k sq st c h
    unfold vrunT at h
    split at h
    · exact (ih _ _ _ _ h).1
    · exact h
theorem vrunT_wpT {ops : Array Oper} {Q : Exit → Act → World → Prop} {L A : List Nat} {md : Option Nat} (hτ : τ.ok P) (hN : ∀ q, md = some q → N.bx.length ≤ q) : ∀ (l : List Oper) (k : Nat) (sq st : St) (c c' : Prop) (l' : List Oper) (k' : Nat), vrunT τ md nt ops L A l k sq st c = (sq', st', c', l', k') → c' →
    ∀ (a : Act) (w : World), RelT P w0 N nt gS sq st a w → (∀ a w, RelT P w0 N nt gS sq' st' a w → wpT P ops Q (Mem gS) L A l' k' a w) → wpT P ops Q (Mem gS) L A l k a w := by
  intro l
  induction l with
  | nil => intro k sq st c c' l' k' h _ a w H kk; simp only [vrunT, Prod.mk.injEq] at h; obtain ⟨rfl, rfl, rfl, rfl, rfl⟩ := h; exact kk _ _ H
  | cons o l ih =>
    intro k sq st c c' l' k' h hc a w H kk
    unfold vrunT at h
    split at h
    · rename_i sq1 st1 cd1 hs
      have hc1 : cd1 := by have := vrunT_conds (τ := τ) (nt := nt) (md := md) (ops := ops) (L := L) (A := A) l (k + 1) sq1 st1 (c ∧ cd1); rw [h] at this; exact (this hc).2
      exact vstepT_wpT hτ hN hs hc1 H fun a w H' => ih (k + 1) sq1 st1 _ c' l' k' h hc a w H' kk
    · simp only [Prod.mk.injEq] at h
      obtain ⟨rfl, rfl, rfl, rfl, rfl⟩ := h
      exact kk _ _ H
theorem Inv.loose {bx : List (Ty × AV)} {fz : List Nat} {rw_ : List (TypeId × Nat)} (h : Inv P w0 N g bx fz rw_ w) : Inv P { w with heap := #[] } ⟨fun _ _ => none, [], []⟩ g bx fz rw_ w :=
  ⟨h.mem, ⟨⟨rfl, rfl, rfl, Nat.zero_le _, fun k hk => absurd hk (Nat.not_lt_zero _)⟩, fun _ _ _ _ => .inl (Nat.zero_le _), fun _ _ _ _ _ => .inl (Nat.zero_le _), fun b hb => absurd hb (Nat.not_lt_zero _), ⟨fun _ _ _ h => (by cases h), fun _ _ h => (by cases h), fun _ _ h => (by cases h)⟩⟩, h.br, h.fz, h.wr, h.wz⟩
/-- A region that draws its order. -/
theorem v_draw {id : Nat} {Q : Exit → Act → World → Prop} {l : List Oper} (nb : Nat) (L A : List Nat) (hm : P.follows .mixedOrders = true) (hchk : chk l.toArray (Region.before l.toArray) L A = true) (H : Rel P w0 N nt st a w)
    (hb : (st.bx.take nb).all (fun x => low nb 0 4 x.2) = true)
    (k : ∀ gS, RelT P w0 N nt gS ⟨st.t.filter fun p => low nb 0 4 p.2.2, st.bx.take nb, st.fz, []⟩ st a w.drew → wpT P l.toArray Q (Mem gS) L A l 0 a w.drew) : (Code.region id l.toArray true).wp P Q a w := by
  obtain ⟨g, HI, hF⟩ := H
  have HI' := HI.drew
  have hc := HI'.loose.cut (nr := 0) (Nat.zero_le _) (Nat.zero_le _) hb
  have hgb : ∀ (i : Nat) x, (g.cut nb 0).bx[i]? = some x → g.bx[i]? = some x := fun i x hx => by
    have : (g.bx.take nb)[i]? = some x := hx
    rw [List.getElem?_take] at this
    split at this
    · exact this
    · cases this
  have hle : (g.cut nb 0).le g := ⟨fun _ _ _ h => h, fun i x hx => ⟨x, hgb i x hx, x.same⟩, fun i r hr => by simp [Gh.cut] at hr⟩
  have hbs : Bs (g.cut nb 0) g := fun i x hx => ⟨x, hgb i x hx, rfl, rfl, rfl, rfl, rfl⟩
  have HT : RelT P w0 N nt (g.cut nb 0) ⟨st.t.filter fun p => low nb 0 4 p.2.2, st.bx.take nb, st.fz, []⟩ st a w.drew :=
    ⟨hc.mem, by simp [Gh.cut], ⟨hF.sz, hF.df, fun p hp hg => by
      simp only [List.mem_filter] at hp
      exact (hF.t p hp.1 hg).low_ (d := 3) hp.2, fun p hp hg => hF.u p (List.mem_filter.1 hp).1 hg⟩, hc.br, g, HI', hF, hle, hbs⟩
  exact wp_region_T L A (Mem (g.cut nb 0)) hm hchk HT.mem (k _ HT)
theorem v_drawNil {ops : Array Oper} {Q : Exit → Act → World → Prop} {L A : List Nat} {k : Nat} (H : RelT P w0 N nt gS sq st a w) (h : Rel P w0 N nt st a w → Q .normal a w) : wpT P ops Q (Mem gS) L A [] k a w := by
  obtain ⟨_, _, _, _, g, HI, hF, _⟩ := H
  exact h ⟨g, HI, hF⟩
/-- A call in such a region. -/
theorem v_callT {ops : Array Oper} {Q : Exit → Act → World → Prop} {L A : List Nat} {k : Nat} {rest : List Oper} {o : Oper} {f : FuncId} {xs : List Operand} {ats : Array TypeId} {bxc bx' : List (Ty × AV)} {fzc fz' : List Nat} {rwc rw' : List (TypeId × Nat)} {args : List AV} {res : AV} (js ks : List Nat)
    (hc : VX P f bxc fzc rwc args bx' fz' rw' res) (H : RelT P w0 N nt gS sq st a w) (hL : L.contains k = true) (hjs : js.all (fun j => decide (sq.bx.length ≤ j)) = true)
    (hgd : o.guard = none) (ho : o.op = .call ⟨.value (.func f), xs.toArray, ats⟩) (hchk : (okSel js st.bx.length && okSel ks st.rw.length && usesB js st.bx && fzOk js st.fz fzc 0 && xs.all (fun x => argOk js (st.ev none x)) && uses some 4 res && bx'.all (fun x => uses some 4 x.2) && okDst nt none o.dst) = true)
    (hb : bxs (pickB js ks st.bx) bxc) (hr : ks.filterMap (st.rw[·]?) = rwc) (ha : allP (sub 4) (cargs st js ks xs) args)
    (kk : ∀ a w, RelT P w0 N nt gS (sq.lose o.dst) ((⟨st.t, mergeL st.bx js (renB js ks st.bx.length st.rw.length bx'), st.fz ++ fz'.map (nth js st.bx.length), mergeL st.rw ks rw'⟩ : St).put o.dst none (ren (fun k => some (nth js st.bx.length k)) (fun k => some (nth ks st.rw.length k)) 4 res)) a w → wpT P ops Q (Mem gS) L A rest (k + 1) a w) : wpT P ops Q (Mem gS) L A (o :: rest) k a w := by
  obtain ⟨hfok, hcall⟩ := hc
  obtain ⟨hM, hrw, hFq, hBq, g, HI, hF, hle, hbs⟩ := H
  simp only [Bool.and_eq_true] at hchk
  obtain ⟨⟨⟨⟨⟨⟨⟨c1, c2⟩, c3⟩, c4⟩, c5⟩, c6⟩, c7⟩, c8⟩ := hchk
  obtain ⟨hj, nj⟩ := okSel_ok c1
  obtain ⟨hk, nk⟩ := okSel_ok c2
  obtain ⟨h1, h2⟩ := cargs_ok HI hF hj hk c5 ha
  unfold wpT
  rw [if_pos (by simp [Region.wanted, hgd]), if_pos hL]
  unfold Oper.wp
  rw [run_callF hfok xs ats ho w, Oper.upon_enter]
  have HP : Inv P w (g.pick js ks) (g.pick js ks) bxc fzc rwc w := HI.pick js ks hj hk nj nk (usesB_ok c3) hb (fun i j hi hm => by simpa using fzOk_ok c4 i j hi hm) hr
    ⟨Kept.refl _ _, fun i x hx hxo => .inr ⟨x, hx, hxo, rfl⟩, fun i r k hr hrk => .inr ⟨r, hr, hrk⟩, fun _ _ _ _ => rfl, Gh.le.refl _⟩
  refine (hcall w (g.pick js ks) (xs.map a.eval) HP (by simp [h1]) h2).mono fun e w' hp => ?_
  obtain ⟨g1, v, rfl, HI1, hv⟩ := hp
  obtain ⟨k1, k2, k3, k4⟩ := HI.call HI1 hj hk nj nk (fun x hx => List.all_eq_true.1 c7 x hx)
  have hv' := hv.ren_ (g1 := g1) (g2 := ⟨g1.ro, mergeL g.bx js g1.bx, mergeL g.rw ks g1.rw⟩) (fb := fun k => some (nth js st.bx.length k)) (fr := fun k => some (nth ks st.rw.length k)) (d := 3) rfl (fun i j x hij hx => by injection hij with hij; subst hij; exact k3 i x hx) (fun i j x hij hx => by injection hij with hij; subst hij; exact k4 i x hx) (uses_some c6)
  have hbs' : Bs gS ⟨g1.ro, mergeL g.bx js g1.bx, mergeL g.rw ks g1.rw⟩ := fun i x hx => by
    obtain ⟨y, h3, h4⟩ := hbs i x hx
    refine ⟨y, merge_old (fun hm => ?_) h3, h4⟩
    have h5 := List.all_eq_true.1 hjs i hm
    simp only [decide_eq_true_eq] at h5
    have h6 := (List.getElem?_eq_some_iff.1 hx).1
    rw [hBq.len] at h6; omega
  have hM' := MemS (st := ⟨st.t, mergeL st.bx js (renB js ks st.bx.length st.rw.length bx'), st.fz ++ fz'.map (nth js st.bx.length), mergeL st.rw ks rw'⟩) hM hrw k2 (hle.trans k1) hbs'
  refine ⟨hM', kk _ _ ⟨hM', hrw, hFq.lose v, by rw [lose_bx]; exact hBq, _, ?_, (hF.mono k1).put c8 (fun _ => hv') rfl (fun h => absurd trivial h), hle.trans k1, hbs'⟩⟩
  rw [(put_bx _ _ _ _).1, (put_bx _ _ _ _).2.1, (put_bx _ _ _ _).2.2]
  exact k2
theorem v_moreT {ops : Array Oper} {Q : Exit → Act → World → Prop} {L A : List Nat} {q : Nat} {l l' : List Oper} {k k' : Nat} {c' : Prop} (hτ : τ.ok P) (hN : N.bx.length ≤ q) (H : RelT P w0 N nt gS sq st a w) (h : vrunT τ (some q) nt ops L A l k sq st True = (sq', st', c', l', k')) (hc : c')
    (kk : ∀ a w, RelT P w0 N nt gS sq' st' a w → wpT P ops Q (Mem gS) L A l' k' a w) : wpT P ops Q (Mem gS) L A l k a w :=
  vrunT_wpT hτ (hNq hN) l k sq st True c' l' k' h hc a w H kk
end
end Go.Proofs.Ytigmpdhnhkdeiaa

/- Calls under a guard. -/
namespace Go.Proofs.Ytigmpdhnhkdeiaa
open Go Go.RowKit
/-- What a known state is made plain by. -/

theorem pk : type_of% (And.intro @eq_self.{1} <| And.intro @Bool.not_true <| And.intro @Bool.not_false <| And.intro @cond_true.{1} <| And.intro @cond_false.{1} <| And.intro @List.cons_append.{0} <| And.intro @List.nil_append.{0} <| And.intro @List.append_nil.{0} <| And.intro @List.length_cons.{0} <| And.intro @List.length_nil.{0} <| And.intro @List.length_append.{0} <| And.intro @Nat.zero_add <| And.intro @Nat.add_zero <| And.intro @List.set_cons_zero.{0} <| And.intro @List.set_cons_succ.{0} <| And.intro @List.getElem?_cons_zero.{0} <| And.intro @List.getElem?_cons_succ.{0} <| And.intro @or_self <| And.intro @or_false <| And.intro @false_or <| And.intro @decide_true <| And.intro @decide_false <| And.intro @List.map_cons.{0, 0} <| And.intro @List.map_nil.{0, 0} <| And.intro @Int.toNat_natCast <| And.intro @Option.some.injEq.{0} <| And.intro @List.filter_cons.{0} <| And.intro @List.filter_nil.{0} <| And.intro @List.contains_cons.{0} <| And.intro @List.contains_nil.{0} <| And.intro @Bool.or_self <| And.intro @Bool.or_false <| And.intro @Bool.false_or <| And.intro @Bool.or_true <| And.intro @Bool.true_or <| And.intro @Bool.false_eq_true <| And.intro @List.take_succ_cons.{0} <| And.intro @List.take_zero.{0} <| And.intro @List.take_nil.{0} <| And.intro @rep1 <| And.intro @rep2 <| And.intro @rep3 <| And.intro @rep4 <| And.intro @rep5 <| And.intro @UInt8.ofNat_toNat <| And.intro @wrapu8 <| And.intro @wrapu16 <| And.intro @wrapu32 <| And.intro @wrapu64 <| And.intro @Nat.min_def <| And.intro @sub_refl <| And.intro @List.getD_nil.{0} <| And.intro @List.getD_cons_zero.{0} <| And.intro @List.getD_cons_succ.{0} <| And.intro @List.drop_succ_cons.{0} <| And.intro @List.drop_nil.{0} <| And.intro @Option.bind_some.{0, 0} <| And.intro @Option.bind_none.{0, 0} <| And.intro @Option.getD_some.{0} <| And.intro @Nat.sub_zero <| And.intro @Nat.sub_self <| And.intro @Nat.add_sub_cancel_left <| And.intro @Bool.and_self <| And.intro @Bool.and_true <| And.intro @Bool.true_and <| And.intro @List.all_cons.{0} <| And.intro @List.all_nil.{0} <| And.intro @Option.map_some.{0, 0} <| And.intro @Option.map_none.{0, 0} <| And.intro @Int.toNat_zero <| And.intro @List.drop_zero.{0} <| And.intro @List.take_length.{0} <| And.intro @and_self <| And.intro @and_true <| And.intro @true_and <| @implies_true.{0}) :=
  And.intro @eq_self.{1} <| And.intro @Bool.not_true <| And.intro @Bool.not_false <| And.intro @cond_true.{1} <| And.intro @cond_false.{1} <| And.intro @List.cons_append.{0} <| And.intro @List.nil_append.{0} <| And.intro @List.append_nil.{0} <| And.intro @List.length_cons.{0} <| And.intro @List.length_nil.{0} <| And.intro @List.length_append.{0} <| And.intro @Nat.zero_add <| And.intro @Nat.add_zero <| And.intro @List.set_cons_zero.{0} <| And.intro @List.set_cons_succ.{0} <| And.intro @List.getElem?_cons_zero.{0} <| And.intro @List.getElem?_cons_succ.{0} <| And.intro @or_self <| And.intro @or_false <| And.intro @false_or <| And.intro @decide_true <| And.intro @decide_false <| And.intro @List.map_cons.{0, 0} <| And.intro @List.map_nil.{0, 0} <| And.intro @Int.toNat_natCast <| And.intro @Option.some.injEq.{0} <| And.intro @List.filter_cons.{0} <| And.intro @List.filter_nil.{0} <| And.intro @List.contains_cons.{0} <| And.intro @List.contains_nil.{0} <| And.intro @Bool.or_self <| And.intro @Bool.or_false <| And.intro @Bool.false_or <| And.intro @Bool.or_true <| And.intro @Bool.true_or <| And.intro @Bool.false_eq_true <| And.intro @List.take_succ_cons.{0} <| And.intro @List.take_zero.{0} <| And.intro @List.take_nil.{0} <| And.intro @rep1 <| And.intro @rep2 <| And.intro @rep3 <| And.intro @rep4 <| And.intro @rep5 <| And.intro @UInt8.ofNat_toNat <| And.intro @wrapu8 <| And.intro @wrapu16 <| And.intro @wrapu32 <| And.intro @wrapu64 <| And.intro @Nat.min_def <| And.intro @sub_refl <| And.intro @List.getD_nil.{0} <| And.intro @List.getD_cons_zero.{0} <| And.intro @List.getD_cons_succ.{0} <| And.intro @List.drop_succ_cons.{0} <| And.intro @List.drop_nil.{0} <| And.intro @Option.bind_some.{0, 0} <| And.intro @Option.bind_none.{0, 0} <| And.intro @Option.getD_some.{0} <| And.intro @Nat.sub_zero <| And.intro @Nat.sub_self <| And.intro @Nat.add_sub_cancel_left <| And.intro @Bool.and_self <| And.intro @Bool.and_true <| And.intro @Bool.true_and <| And.intro @List.all_cons.{0} <| And.intro @List.all_nil.{0} <| And.intro @Option.map_some.{0, 0} <| And.intro @Option.map_none.{0, 0} <| And.intro @Int.toNat_zero <| And.intro @List.drop_zero.{0} <| And.intro @List.take_length.{0} <| And.intro @and_self <| And.intro @and_true <| And.intro @true_and <| @implies_true.{0}
theorem cd {c : Prop} (h : c := by ((repeat' (apply And.intro)) <;> first | exact True.intro | assumption | omega | (intro hg; simp at hg; omega) | (intro hg; simp at hg; (repeat' (apply And.intro)) <;> first | omega | (simp; omega)) | (simp; done) | (simp; omega) | (simp [ilo, ihi, IntKind.bits]; omega) | (simp [fit, AV.put]; done) | (simp [fit, AV.put]; omega))) : c := h
section
variable {P : Program} {τ : Tab} {w0 w : World} {N : Gh} {g gS : Gh} {st st' sq sq' : St} {nt : Nat} {a : Act}
def cargsG (st : St) (c : Gd) (js ks : List Nat) (xs : List Operand) : List AV := xs.map fun x => ren (idx? js) (idx? ks) 4 (st.ev c x)
end
end Go.Proofs.Ytigmpdhnhkdeiaa

/- Guards that are known to hold; pointers to what changes no more. -/
namespace Go.Proofs.Ytigmpdhnhkdeiaa
open Go Go.RowKit
section
variable {P : Program} {τ : Tab} {w0 w : World} {N : Gh} {g gS : Gh} {st st' sq sq' : St} {nt : Nat} {a : Act}
theorem v_guard {ops : Array Oper} {Q : Exit → Act → World → Prop} {rest : List Oper} {o : Oper} {t : Nat} {b : Bool} (H : Rel P w0 N nt st a w) (hgd : gdOf ops o = some (some (t, b))) (hk : st.tmp none t = .v (.bool b))
    (h : wpList P ops Q ({ o with guard := none } :: rest) a w) : wpList P ops Q (o :: rest) a w := by
  obtain ⟨g, HI, hF⟩ := H
  have h1 := tmp_sound hF (c := none) trivial t
  rw [hk] at h1
  have hw : Region.wanted o (yielded ops a.tmps) = true := (gdOf_wanted hgd).2 h1.v_inv
  obtain ⟨dst, op, ty, pos, after, gd⟩ := o
  unfold wpList at h ⊢
  rw [if_pos hw]
  rw [if_pos (by simp [Region.wanted])] at h
  exact h
theorem cd2 {c : Prop} (h : c := by ((repeat' (apply And.intro)) <;> (intros; first | omega | (simp at *; omega) | (simp_all; done) | (simp_all; omega)))) : c := h
theorem not_wanted {ops : Array Oper} {o : Oper} {t : Nat} {b : Bool} (hF : FR g nt st a) (hgd : gdOf ops o = some (some (t, b))) (hk : st.tmp none t = .v (.bool (!b))) : ¬ Region.wanted o (yielded ops a.tmps) = true := fun hw => by
  have h1 := tmp_sound hF (c := none) trivial t
  rw [hk] at h1
  have h2 : a.tmps.getD t undef = .bool b := (gdOf_wanted hgd).1 hw
  rw [h1.v_inv] at h2
  injection h2 with h2
  cases b <;> cases h2
/-- An operation whose guard is known not to hold: of what it would yield anything may be said. -/
theorem v_skip {ops : Array Oper} {Q : Exit → Act → World → Prop} {rest : List Oper} {o : Oper} {t : Nat} {b : Bool} (r : AV) (H : Rel P w0 N nt st a w) (hgd : gdOf ops o = some (some (t, b))) (hk : st.tmp none t = .v (.bool (!b))) (hd : okDst nt (some (t, b)) o.dst = true)
    (k : ∀ a w, Rel P w0 N nt (st.put o.dst (some (t, b)) r) a w → wpList P ops Q rest a w) : wpList P ops Q (o :: rest) a w := by
  obtain ⟨g, HI, hF⟩ := H
  have hw := not_wanted hF hgd hk
  refine wpList_step fun K hK => ?_
  rw [if_neg hw]
  refine hK _ _ (k _ _ ⟨g, ?_, hF.put hd (fun hg => absurd ((gdOf_wanted hgd).2 hg) hw) rfl (fun _ => rfl)⟩)
  cases o.dst <;> exact HI
/-- A box that changes no more: a pointer to it is one to what stays for ever. -/
theorem v_ref (H : Rel P w0 N nt st a w) (d i : Nat) {T : Ty} {x : AV} (hN : N.bx.length ≤ i) (hb : st.bx[i]? = some (T, x)) (hp : pure_ 4 x = true) (hd : find d st.t = some (none, .ptr i [])) (hTg : T.grows = false := by rfl) :
    Rel P w0 N nt ⟨nilT d (.ref T (strip 4 x)) st.t, st.bx, i :: st.fz, st.rw⟩ a w := by
  obtain ⟨g, HI, hF⟩ := H
  obtain ⟨y, hy, hT, hrc⟩ := HI.br.at_ i T x hb
  obtain ⟨hyo, hym, hrc⟩ := hrc.rc hTg
  obtain ⟨g1, l1, I1, ⟨y', hy', hblk, hcells, hty, _⟩, hro⟩ := HI.freeze hy hyo hym hN
  refine ⟨g1, I1, (hF.mono l1.1).sz, hF.df, fun p hp' hg => ?_, fun p hp hg => by rcases nilT_mem hp with h | h; (subst h; exact absurd trivial hg); exact hF.u p h hg⟩
  rcases nilT_mem hp' with h | h
  · subst h
    have h1 := (hF.t _ (find_mem hd) trivial).ptr_inv
    have hv : a.tmps.getD d undef = .pointer (some ⟨y.blk, 0, none⟩) := by
      generalize a.tmps.getD d undef = u at h1
      cases h1 with
      | ptr h ho =>
        rw [hy] at h
        injection h with h
        subst h
        rw [Ty.loc_nil (Ty.loc_grows ho)] at ho
        simp only [Option.some.injEq, Prod.mk.injEq] at ho
        rw [ho.1]
    have : RV g1 (.ref T (strip 4 x)) (a.tmps.getD d undef) := by
      rw [hv]
      exact (RC.ref (g := g1) y.cells ((hrc.mono l1.1).strip_ hp) (fun j u hu => by rw [Nat.zero_add]; exact hro j u hu)).rvp
    exact this
  · exact (hF.mono l1.1).t p h hg
/-- A window on a whole array of bytes that changes no more: bytes with their room. -/
theorem v_bc (H : Rel P w0 N nt st a w) (d i : Nat) {m n : Nat} {l : List UInt8} (hN : N.bx.length ≤ i) (hb : st.bx[i]? = some (.ba m, .ba l)) (hm : 0 < m) (hd : find d st.t = some (none, .win i [] 0 n)) :
    Rel P w0 N nt ⟨nilT d (.bc l n (some i)) st.t, st.bx, i :: st.fz, st.rw⟩ a w := by
  obtain ⟨g, HI, hF⟩ := H
  obtain ⟨y, hy, hT, hrc⟩ := HI.br.at_ i _ _ hb
  obtain ⟨hyo, hym, hrc⟩ := hrc.rc rfl
  obtain ⟨g1, l1, I1, ⟨y', hy', hblk, hcells, hty, _⟩, hro⟩ := HI.freeze hy hyo hym hN
  have hc : y.cells = l.map B8 ∧ l.length = m := by
    generalize y.cells = cs at hrc
    cases hrc with
    | ba h => exact ⟨rfl, h⟩
  refine ⟨g1, I1, (hF.mono l1.1).sz, hF.df, fun p hp' hg => ?_, fun p hp hg => by rcases nilT_mem hp with h | h; (subst h; exact absurd trivial hg); exact hF.u p h hg⟩
  rcases nilT_mem hp' with h | h
  · subst h
    have h1 := (hF.t _ (find_mem hd) trivial).win_inv
    have : RV g1 (.bc l n (some i)) (a.tmps.getD d undef) := by
      generalize a.tmps.getD d undef = u at h1
      cases h1 with
      | win h ho hn hc2 hm2 hA =>
        rw [hy] at h
        injection h with h
        subst h
        rw [hT] at ho
        simp only [Ty.loc, Option.some.injEq, Prod.mk.injEq, Ty.ba.injEq] at ho
        obtain ⟨rfl, rfl⟩ := ho
        rw [Nat.zero_add] at hn
        subst hn
        rcases hA with hA | hA
        · omega
        · rw [hA]
          have e := RC.bc (g := g1) (l := l) (n := n) (tok := some i) (A := some ⟨y.blk, 0, none⟩) (by rw [hc.2]; exact hc2) (by rw [hc.2]; exact hm2) (.inr ⟨y.blk, 0, rfl, fun j hj => by rw [Nat.zero_add]; exact hro j _ (by rw [hc.1]; simp [hj])⟩)
            (fun k hk => by injection hk with hk; subst hk; exact ⟨y', hy', by rw [hblk], by rw [hty, hT, hc.2]⟩)
          rw [hc.2] at e
          exact e.rvp
    exact this
  · exact (hF.mono l1.1).t p h hg
/-- A few steps. -/
theorem v_some {ops : Array Oper} {Q : Exit → Act → World → Prop} {q : Nat} {o : Oper} {l : List Oper} {c' : Prop} (n : Nat) (hτ : τ.ok P) (hN : N.bx.length ≤ q) (H : Rel P w0 N nt st a w) (h : vrun τ (some q) nt ops ((o :: l).take n) st True = (st', c', [])) (hc : c')
    (k : ∀ a w, Rel P w0 N nt st' a w → wpList P ops Q ((o :: l).drop n) a w) : wpList P ops Q (o :: l) a w := v_steps n hτ hN H h hc k
theorem v_someT {ops : Array Oper} {Q : Exit → Act → World → Prop} {L A : List Nat} {q k k' : Nat} {o : Oper} {l : List Oper} {c' : Prop} (n : Nat) (hτ : τ.ok P) (hN : N.bx.length ≤ q) (H : RelT P w0 N nt gS sq st a w) (h : vrunT τ (some q) nt ops L A ((o :: l).take n) k sq st True = (sq', st', c', [], k')) (hc : c')
    (kk : ∀ a w, RelT P w0 N nt gS sq' st' a w → wpT P ops Q (Mem gS) L A ((o :: l).drop n) k' a w) : wpT P ops Q (Mem gS) L A (o :: l) k a w := by
  have key : ∀ (l1 l2 : List Oper) (k : Nat) (sq st : St) (c : Prop), vrunT τ (some q) nt ops L A l1 k sq st c = (sq', st', c', [], k') → c' → ∀ a w, RelT P w0 N nt gS sq st a w → (∀ a w, RelT P w0 N nt gS sq' st' a w → wpT P ops Q (Mem gS) L A l2 k' a w) → wpT P ops Q (Mem gS) L A (l1 ++ l2) k a w := by
    intro l1 l2
    induction l1 with
    | nil => intro k sq st c h _ a w H kk; simp only [vrunT, Prod.mk.injEq] at h; obtain ⟨rfl, rfl, _, _, rfl⟩ := h; exact kk _ _ H
    | cons o l1 ih =>
      intro k sq st c h hc a w H kk
      unfold vrunT at h
      split at h
      · rename_i sq1 st1 cd1 hs
        have hc1 : cd1 := by have := vrunT_conds (τ := τ) (nt := nt) (md := some q) (ops := ops) (L := L) (A := A) l1 (k + 1) sq1 st1 (c ∧ cd1); rw [h] at this; exact (this hc).2
        exact vstepT_wpT hτ (hNq hN) hs hc1 H fun a w H' => ih (k + 1) sq1 st1 _ h hc a w H' kk
      · simp at h
  have := key ((o :: l).take n) ((o :: l).drop n) k sq st True h hc a w H kk
  rwa [List.take_append_drop] at this
end
section
variable {P : Program} {τ : Tab} {w0 w : World} {N : Gh} {st : St} {nt : Nat} {a : Act}
/-- The same in a box's field. -/
theorem v_nilVB (hτ : τ.ok P) (H : Rel P w0 N nt st a w) (i : Nat) (path : List Nat) (e : Nat) {j : TI} {T : Ty} {x : AV} (hj : Tab.get e τ = some j) (hs : 0 < j.ty.size) (hb : st.bx[i]? = some (T, x)) {o : Nat} (hT : T.loc path = some (o, .sc)) (hx : x.loc path = some (.v (.slice none 0 0))) :
    Rel P w0 N nt ⟨st.t, st.bx.set i (T, x.put path (.vw st.bx.length 0 0)) ++ [(.vc e j.ty, .vc 0 [])], st.fz, st.rw⟩ a w := by
  obtain ⟨g, HI, hF⟩ := H
  obtain ⟨g1, l1, I1, h1⟩ := HI.boxG (x := ⟨0, e, .vc e j.ty, [], false, 0, 0, true, none⟩) (a := .vc 0 []) (w' := w) rfl ⟨rfl, rfl, rfl, Nat.le_refl _, fun _ _ _ => rfl⟩ (fun e => by cases e) (fun _ => rfl) (fun e => by cases e)
    (.inr (.inl ⟨j.ty, 0, [], fun _ => [], [], ⟨_, rfl, rfl⟩, rfl, rfl, rfl, hs, ⟨Nat.zero_le _, fun _ => rfl⟩, rfl, (by show 0 = 0 * _; rw [Nat.zero_mul]), fun u hu => (by cases hu), fun k hk => absurd hk (by simp)⟩))
  have hil : i < st.bx.length := (List.getElem?_eq_some_iff.1 hb).1
  obtain ⟨y, hy, hyT, hbc⟩ := I1.br.at_ i T x (by rw [List.getElem?_append_left hil]; exact hb)
  obtain ⟨hyo, hym, hrc⟩ := hbc.rc (Ty.loc_grows hT)
  obtain ⟨a', ha', pre, mid, post, hcs, hpre, hmid, hput⟩ := hrc.lens hT
  rw [hx] at ha'; injection ha' with ha'; subst ha'
  obtain ⟨_, rfl⟩ := hmid.v_inv
  have hn := hput (.vw st.bx.length 0 0) [.slice none 0 0] (RC.vw h1 rfl (Nat.le_refl _) (Nat.le_refl _) (Nat.zero_le _) fun _ => ⟨rfl, .inl ⟨rfl, rfl⟩⟩)
  rw [← hcs] at hn
  have I2 := I1.re hy (.pl (hyT ▸ hn) hyo hym)
  rw [hyT, List.set_append_left _ _ hil] at I2
  have h9 := hF.mono l1.1
  exact ⟨g1, I2, h9.sz, h9.df, h9.t, h9.u⟩
end
section
variable {P : Program} {τ : Tab} {w0 w : World} {N : Gh} {g gS : Gh} {st st' sq sq' : St} {nt : Nat} {a : Act} {r : AV} {cd : Prop}
end
theorem cb {c : Prop} (h : c := by (simp [pickB, bxs, ren, idx?, sub_refl, sub, allP] <;> omega)) : c := h
end Go.Proofs.Ytigmpdhnhkdeiaa
/- Bits in bytes, the highest first. -/
namespace Go.Proofs.Ytigmpdhnhkdeiaa
open Go Go.RowKit
def b8 (f : Nat → Bool) : UInt8 := (if f 0 then 128 else 0) ||| (if f 1 then 64 else 0) ||| (if f 2 then 32 else 0) ||| (if f 3 then 16 else 0) ||| (if f 4 then 8 else 0) ||| (if f 5 then 4 else 0) ||| (if f 6 then 2 else 0) ||| (if f 7 then 1 else 0)
def bitsB (n : Nat) (f : Nat → Bool) : List UInt8 := (List.range ((n + 7) / 8)).map fun j => b8 fun k => f (8 * j + k)
/-- A bit of a byte. -/
def bitAt (c : UInt8) (m : Nat) : Bool := (c &&& UInt8.ofNat (128 / 2 ^ m)) != 0
end Go.Proofs.Ytigmpdhnhkdeiaa
/- Keys as ways down: bits, how many are shared, what rises. In plain Lean. -/
namespace Go.Proofs.Ytigmpdhnhkdeiaa
open Go Go.RowKit
def bitN (p : List UInt8) (d : Nat) : Bool := bitAt (p.getD (d / 8) 0) (d % 8)
def agree (d : Nat) (p q : List UInt8) : Prop := ∀ t, t < d → bitN p t = bitN q t
theorem agree.symm {d : Nat} {p q : List UInt8} (h : agree d p q) : agree d q p := fun t ht => (h t ht).symm
theorem agree.trans {d : Nat} {p q r : List UInt8} (h : agree d p q) (k : agree d q r) : agree d p r := fun t ht => (h t ht).trans (k t ht)
/-- The lesser key, by bits. -/
def ltB (p q : List UInt8) : Prop := ∃ c, c < 256 ∧ agree c p q ∧ bitN p c = false ∧ bitN q c = true
theorem ltB.trans {p q r : List UInt8} (h : ltB p q) (k : ltB q r) : ltB p r := by
  obtain ⟨c, hc, h1, h2, h3⟩ := h
  obtain ⟨d, hd, k1, k2, k3⟩ := k
  rcases Nat.lt_trichotomy c d with hl | rfl | hg
  · exact ⟨c, hc, fun t ht => (h1 t ht).trans (k1 t (by omega)), h2, (k1 c hl) ▸ h3⟩
  · rw [h3] at k2; cases k2
  · exact ⟨d, hd, fun t ht => (h1 t (by omega)).trans (k1 t ht), (h1 d hg).trans k2, k3⟩
end Go.Proofs.Ytigmpdhnhkdeiaa
/- The marks of a walk: each is a theorem whose hypotheses are proved by tactics of their own. -/
namespace Go.Proofs.Ytigmpdhnhkdeiaa
open Go Go.RowKit
structure Bx9 (p : Prop) : Prop where
  out : p
theorem bx9k {p q : Act → World → Prop} {G2 : Prop} (k : Bx9 G2) {a : Act} {w : World} (H : p a w) (h : G2 = ∀ a w, p a w → q a w := by rfl) : q a w := (h ▸ k.out) a w H
section
variable {P : Program} {w0 w : World} {N gS : Gh} {nt : Nat} {st s2 sq q2 : St} {a : Act}
theorem nfs {s s2 : St} (h : s = s2 := by ((try simp only [List.nil_append, List.cons_append, pk, elemB, St.put, St.ev, St.tmp, St.keep, find, dropT, slots, AV.put, AV.loc, fitI, convI, IntKind.signed, IntKind.bits, strip, St.lose, mergeL, setAll, nth, renB, ren, idx?, sub, allP, low, bnd, Int.reduceEq, Int.reduceMul, Nat.reduceAdd, Nat.reduceLT, reduceIte, reduceCtorEq, Nat.reduceEqDiff, Nat.reduceLeDiff, Nat.reduceBEq, Int.reducePow, Int.reduceToNat]); (try (simp only [hX]; try simp only [List.nil_append, List.cons_append, pk, elemB, St.put, St.ev, St.tmp, St.keep, find, dropT, slots, AV.put, AV.loc, fitI, convI, IntKind.signed, IntKind.bits, strip, St.lose, mergeL, setAll, nth, renB, ren, idx?, sub, allP, low, bnd, Int.reduceEq, Int.reduceMul, Nat.reduceAdd, Nat.reduceLT, reduceIte, reduceCtorEq, Nat.reduceEqDiff, Nat.reduceLeDiff, Nat.reduceBEq, Int.reducePow, Int.reduceToNat])); rfl)) : s = s2 := h
theorem nf (H : Rel P w0 N nt st a w) (h : st = s2 := by exact nfs) : Rel P w0 N nt s2 a w := h ▸ H
theorem ntf (H : RelT P w0 N nt gS sq st a w) (h1 : sq = q2 := by exact nfs) (h : st = s2 := by exact nfs) : RelT P w0 N nt gS q2 s2 a w := h1 ▸ h ▸ H
theorem ctX {c : Prop} (h : c := by ((try simp only [hX]); (try simp only [hY]); (try simp only [List.nil_append, List.cons_append, pk, elemB, St.put, St.ev, St.tmp, St.keep, find, dropT, slots, AV.put, AV.loc, fitI, convI, IntKind.signed, IntKind.bits, strip, St.lose, mergeL, setAll, nth, renB, ren, idx?, sub, allP, low, bnd, Int.reduceEq, Int.reduceMul, Nat.reduceAdd, Nat.reduceLT, reduceIte, reduceCtorEq, Nat.reduceEqDiff, Nat.reduceLeDiff, Nat.reduceBEq, Int.reducePow, Int.reduceToNat, fit, gcond, ilo, ihi]); first | done | exact cd | exact cd2 | skip)) : c := h
theorem cbX {c : Prop} (h : c := by (first | (simp [pickB, bxs, ren, idx?, List.idxOf_cons, sub_refl, sub, allP, hX] <;> omega) | (simp [pickB, bxs, ren, idx?, List.idxOf_cons, sub_refl, sub, allP] <;> omega))) : c := h
theorem cwX {c : Prop} (h : c := by (first | rfl | (simp [hX] <;> omega) | (simp <;> omega))) : c := h
theorem caX {c : Prop} (h : c := by (first | exact trivial | exact ⟨sub_refl _ _, trivial⟩ | exact ⟨sub_refl _ _, sub_refl _ _, trivial⟩ | exact ⟨sub_refl _ _, sub_refl _ _, sub_refl _ _, trivial⟩ | exact ⟨⟨rfl, sub_refl _ _, trivial⟩, sub_refl _ _, trivial⟩ | (simp [cargs, cargsG, St.ev, St.tmp, find, ren, idx?, sub_refl, sub, allP, resv, resC, bss, hX] <;> omega) | (simp [cargs, cargsG, St.ev, St.tmp, find, ren, idx?, sub_refl, sub, allP, resv, resC, bss] <;> omega))) : c := h
theorem mS {G G2 : Prop} (g : G2) (f : Bx9 G2 → G := by (intro kk9; (repeat (first | refine wp_seq ?_ | refine wp_block ?_ | refine wp_skip ?_ | refine wp_exit ?_)); exact kk9.out)) : G := f ⟨g⟩
theorem mW {G G2 : Prop} (g : G2) (f : Bx9 G2 → G := by (intro kk9; (repeat (first | refine wp_seq ?_ | refine wp_block ?_ | refine wp_skip ?_ | refine wp_exit ?_ | ((first | refine v_some 5 tab_ok hN H (by rfl) ctX ?_ | refine v_more tab_ok hN H (by rfl) (by rfl) ctX ?_); intro a w H; replace H := nf H; (try simp only [List.drop_succ_cons, List.drop_zero, List.drop_nil]); try refine wpList_nil ?_) | refine wp_region_lit ?_)); exact bx9k kk9 H)) : G := f ⟨g⟩
theorem mT {G G2 : Prop} (g : G2) (f : Bx9 G2 → G := by (intro kk9; (repeat (refine v_someT 5 tab_ok hN H (by rfl) ctX ?_; intro a w H; replace H := ntf H; simp only [List.drop_succ_cons, List.drop_zero, List.drop_nil])); (refine v_moreT tab_ok hN H (by rfl) ctX ?_; intro a w H; try replace H := ntf H); exact bx9k kk9 H)) : G := f ⟨g⟩
theorem mN {ops : Array Oper} {Q : Exit → Act → World → Prop} {q : Nat} {l : List Oper} {c' : Prop} {st' : St} (n : Nat) (hN : N.bx.length ≤ q) (H : Rel Try.prog w0 N nt st a w) (g : ∀ a w, Rel Try.prog w0 N nt s2 a w → wpList Try.prog ops Q (l.drop n) a w)
    (h : vrun tab (some q) nt ops (l.take n) st True = (st', c', []) := by rfl) (hc : c' := by exact ctX) (hs : st' = s2 := by exact nfs) : wpList Try.prog ops Q l a w := v_steps n tab_ok hN H h hc fun a w H => g a w (hs ▸ H)
theorem mTN {ops : Array Oper} {Q : Exit → Act → World → Prop} {L A : List Nat} {q k k' : Nat} {o : Oper} {l : List Oper} {c' : Prop} {sq' st' : St} (n : Nat) (hN : N.bx.length ≤ q) (H : RelT Try.prog w0 N nt gS sq st a w) (g : ∀ a w, RelT Try.prog w0 N nt gS q2 s2 a w → wpT Try.prog ops Q (Mem gS) L A ((o :: l).drop n) k' a w)
    (h : vrunT tab (some q) nt ops L A ((o :: l).take n) k sq st True = (sq', st', c', [], k') := by rfl) (hc : c' := by exact ctX) (h1 : sq' = q2 := by exact nfs) (hs : st' = s2 := by exact nfs) : wpT Try.prog ops Q (Mem gS) L A (o :: l) k a w := v_someT n tab_ok hN H h hc fun a w H => g a w (h1 ▸ hs ▸ H)
theorem mC {Q : Exit → Act → World → Prop} {c : Operand} {x y : Code} {b : Bool} (H : Rel P w0 N nt st a w) (h1 : b = true → x.wp P Q a w) (h2 : b = false → y.wp P Q a w) (hc : st.ev none c = .v (.bool b) := by rfl) : (Code.cond c x y).wp P Q a w := v_cond H hc h1 h2
theorem mE {f : FuncId} {fn : Func} {c : Code} {bx bx' : List (Ty × AV)} {fz fz' : List Nat} {rw rws : List (TypeId × Nat)} {args : List AV} {res : AV} (hf : P.funcs[f]? = some fn) (h : ∀ (N : Gh) (w0 : World) (a : Act) (w : World), N.bx.length ≤ bx.length → N.rw.length ≤ rw.length → Rel P w0 N fn.ntmps ⟨slots 0 args, bx, fz, rw⟩ a w → c.wp P (bodyPost P fn (VPost P w0 N bx' fz' rws res)) a w)
    (hb : fn.body = some c := by rfl) (hnm : (fn.name == "runtime.NumGoroutine") = false := by kernel_rfl) (hn : args.length ≤ fn.ntmps := by exact Nat.le_of_ble_eq_true rfl) : VX P f bx fz rw args bx' fz' rws res := v_enter hf hb hnm hn h
theorem mK {p q : Nat} (ks : List Nat) (nb nr : Nat) (hN : N.bx.length ≤ p) (hR : N.rw.length ≤ q) (H : Rel P w0 N nt st a w) (h1 : p ≤ nb := by exact Nat.le_of_ble_eq_true rfl) (h2 : q ≤ nr := by exact Nat.le_of_ble_eq_true rfl) (h3 : keepT ks nb nr st.t = true := by rfl) (h4 : (st.bx.take nb).all (fun x => low nb nr 4 x.2) = true := by rfl)
    (hs : st.keep ks nb nr = s2 := by exact nfs) : Rel P w0 N nt s2 a w := hs ▸ H.keep ks nb nr ⟨Nat.le_trans hN h1, Nat.le_trans hR h2⟩ h3 h4
theorem mEnd {fn : Func} {nb nr : Nat} (js ks : List Nat) (rs : List ResultVar) (ress : List AV) (hN : N.bx.length ≤ nb) (hR : N.rw.length ≤ nr) (H : Rel Try.prog w0 N nt st a w) {bx' : List (Ty × AV)} {fz' : List Nat} {rw' : List (TypeId × Nat)} {res : AV} (ht : tupOf ress = res := by rfl) (hr : fn.results = rs.toArray := by rfl)
    (hchk : (okSel js st.bx.length && okSel ks st.rw.length && usesB js st.bx && preOk js nb && preOk ks nr && rs.all (fun x => argOk js (resv tab st x))) = true := by rfl) (hf : fzOk js st.fz fz' 0 = true := by rfl) (hb : bxs (pickB js ks st.bx) bx' := by exact cbX) (hw : ks.filterMap (st.rw[·]?) = rw' := by exact cwX)
    (he : allP (sub 4) (rs.map fun x => ren (idx? js) (idx? ks) 4 (resv tab st x)) ress := by exact caX) : a.defers = [] ∧ ∃ v, (results fn a.tmps).run Try.prog w = .ok v w ∧ VPost Try.prog w0 N bx' fz' rw' res (.returned v) w := v_end js ks tab_ok ⟨hN, hR⟩ hr H hchk hf hb hw he ht
theorem mCall {ops : Array Oper} {Q : Exit → Act → World → Prop} {rest : List Oper} {o : Oper} {f : FuncId} {xs : List Operand} {ats : Array TypeId} {bxc bx' : List (Ty × AV)} {fzc fz' : List Nat} {rwc rw' : List (TypeId × Nat)} {args : List AV} {res : AV} {s2 : St} (js ks : List Nat) (hc : VX P f bxc fzc rwc args bx' fz' rw' res) (H : Rel P w0 N nt st a w) (g : ∀ a w, Rel P w0 N nt s2 a w → wpList P ops Q rest a w)
    (hgd : o.guard = none := by rfl) (ho : o.op = .call ⟨.value (.func f), xs.toArray, ats⟩ := by rfl) (hchk : (okSel js st.bx.length && okSel ks st.rw.length && usesB js st.bx && fzOk js st.fz fzc 0 && xs.all (fun x => argOk js (st.ev none x)) && uses some 4 res && bx'.all (fun x => uses some 4 x.2) && okDst nt none o.dst) = true := by rfl) (hb : bxs (pickB js ks st.bx) bxc := by exact cbX) (hr : ks.filterMap (st.rw[·]?) = rwc := by exact cwX) (ha : allP (sub 4) (cargs st js ks xs) args := by exact caX)
    (hs : (⟨st.t, mergeL st.bx js (renB js ks st.bx.length st.rw.length bx'), st.fz ++ fz'.map (nth js st.bx.length), mergeL st.rw ks rw'⟩ : St).put o.dst none (ren (fun k => some (nth js st.bx.length k)) (fun k => some (nth ks st.rw.length k)) 4 res) = s2 := by exact nfs) : wpList P ops Q (o :: rest) a w := v_call js ks hc H hgd ho hchk hb hr ha fun a w H => g a w (hs ▸ H)
theorem mCallT {ops : Array Oper} {Q : Exit → Act → World → Prop} {rest : List Oper} {o : Oper} {f : FuncId} {xs : List Operand} {ats : Array TypeId} {bxc bx' : List (Ty × AV)} {fzc fz' : List Nat} {rwc rw' : List (TypeId × Nat)} {args : List AV} {res : AV} {s2 : St} {L A : List Nat} {k : Nat} (js ks : List Nat) (hc : VX P f bxc fzc rwc args bx' fz' rw' res) (H : RelT P w0 N nt gS sq st a w) (g : ∀ a w, RelT P w0 N nt gS q2 s2 a w → wpT P ops Q (Mem gS) L A rest (k + 1) a w) (hL : L.contains k = true := by rfl) (hjs : js.all (fun j => decide (sq.bx.length ≤ j)) = true := by rfl)
    (hgd : o.guard = none := by rfl) (ho : o.op = .call ⟨.value (.func f), xs.toArray, ats⟩ := by rfl) (hchk : (okSel js st.bx.length && okSel ks st.rw.length && usesB js st.bx && fzOk js st.fz fzc 0 && xs.all (fun x => argOk js (st.ev none x)) && uses some 4 res && bx'.all (fun x => uses some 4 x.2) && okDst nt none o.dst) = true := by rfl) (hb : bxs (pickB js ks st.bx) bxc := by exact cbX) (hr : ks.filterMap (st.rw[·]?) = rwc := by exact cwX) (ha : allP (sub 4) (cargs st js ks xs) args := by exact caX)
    (h1 : sq.lose o.dst = q2 := by exact nfs) (hs : (⟨st.t, mergeL st.bx js (renB js ks st.bx.length st.rw.length bx'), st.fz ++ fz'.map (nth js st.bx.length), mergeL st.rw ks rw'⟩ : St).put o.dst none (ren (fun k => some (nth js st.bx.length k)) (fun k => some (nth ks st.rw.length k)) 4 res) = s2 := by exact nfs) : wpT P ops Q (Mem gS) L A (o :: rest) k a w := v_callT js ks hc H hL hjs hgd ho hchk hb hr ha fun a w H => g a w (h1 ▸ hs ▸ H)
theorem mD {id : Nat} {Q : Exit → Act → World → Prop} {l : List Oper} (nb : Nat) (L A : List Nat) (H : Rel P w0 N nt st a w) (g : ∀ gS, RelT P w0 N nt gS q2 s2 a w.drew → wpT P l.toArray Q (Mem gS) L A l 0 a w.drew) (hm : P.follows .mixedOrders = true := by kernel_rfl) (hchk : chk l.toArray (Region.before l.toArray) L A = true := by kernel_rfl)
    (hb : (st.bx.take nb).all (fun x => low nb 0 4 x.2) = true := by rfl) (h1 : (⟨st.t.filter fun p => low nb 0 4 p.2.2, st.bx.take nb, st.fz, []⟩ : St) = q2 := by exact nfs) (h2 : st = s2 := by exact nfs) : (Code.region id l.toArray true).wp P Q a w := v_draw nb L A hm hchk H hb fun gS H => g gS (h1 ▸ h2 ▸ H)
theorem mSk {ops : Array Oper} {Q : Exit → Act → World → Prop} {rest : List Oper} {o : Oper} {t : Nat} {b : Bool} (r : AV) (H : Rel P w0 N nt st a w) (g : ∀ a w, Rel P w0 N nt s2 a w → wpList P ops Q rest a w) (hgd : gdOf ops o = some (some (t, b)) := by rfl) (hk : st.tmp none t = .v (.bool (!b)) := by rfl) (hd : okDst nt (some (t, b)) o.dst = true := by rfl)
    (hs : st.put o.dst (some (t, b)) r = s2 := by exact nfs) : wpList P ops Q (o :: rest) a w := v_skip r H hgd hk hd fun a w H => g a w (hs ▸ H)
theorem mG {ops : Array Oper} {Q : Exit → Act → World → Prop} {rest : List Oper} {o : Oper} {t : Nat} {b : Bool} (H : Rel P w0 N nt st a w) (h : wpList P ops Q ({ o with guard := none } :: rest) a w) (hgd : gdOf ops o = some (some (t, b)) := by rfl) (hk : st.tmp none t = .v (.bool b) := by rfl) : wpList P ops Q (o :: rest) a w := v_guard H hgd hk h
end
end Go.Proofs.Ytigmpdhnhkdeiaa
/- Bytes put one behind the other. -/
namespace Go.Proofs.Ytigmpdhnhkdeiaa
open Go Go.RowKit
theorem bss_len (ls : List (List UInt8)) : (bss ls).length = ls.length := by simp [bss]
theorem bss_get (ls : List (List UInt8)) (k : Nat) (hk : k < ls.length) : (bss ls).getD k .any = .bs ls[k] none := by simp [bss, List.getD, hk]
end Go.Proofs.Ytigmpdhnhkdeiaa
/- The texts of the digests. -/
namespace Go.Proofs.Ytigmpdhnhkdeiaa
open Go Go.RowKit
end Go.Proofs.Ytigmpdhnhkdeiaa
/- The program's SHA-256, byte by byte. -/
namespace Go.Proofs.Ytigmpdhnhkdeiaa
open Go Go.RowKit

end Go.Proofs.Ytigmpdhnhkdeiaa
/- Numbers as bytes. -/
namespace Go.Proofs.Ytigmpdhnhkdeiaa
open Go Go.RowKit

/-- The state after a text. -/
structure Good (l : List UInt8) (s : S8) (b : List UInt8) (n : Nat) : Prop where
  bl : b.length = 64
  nn : n = l.length % 64
  ss : s = steps h0 (l.length / 64) l
  bb : b.take n = l.drop (64 * (l.length / 64))
theorem Good.lt {l : List UInt8} {s : S8} {b : List UInt8} {n : Nat} (h : Good l s b n) : n < 64 := by rw [h.nn]; exact Nat.mod_lt _ (by decide)
end Go.Proofs.Ytigmpdhnhkdeiaa
/- The program's SHA-256 of a text. -/
namespace Go.Proofs.Ytigmpdhnhkdeiaa
open Go Go.RowKit
end Go.Proofs.Ytigmpdhnhkdeiaa
/- Digests: SHA-256 of a text; of a byte and parts. -/
namespace Go.Proofs.Ytigmpdhnhkdeiaa
open Go Go.RowKit
end Go.Proofs.Ytigmpdhnhkdeiaa
/- Nodes of the program: checked, written, read; digests. -/
namespace Go.Proofs.Ytigmpdhnhkdeiaa
open Go Go.RowKit
structure Nd where
  k : UInt8
  key : List UInt8
  v : List UInt8
  l : List UInt8
  r : List UInt8
  deriving DecidableEq
def z32 : List UInt8 := List.replicate 32 0
theorem hz : List.replicate 32 (0 : UInt8) = z32 := rfl
structure Nd.wf (n : Nd) : Prop where
  key : n.key.length = 32
  v : n.v.length = 32
  l : n.l.length = 32
  r : n.r.length = 32
def Nd.av (n : Nd) : AV := .st [.v (B8 n.k), .ba n.key, .ba n.v, .ba n.l, .ba n.r]
def Nd.zero : Nd := ⟨0, z32, z32, z32, z32⟩
/-- What a node is but for what its kind does not bear. -/
def Nd.bare (n : Nd) : Nd := if n.k = 1 then ⟨1, n.key, n.v, z32, z32⟩ else if n.k = 2 then ⟨2, z32, z32, n.l, n.r⟩ else .zero
def Nd.ok (n : Nd) : Prop := n = n.bare
instance (n : Nd) : Decidable n.ok := inferInstanceAs (Decidable (n = n.bare))
def Nd.text (n : Nd) : List UInt8 := if n.k = 1 then 1 :: (n.key ++ n.v) else if n.k = 2 then 2 :: (n.l ++ n.r) else [0]
abbrev errv (n : Int) : AV := .v (.int .i64 n)
theorem same_v (l m : List UInt8) : VC Try.prog 19 [.bs l none, .bs m none] [] (.v (.bool (l == m))) := by
  refine v_enter Try.func19 rfl (by kernel_rfl) (by show 2 ≤ 10; decide) ?_
  intro N w0 a w hN hR H
  have hX := @strOf_list
  refine mW ?_; clear H; intro a w H
  refine wp_ret ?_; exact mEnd [] [] [.tmp 4] [_] hN hR H
end Go.Proofs.Ytigmpdhnhkdeiaa
/- octet.Compare: byte by byte. -/
namespace Go.Proofs.Ytigmpdhnhkdeiaa
open Go Go.RowKit
set_option maxHeartbeats 1000000 in
set_option maxRecDepth 100000 in
theorem cmp_any (a b : ByteArray) (w : World) : Calls Try.prog 221 #[.string a, .string b] w fun e w' => e = .returned (.int .i64 (Lib.compareBytes a.data.toList b.data.toList)) ∧ w' = w := by
  go_enter Try.func221, Try.ntmps221
  go_wp2
  rw [run_callFunc_extern Try.func272 (by kernel_rfl) (by kernel_rfl) (by kernel_rfl) (e := Extern.BytealgCompare.compare) (by kernel_rfl), Lib.run_compareString]
  simp only [Result.andThen]
  rw [Oper.upon_value]
  go_wp2
  go_ret
  exact ⟨rfl, rfl⟩
theorem cmpS_v (a b : ByteArray) : VC Try.prog 221 [.v (.string a), .v (.string b)] [] (.v (.int .i64 (Lib.compareBytes a.data.toList b.data.toList))) := by
  refine VC.ofA ⟨_, Try.func221, by kernel_rfl, by kernel_rfl⟩ fun w N vs hM hl hv => ?_
  obtain ⟨u, v, rfl, h1, h2⟩ := two (args := []) hl hv
  have e1 := h1.v_inv
  have e2 := h2.v_inv
  subst e1 e2
  refine (cmp_any a b w).mono fun e w' hp => ?_
  obtain ⟨rfl, rfl⟩ := hp
  exact ⟨_, rfl, Below.refl _ _, RV.v_of rfl⟩
end Go.Proofs.Ytigmpdhnhkdeiaa
/- The program's reader of bytes. -/
namespace Go.Proofs.Ytigmpdhnhkdeiaa
open Go Go.RowKit
def rdv (bad : Bool) (l : List UInt8) : AV := .st [.v (.bool true), .v (.bool bad), .bs l none]
abbrev rdT : Ty := .cn .sc (.cn .sc (.cn .sc .nl))
theorem newRd_v (l : List UInt8) (hl : l.length ≤ 34359738000) : VX Try.prog 101 [] [] [] [.bs l none] [(rdT, rdv false l)] [] [] (.ptr 0 []) := by
  refine mE Try.func101 ?_; intro N w0 a w hN hR H
  refine mW ?_; clear H; intro a w H
  have hX := @rdv.eq_1
  refine wp_ret ?_; exact mEnd [0] [] [.tmp 2] [_] hN hR H
theorem good_v (bad : Bool) (l : List UInt8) : VX Try.prog 167 [(rdT, rdv bad l)] [] [] [.ptr 0 []] [(rdT, rdv bad l)] [] [] (.v (.bool (!bad))) := by
  refine mE Try.func167 ?_; intro N w0 a w hN hR H
  simp only [rdv] at H
  refine mW ?_; clear H; intro a w H
  have hX := @rdv.eq_1
  refine wp_ret ?_; exact mEnd [0] [] [.tmp 2] [_] hN hR H
theorem bad_v (bad : Bool) (l : List UInt8) : VX Try.prog 103 [(rdT, rdv bad l)] [] [] [.ptr 0 []] [(rdT, rdv bad l)] [] [] (.v (.bool bad)) := by
  refine mE Try.func103 ?_; intro N w0 a w hN hR H
  simp only [rdv] at H
  refine mW ?_; clear H; intro a w H
  have hX := @rdv.eq_1
  refine wp_ret ?_; exact mEnd [0] [] [.tmp 2] [_] hN hR H
theorem left_v (bad : Bool) (l : List UInt8) : VX Try.prog 106 [(rdT, rdv bad l)] [] [] [.ptr 0 []] [(rdT, rdv bad l)] [] [] (.v (.int .i64 (if bad then 0 else (l.length : Int)))) := by
  have hg := good_v bad l
  refine mE Try.func106 ?_; intro N w0 a w hN hR H
  simp only [rdv] at H hg
  refine mW ?_; clear H; intro a w H
  refine mCall [0] [] (hg) H ?_; clear H; intro a w H; try refine wpList_nil ?_
  refine mW ?_; clear H; intro a w H
  cases bad
  · refine mC H (fun hb => ?_) (fun hb => ?_)
    · simp at hb
    · refine mW ?_; clear H; intro a w H
      have hX := @rdv.eq_1
      refine wp_ret ?_; exact mEnd [0] [] [.tmp 2] [_] hN hR H
  · refine mC H (fun hb => ?_) (fun hb => ?_)
    · refine mW ?_; clear H; intro a w H
      have hX := @rdv.eq_1
      refine wp_ret ?_; exact mEnd [0] [] [.tmp 2] [_] hN hR H
    · simp at hb
theorem take_ok (l : List UInt8) (n : Nat) (hn : n ≤ l.length) (hl : l.length ≤ 34359738000) : VX Try.prog 104 [(rdT, rdv false l)] [] [] [.ptr 0 [], .v (.int .i64 (n : Int))] [(rdT, rdv false (l.drop n))] [] [(5, n)] (.bs (l.take n) (some 0)) := by
  have hg := good_v false l
  have ht : (l.take n).length = n := by rw [List.length_take]; omega
  refine mE Try.func104 ?_; intro N w0 a w hN hR H
  simp only [rdv] at H hg
  refine mW ?_; clear H; intro a w H
  refine mCall [0] [] (hg) H ?_; clear H; intro a w H; try refine wpList_nil ?_
  refine mW ?_; clear H; intro a w H
  refine mC H (fun hb => ?_) (fun hb => ?_)
  · simp at hb
  · refine mW ?_; clear H; intro a w H
    refine mC H (fun hb => ?_) (fun hb => ?_)
    · exfalso; simp at hb; omega
    · have hX := @ht
      refine mW ?_; clear H; intro a w H
      clear hX; have hX := And.intro @rdv.eq_1 (@ht)
      refine wp_ret ?_; exact mEnd [0] [0] [.tmp 4] [_] hN hR H
theorem take_was (l : List UInt8) (n : Int) : VX Try.prog 104 [(rdT, rdv true l)] [] [] [.ptr 0 [], .v (.int .i64 n)] [(rdT, rdv true l)] [] [] (.v (.slice none 0 0)) := by
  have hg := good_v true l
  refine mE Try.func104 ?_; intro N w0 a w hN hR H
  simp only [rdv] at H hg
  refine mW ?_; clear H; intro a w H
  refine mCall [0] [] (hg) H ?_; clear H; intro a w H; try refine wpList_nil ?_
  refine mW ?_; clear H; intro a w H
  refine mC H (fun hb => ?_) (fun hb => ?_)
  · refine mW ?_; clear H; intro a w H
    have hX := @rdv.eq_1
    refine wp_ret ?_; exact mEnd [0] [] [.tmp 4] [_] hN hR H
  · simp at hb
theorem take_bad (l : List UInt8) (n : Nat) (hn : l.length < n) : VX Try.prog 104 [(rdT, rdv false l)] [] [] [.ptr 0 [], .v (.int .i64 (n : Int))] [(rdT, rdv true l)] [] [] (.v (.slice none 0 0)) := by
  have hg := good_v false l
  refine mE Try.func104 ?_; intro N w0 a w hN hR H
  simp only [rdv] at H hg
  refine mW ?_; clear H; intro a w H
  refine mCall [0] [] (hg) H ?_; clear H; intro a w H; try refine wpList_nil ?_
  refine mW ?_; clear H; intro a w H
  refine mC H (fun hb => ?_) (fun hb => ?_)
  · simp at hb
  · refine mW ?_; clear H; intro a w H
    refine mC H (fun hb => ?_) (fun hb => ?_)
    · refine mW ?_; clear H; intro a w H
      have hX := @rdv.eq_1
      refine wp_ret ?_; exact mEnd [0] [] [.tmp 4] [_] hN hR H
    · exfalso; simp at hb; omega
end Go.Proofs.Ytigmpdhnhkdeiaa
/- octet.Compare, numbers as two bytes. -/
namespace Go.Proofs.Ytigmpdhnhkdeiaa
open Go Go.RowKit
theorem cmpT_v (x y : ByteArray) : VC Try.prog 170 [.v (.string x), .v (.string y)] [] (.v (.int .i64 (Lib.compareBytes x.data.toList y.data.toList))) := by
  refine mE Try.func170 ?_; intro N w0 a w hN hR H
  refine mW ?_; clear H; intro a w H
  refine mCall [] [] (cmpS_v x y) H ?_; clear H; intro a w H; try refine wpList_nil ?_
  refine mW ?_; clear H; intro a w H
  refine wp_ret ?_; exact mEnd [] [] [.tmp 4] [_] hN hR H
theorem compare_v (x y : List UInt8) : VC Try.prog 107 [.bs x none, .bs y none] [] (.v (.int .i64 (Lib.compareBytes x y))) := by
  have h := cmpT_v (strOf x) (strOf y)
  have e1 : (strOf x).data.toList = x := rfl
  have e2 : (strOf y).data.toList = y := rfl
  rw [e1, e2] at h
  refine mE Try.func107 ?_; intro N w0 a w hN hR H
  refine mW ?_; clear H; intro a w H
  refine mCall [] [] (h) H ?_; clear H; intro a w H; try refine wpList_nil ?_
  refine mW ?_; clear H; intro a w H
  refine wp_ret ?_; exact mEnd [] [] [.tmp 4] [_] hN hR H
theorem put16_v (n : Nat) (hn : n ≤ 65535) : VC Try.prog 98 [.v (.int .i64 (n : Int))] [(5, 2)] (.tup [.bs [UInt8.ofNat (n / 256), UInt8.ofNat n] (some 0), errv 0]) := by
  have e3 := u8n n 256; have e4 := u8m n
  simp only [Int.cast_ofNat_Int] at e3 e4
  refine mE Try.func98 ?_; intro N w0 a w hN hR H
  refine mW ?_; clear H; intro a w H
  refine mC H (fun hb => ?_) (fun hb => ?_)
  · exfalso; simp at hb; omega
  · refine mW ?_; clear H; intro a w H
    rw [e3, e4] at H
    refine wp_ret ?_; exact mEnd [] [0] [.tmp 2, .tmp 3] [_, _] hN hR H
theorem or8 (x : Nat) (hx : x < 16777216) (c : Nat) (hc : c < 256) : bits .or .i64 (IntKind.i64.wrap ((x : Int) * 256)) (c : Int) = ((256 * x + c : Nat) : Int) := by
  have h1 : IntKind.i64.wrap ((x : Int) * 256) = ((256 * x : Nat) : Int) := by rw [IntKind.wrap_i64]; omega
  have o : 256 * x ||| c = 256 * x + c := by
    have := Nat.two_pow_add_eq_or_of_lt (i := 8) hc x
    simpa using this.symm
  have e : ∀ y : Nat, y < 4294967296 → (BitVec.ofInt 64 (y : Int)).toNat = y := fun y hy => by
    rw [BitVec.ofInt_natCast, BitVec.toNat_ofNat]; exact Nat.mod_eq_of_lt (by omega)
  rw [h1]
  show IntKind.i64.wrap ((BitVec.ofInt 64 ((256 * x : Nat) : Int) ||| BitVec.ofInt 64 (c : Int)).toNat : Int) = _
  rw [BitVec.toNat_or, e _ (by omega), e _ (by omega), o, IntKind.wrap_i64]
  omega
/-- A number, the highest byte first. -/
def num : Nat → List UInt8 → Nat
  | x, [] => x
  | x, b :: l => num (256 * x + b.toNat) l
theorem num_append (x : Nat) (l m : List UInt8) : num x (l ++ m) = num (num x l) m := by
  induction l generalizing x with
  | nil => rfl
  | cons b l ih => exact ih _
theorem num_lt : ∀ (l : List UInt8) (x : Nat), num x l < 256 ^ l.length * (x + 1)
  | [], x => by simp [num]
  | b :: l, x => by
    have h := num_lt l (256 * x + b.toNat)
    have hb := b.toNat_lt
    simp only [num, List.length_cons, Nat.pow_succ]
    refine Nat.lt_of_lt_of_le h ?_
    rw [Nat.mul_assoc]
    exact Nat.mul_le_mul_left _ (by omega)
theorem num2_lt (l : List UInt8) (h : l.length = 2) : num 0 l < 65536 := by
  match l, h with
  | [a, b], _ =>
    have := a.toNat_lt; have := b.toNat_lt
    simp only [num]; omega
theorem number_ok (l : List UInt8) (n : Nat) (hn : n ≤ l.length) (h4 : n ≤ 4) (hl : l.length ≤ 34359738000) : VX Try.prog 166 [(rdT, rdv false l)] [] [] [.ptr 0 [], .v (.int .i64 (n : Int))] [(rdT, rdv false (l.drop n))] [] [] (.v (.int .i64 ((num 0 (l.take n) : Nat) : Int))) := by
  have ht := take_ok l n hn hl
  have hln : (l.take n).length = n := by rw [List.length_take]; omega
  refine mE Try.func166 ?_; intro N w0 a w hN hR H
  simp only [rdv] at H ht
  refine mW ?_; clear H; intro a w H
  refine mCall [0] [] (ht) H ?_; clear H; intro a w H; try refine wpList_nil ?_
  refine mW ?_; clear H; intro a w H
  refine v_loop (fun k : Nat => ⟨[(12, none, .v (.int .i64 (k : Int))), (11, none, .v (.int .i64 (n : Int))), (10, none, .bs (l.take n) (some 0)), (5, none, .v (.int .i64 ((num 0 ((l.take n).take k) : Nat) : Int)))], [(rdT, .st [.v (.bool true), .v (.bool false), .bs (l.drop n) none])], [], [(5, n)]⟩) (fun k => k ≤ n) (fun k => n - k) 0 (Nat.zero_le _) (H.to 1 1 ⟨hN, Nat.le_trans hR (by decide)⟩ ⟨rfl, by rw [hln]; rfl, rfl, rfl, trivial⟩ rfl rfl rfl rfl rfl) ?_
  clear H
  intro k a w hk H
  refine mW ?_; clear H; intro a w H
  refine mC H (fun hb => ?_) (fun hb => ?_)
  · have hlt : k < n := by simpa using hb
    have hlt' : k < (l.take n).length := by omega
    have h8 := ((l.take n).getD k 0).toNat_lt
    refine mW ?_; clear H; intro a w H
    have hx : num 0 ((l.take n).take k) < 16777216 := by
      have h1 := num_lt ((l.take n).take k) 0
      rw [List.length_take, Nat.min_eq_left (by omega)] at h1
      have h2 : (256 : Nat) ^ k ≤ 256 ^ 3 := Nat.pow_le_pow_right (by decide) (by omega)
      omega
    have hnx : num 0 ((l.take n).take (k + 1)) = 256 * num 0 ((l.take n).take k) + ((l.take n).getD k 0).toNat := by
      rw [List.take_succ_eq_append_getElem hlt', num_append, ← List.getElem_eq_getD (h := hlt') 0]
      rfl
    rw [or8 _ hx _ h8, ← hnx] at H
    exact ⟨k + 1, hlt, by omega, H.to 1 1 ⟨hN, Nat.le_trans hR (by decide)⟩ ⟨rfl, rfl, rfl, rfl, trivial⟩ rfl rfl rfl rfl rfl⟩
  · have hge : k = n := by simp at hb; omega
    subst hge
    rw [List.take_take, Nat.min_self] at H
    refine mW ?_; clear H; intro a w H
    have hX := @rdv.eq_1
    refine wp_ret ?_; exact mEnd [0] [] [.tmp 4] [_] hN hR H
theorem number_bad (l : List UInt8) (n : Nat) (hn : l.length < n) : VX Try.prog 166 [(rdT, rdv false l)] [] [] [.ptr 0 [], .v (.int .i64 (n : Int))] [(rdT, rdv true l)] [] [] (.v (.int .i64 0)) := by
  have ht := take_bad l n hn
  refine mE Try.func166 ?_; intro N w0 a w hN hR H
  simp only [rdv] at H ht
  refine mW ?_; clear H; intro a w H
  refine mCall [0] [] (ht) H ?_; clear H; intro a w H; try refine wpList_nil ?_
  refine mW ?_; clear H; intro a w H
  refine v_loop (fun k : Nat => ⟨[(12, none, .v (.int .i64 (k : Int))), (11, none, .v (.int .i64 0)), (5, none, .v (.int .i64 0))], [(rdT, .st [.v (.bool true), .v (.bool true), .bs l none])], [], []⟩) (fun k => k = 0) (fun k => k) 0 rfl (H.to 1 0 ⟨hN, hR⟩ ⟨rfl, rfl, rfl, trivial⟩ rfl rfl rfl rfl rfl) ?_
  clear H
  intro k a w hk H
  subst hk
  refine mW ?_; clear H; intro a w H
  refine mC H (fun hb => ?_) (fun hb => ?_)
  · simp at hb
  · refine mW ?_; clear H; intro a w H
    have hX := @rdv.eq_1
    refine wp_ret ?_; exact mEnd [0] [] [.tmp 4] [_] hN hR H
theorem u16_ok (l : List UInt8) (hn : 2 ≤ l.length) (hl : l.length ≤ 34359738000) : VX Try.prog 102 [(rdT, rdv false l)] [] [] [.ptr 0 []] [(rdT, rdv false (l.drop 2))] [] [] (.v (.int .i64 ((num 0 (l.take 2) : Nat) : Int))) := by
  have hb := num2_lt (l.take 2) (by rw [List.length_take]; omega)
  have ht := number_ok l 2 hn (by decide) hl
  refine mE Try.func102 ?_; intro N w0 a w hN hR H
  simp only [rdv] at H ht
  refine mW ?_; clear H; intro a w H
  refine mCall [0] [] (ht) H ?_; clear H; intro a w H; try refine wpList_nil ?_
  refine mW ?_; clear H; intro a w H
  have hX := @rdv.eq_1
  refine wp_ret ?_; exact mEnd [0] [] [.tmp 2] [_] hN hR H
theorem u16_bad (l : List UInt8) (hn : l.length < 2) : VX Try.prog 102 [(rdT, rdv false l)] [] [] [.ptr 0 []] [(rdT, rdv true l)] [] [] (.v (.int .i64 0)) := by
  have ht := number_bad l 2 hn
  refine mE Try.func102 ?_; intro N w0 a w hN hR H
  simp only [rdv] at H ht
  refine mW ?_; clear H; intro a w H
  refine mCall [0] [] (ht) H ?_; clear H; intro a w H; try refine wpList_nil ?_
  refine mW ?_; clear H; intro a w H
  have hX := @rdv.eq_1
  refine wp_ret ?_; exact mEnd [0] [] [.tmp 2] [_] hN hR H
end Go.Proofs.Ytigmpdhnhkdeiaa
/- Keys as ways down: the program's and the document's functions. -/
namespace Go.Proofs.Ytigmpdhnhkdeiaa
open Go Go.RowKit
end Go.Proofs.Ytigmpdhnhkdeiaa
/- Keys from a depth on: path.First, path.Last, path.Flip. -/
namespace Go.Proofs.Ytigmpdhnhkdeiaa
open Go Go.RowKit
end Go.Proofs.Ytigmpdhnhkdeiaa
/- A region that draws its order, in which one loud operation (new memory) may come up before or behind another one (a call): both are walked. -/
namespace Go.Proofs.Ytigmpdhnhkdeiaa
open Go
section
variable {P : Program} {ops : Array Oper} {Q : Exit → Act → World → Prop} {S : World → Prop} {L A : List Nat} {c f : Nat}
theorem unlisted {listed : Array Bool} {k : Nat} (h : k ∈ Region.ready .any ops listed) : listed.getD k false ≠ true := by
  obtain ⟨h1, _⟩ := mem_ready.1 h
  intro h2
  rcases Nat.lt_or_ge k listed.size with h' | h'
  · simp [h'] at h1 h2; rw [h1] at h2; cases h2
  · simp [Array.getElem?_eq_none h'] at h1
/-- Which operations are listed: those below k; f besides. -/
def Upto (n : Nat) (k : Nat) (x : Bool) (f : Nat) (listed : Array Bool) : Prop := listed.size = n ∧ ∀ i, i < n → ∀ d, listed.getD i d = (decide (i < k) || (x && i == f))
theorem Upto.set {n k f : Nat} {x : Bool} {listed : Array Bool} (h : Upto n k x f listed) (hk : k < n) : Upto n (k + 1) x f (listed.setIfInBounds k true) := by
  refine ⟨by simpa using h.1, fun i hi d => ?_⟩
  by_cases hik : k = i
  · subst hik; simp [h.1, hk]
  · rw [getD_set_ne d hik, h.2 i hi d]
    congr 1
    simp; omega
theorem Upto.down {n k f : Nat} {x : Bool} {listed : Array Bool} (hn : n = ops.size) (h : Upto n k x f listed) (he : ∀ (j : Nat) (o : Oper), ops[j]? = some o → ∀ e ∈ o.after, Region.binds .any e = true → e.on < j)
    (hfe : x = true → ∀ o, ops[f]? = some o → ∀ e ∈ o.after, Region.binds .any e = true → e.on < k) : Down ops listed := by
  intro j o hj hl e hm hb
  have hjlt := (Array.getElem?_eq_some_iff.1 hj).1
  rw [h.2 j (by omega) false] at hl
  have h1 := he j o hj e hm hb
  rw [h.2 e.on (by omega) false]
  simp only [Bool.or_eq_true, decide_eq_true_eq, Bool.and_eq_true, beq_iff_eq] at hl ⊢
  rcases hl with hl | ⟨hx, rfl⟩
  · exact .inl (by omega)
  · exact .inl (hfe hx o hj e hm hb)
theorem tAny_nil {listed : Array Bool} {a : Act} {w : World} (h : ∀ i, i < ops.size → ∀ d, listed.getD i d = true) (hQ : Q .normal a w) : tAny P ops Q S L A 0 listed a w := by
  refine ⟨?_, hQ⟩
  rw [List.eq_nil_iff_forall_not_mem]
  intro j hj
  obtain ⟨hju, o, ho, _⟩ := mem_ready.1 hj
  rw [h j (Array.getElem?_eq_some_iff.1 ho).1 true] at hju
  cases hju
end
section
variable {P : Program} {τ : Tab} {w0 w : World} {N : Gh} {g gS : Gh} {st st' sq sq' : St} {nt : Nat} {a : Act}
/-- Only boxes that are there may be frozen. -/
theorem v_fz (H : Rel P w0 N nt st a w) : Rel P w0 N nt ⟨st.t, st.bx, st.fz.filter fun i => decide (i < st.bx.length), st.rw⟩ a w := by
  obtain ⟨g, HI, hF⟩ := H
  refine ⟨g, ⟨HI.mem, HI.fr, HI.br, fun i x hx hf => ?_, HI.wr, HI.wz⟩, ⟨hF.sz, hF.df, hF.t, hF.u⟩⟩
  have h1 := HI.fz i x hx hf
  have h2 := (List.getElem?_eq_some_iff.1 hx).1
  rw [HI.br.len] at h2
  simp only [List.mem_filter, decide_eq_true_eq]
  exact ⟨h1, h2⟩
/-- A slot seen as something that says less. -/
theorem v_sub (H : Rel P w0 N nt st a w) (d : Nat) {x y : AV} (hs : sub 4 x y) (hx : isAny x = false) (ht : ∀ az, x ≠ .tup az) (hd : find d st.t = some (none, x)) : Rel P w0 N nt ⟨nilT d y st.t, st.bx, st.fz, st.rw⟩ a w := by
  obtain ⟨g, HI, hF⟩ := H
  refine ⟨g, HI, hF.sz, hF.df, fun p hp hg => ?_, fun p hp hg => by rcases nilT_mem hp with h | h; (subst h; exact absurd trivial hg); exact hF.u p h hg⟩
  rcases nilT_mem hp with h | h
  · subst h
    have h1 : RV g x (a.tmps.getD d undef) := hF.t _ (find_mem hd) trivial
    exact ((h1.rv1 hx ht).sub_ hs).rv
  · exact hF.t p h hg
theorem RelT.toRel (H : RelT P w0 N nt gS sq st a w) : Rel P w0 N nt st a w := by
  obtain ⟨_, _, _, _, g, HI, hF, _⟩ := H
  exact ⟨g, HI, hF⟩
end
end Go.Proofs.Ytigmpdhnhkdeiaa
/- Rows of slices turned round in place; regions in every order of their loud operations. -/
namespace Go.Proofs.Ytigmpdhnhkdeiaa
open Go Go.RowKit
abbrev OneV := { v : Value // v.oneCell' = true }
instance : Inhabited OneV := ⟨⟨.bool false, rfl⟩⟩
end Go.Proofs.Ytigmpdhnhkdeiaa
namespace Go.Proofs.Ytigmpdhnhkdeiaa
open Go Go.RowKit
/-- Values that lean on no cell but bytes. -/
def leafA : AV → Bool
  | .v _ => true
  | .ba _ => true
  | .bs _ none => true
  | .bc _ _ none => true
  | .ptr _ _ => true
  | .pti _ _ _ => true
  | .win _ _ _ _ => true
  | .vw _ _ _ => true
  | .pv _ _ _ _ => true
  | .mr _ => true
  | .ref (.ba _) (.ba _) => true
  | .any => true
  | _ => false
def plainA : Nat → AV → Bool
  | d + 1, .st fs => fs.all (plainA d)
  | d + 1, .tup fs => fs.all (plainA d)
  | _, a => leafA a
theorem RC.plain {g g2 : Gh} (hro : ∀ b o c, g.ro b o = some (B8 c) → g2.ro b o = some (B8 c)) (hbx : g2.bx = g.bx) : ∀ {d : Nat} {T : Ty} {a : AV} {cs : List Value}, RC g T a cs → plainA d a = true → RC g2 T a cs := by
  intro d
  have leaf : ∀ {T : Ty} {a : AV} {cs : List Value}, RC g T a cs → leafA a = true → RC g2 T a cs := by
    intro T a cs h hp
    cases h with
    | v h => exact .v h
    | ba h => exact .ba h
    | nl => simp [leafA] at hp
    | cn h hs => simp [leafA] at hp
    | bs hc hm hr ht =>
      rename_i l tok A c
      cases tok with
      | some j => simp [leafA] at hp
      | none =>
        refine .bs hc hm ?_ fun i hi => by cases hi
        rcases hr with h | ⟨b, o, hA, hj⟩
        · exact .inl h
        · exact .inr ⟨b, o, hA, fun j hj' => hro _ _ _ (hj j hj')⟩
    | sl hc hm F hr hv ht => simp [leafA] at hp
    | ptr h ho => exact .ptr (by rw [hbx]; exact h) ho
    | pti h ho hk => exact .pti (by rw [hbx]; exact h) ho hk
    | win h ho hn hc hm hA => exact .win (by rw [hbx]; exact h) ho hn hc hm hA
    | vw h hT hg hn hm hx => exact .vw (by rw [hbx]; exact h) hT hg hn hm hx
    | pv h hT hg ho hx => exact .pv (by rw [hbx]; exact h) hT hg ho hx
    | mr h hT => exact .mr (by rw [hbx]; exact h) hT
    | slc hn hm F hr hv => simp [leafA] at hp
    | vwc h hk => simp [leafA] at hp
    | bc hn hm hr ht =>
      rename_i l n tok A
      cases tok with
      | some j => simp [leafA] at hp
      | none =>
        refine .bc hn hm ?_ fun i hi => by cases hi
        rcases hr with h | ⟨b, o, hA, hj⟩
        · exact .inl h
        · exact .inr ⟨b, o, hA, fun j hj' => hro _ _ _ (hj j hj')⟩
    | ref cs h hr =>
      cases h with
      | ba h =>
        rename_i n l
        refine .ref (l.map B8) (.ba h) fun j u hu => ?_
        have := hr j u hu
        simp only [List.getElem?_map, Option.map_eq_some_iff] at hu
        obtain ⟨c, _, rfl⟩ := hu
        exact hro _ _ _ this
      | _ => simp [leafA] at hp
  induction d with
  | zero => exact fun {T a cs} h hp => leaf h (by cases a <;> exact hp)
  | succ d ih =>
    intro T a cs h hp
    have key : ∀ {T : Ty} {cs : List Value} {fs : List AV}, RC g T (.st fs) cs → fs.all (plainA d) = true → RC g2 T (.st fs) cs := by
      intro T
      induction T with
      | cn T Ts _ ihs =>
        intro cs fs h hp
        cases h with
        | cn h hs =>
          simp only [List.all_cons, Bool.and_eq_true] at hp
          exact .cn (ih h hp.1) (ihs hs hp.2)
      | nl => intro cs fs h hp; cases h; exact .nl
      | _ => intro cs fs h hp; cases h
    cases a with
    | st fs => exact key h hp
    | tup fs => cases h
    | _ =>
      exact leaf h hp
theorem BC.plain {g g2 : Gh} (hro : ∀ b o c, g.ro b o = some (B8 c) → g2.ro b o = some (B8 c)) (hbx : g2.bx = g.bx) {d : Nat} {T : Ty} {a : AV} {x : Bx} (h : BC g T a x) (hp : plainA d a = true) : BC g2 T a x := by
  obtain ⟨h1, h2, h3⟩ := h.rc_of (fun _ _ e => by subst e; cases d <;> simp [plainA, leafA] at hp) (fun _ _ e => by subst e; cases d <;> simp [plainA, leafA] at hp) (fun _ _ e => by subst e; cases d <;> simp [plainA, leafA] at hp)
  exact .pl (h3.plain hro hbx hp) h1 h2
theorem RV.plain {g g2 : Gh} (hro : ∀ b o c, g.ro b o = some (B8 c) → g2.ro b o = some (B8 c)) (hbx : g2.bx = g.bx) {d : Nat} {a : AV} {u : Value} (h : RV g a u) (hp : plainA (d + 1) a = true) : RV g2 a u := by
  have one : ∀ {d : Nat} {a : AV} {u : Value}, RV1 g a u → plainA d a = true → RV1 g2 a u := fun {d a u} h hp => by
    rcases h with ⟨T, cs, h1, h2, h3⟩ | h
    · exact .inl ⟨T, cs, h1, h2.plain hro hbx hp, h3⟩
    · exact .inr (h.plain hro hbx hp)
  cases a with
  | any => trivial
  | tup az =>
    obtain ⟨vs, h1, h2, h3⟩ := h
    exact ⟨vs, h1, h2, fun i a u ha hu => one (h3 i a u ha hu) (List.all_eq_true.1 hp a (List.mem_of_getElem? ha))⟩
  | _ => exact (one (show RV1 g _ u from h) hp).rv
theorem cell_lt {w : World} {b o : Nat} {u : Value} (h : w.cell? ⟨b, o, none⟩ = some u) : b < w.heap.size := by
  rcases Nat.lt_or_ge b w.heap.size with h1 | h1
  · exact h1
  · exfalso
    simp [World.cell?, Array.getElem?_eq_none h1] at h
end Go.Proofs.Ytigmpdhnhkdeiaa
namespace Go.Proofs.Ytigmpdhnhkdeiaa
open Go
section
variable {P : Program} {ops : Array Oper} {Q : Exit → Act → World → Prop} {S : World → Prop} {L A : List Nat}
/-- Where an operation stands in an order of one's own. -/
def rk (ord : List Nat) (i : Nat) : Nat := ord.idxOf i
def chkO (ops : Array Oper) (ord : List Nat) : Bool :=
  ord.length == ops.size && ord.all (fun i => decide (i < ops.size)) && (List.range ops.size).all (fun i => ord.contains i) && (List.range ord.length).all (fun p => match ord[p]? with | some x => rk ord x == p | none => false) &&
    (List.range ops.size).all fun j => (match ops[j]? with | some o => o.after.all fun e => !Region.binds .any e || decide (rk ord e.on < rk ord j) | none => true)
structure OrdOk (ops : Array Oper) (ord : List Nat) : Prop where
  len : ord.length = ops.size
  lt : ∀ i ∈ ord, i < ops.size
  mem : ∀ i, i < ops.size → i ∈ ord
  pos : ∀ p (h : p < ord.length), rk ord ord[p] = p
  edge : ∀ j o, ops[j]? = some o → ∀ e ∈ o.after, Region.binds .any e = true → rk ord e.on < rk ord j
theorem chkO_ok {ops : Array Oper} {ord : List Nat} (h : chkO ops ord = true) : OrdOk ops ord := by
  simp only [chkO, Bool.and_eq_true, beq_iff_eq, List.all_eq_true, decide_eq_true_eq, List.mem_range, List.contains_eq_mem] at h
  obtain ⟨⟨⟨⟨h1, h2⟩, h3⟩, h4⟩, h5⟩ := h
  refine ⟨h1, h2, h3, fun p hp => ?_, fun j o hj e he hb => ?_⟩
  · have := h4 p hp; rw [List.getElem?_eq_getElem hp] at this; simpa using this
  · have := h5 j (Array.getElem?_eq_some_iff.1 hj).1
    rw [hj] at this
    have := (Array.all_eq_true_iff_forall_mem.1 this) e he
    simpa [hb] using this
theorem OrdOk.inj {ops : Array Oper} {ord : List Nat} (h : OrdOk ops ord) {i j : Nat} (hi : i < ops.size) (hj : j < ops.size) (e : rk ord i = rk ord j) : i = j := by
  have h1 := List.getElem_idxOf (List.idxOf_lt_length_of_mem (h.mem i hi))
  have h2 := List.getElem_idxOf (List.idxOf_lt_length_of_mem (h.mem j hj))
  unfold rk at e
  rw [← h1, ← h2]
  simp only [e]
def chkZ (ops : Array Oper) (pre : Array Nat) (ord L A : List Nat) : Bool :=
  (List.range ops.size).all fun j => (List.range ops.size).all fun i => !decide (rk ord i < rk ord j) || ((pre.getD j 0).testBit i || (!(L.contains i && L.contains j) && (!L.contains j || A.contains i) && (!L.contains i || A.contains j)) ||
    (L.contains i && L.contains j && (match ops[j]? with | some o => o.after.all fun e => !Region.binds .any e || (decide (rk ord e.on < rk ord i) || L.contains e.on) | none => true)))
/-- Two that wait for nothing: they change places, or both are loud and the later one waits for nothing but what stands ahead of the other. -/
theorem pair_Z {pre : Array Nat} {ord : List Nat} (hf : Fine ops pre [] []) (hz : chkZ ops pre ord L A = true) {listed : Array Bool} (hd : Down ops listed) {i j : Nat} (hi : i ∈ Region.ready .any ops listed) (hj : j ∈ Region.ready .any ops listed) (hij : rk ord i < rk ord j) :
    ∃ oi oj, ops[i]? = some oi ∧ ops[j]? = some oj ∧ oi.apart ops oj = true ∧ oj.apart ops oi = true ∧
      ((¬ (L.contains i = true ∧ L.contains j = true) ∧ (L.contains j = true → A.contains i = true) ∧ (L.contains i = true → A.contains j = true)) ∨
       (L.contains i = true ∧ L.contains j = true ∧ ∀ e ∈ oj.after, Region.binds .any e = true → rk ord e.on < rk ord i ∨ L.contains e.on = true)) := by
  obtain ⟨oi, oj, hoi, hoj, g1, g2, _⟩ := pair_of_ready hf hd hi hj (by rintro rfl; omega)
  refine ⟨oi, oj, hoi, hoj, g1, g2, ?_⟩
  have unl : ∀ k, listed.getD k true = false → listed.getD k false = true → False := by
    intro k h1 h2
    rcases Nat.lt_or_ge k listed.size with h' | h'
    · simp [h'] at h1 h2; rw [h1] at h2; cases h2
    · simp [Array.getElem?_eq_none h'] at h1
  obtain ⟨hiu, _⟩ := mem_ready.1 hi
  obtain ⟨_, oj', hoj', hallj⟩ := mem_ready.1 hj
  rw [hoj] at hoj'; injection hoj' with hoj'; subst hoj'
  have nij : (pre.getD j 0).testBit i = false := by
    cases ht : (pre.getD j 0).testBit i
    · rfl
    · exact (unl i hiu (pre_listed hf hd j oj hoj hallj i ht)).elim
  simp only [chkZ, List.all_eq_true, List.mem_range] at hz
  have h1 := hz j (Array.getElem?_eq_some_iff.1 hoj).1 i (Array.getElem?_eq_some_iff.1 hoi).1
  rw [nij, hoj, decide_eq_true hij] at h1
  simp only [Bool.not_true, Bool.false_or, Bool.or_eq_true, Bool.and_eq_true] at h1
  rcases h1 with ⟨⟨g1, g2⟩, g3⟩ | ⟨⟨g1, g2⟩, g3⟩
  · refine .inl ⟨fun ⟨x, y⟩ => ?_, fun x => ?_, fun x => ?_⟩
    · rw [x, y] at g1; cases g1
    · rw [x] at g2; simpa using g2
    · rw [x] at g3; simpa using g3
  · refine .inr ⟨g1, g2, fun e he hb => ?_⟩
    have := (Array.all_eq_true_iff_forall_mem.1 g3) e he
    simpa [hb] using this
theorem tOp_all {ι : Type} {p : ι → Prop} {j : Nat} {oj : Oper} {a : Act} {w : World} {K : ι → Act → World → Prop} (hi : ops[j]? = some oj) (hL : ¬ L.contains j = true) (hA : A.contains j = true) (hS : S w) (m0 : ι) (h0 : p m0) (h : ∀ m, p m → tOp P ops S L A j (K m) a w) :
    tOp P ops S L A j (fun a w => ∀ m, p m → K m a w) a w := by
  have h1 := h m0 h0
  unfold tOp at h1 ⊢
  simp only [hi] at h1 ⊢
  by_cases hw : Region.wanted oj (yielded ops a.tmps) = true
  · rw [if_pos hw, if_neg hL] at h1 ⊢
    obtain ⟨v, e1, e2, _⟩ := h1
    refine ⟨v, e1, e2, fun m hm => ?_⟩
    have h2 := h m hm
    unfold tOp at h2
    simp only [hi] at h2
    rw [if_pos hw, if_neg hL] at h2
    obtain ⟨u, f1, f2, f3⟩ := h2
    have := Vr.uniq (e2 hA w hS) (f2 hA w hS)
    subst this
    exact f3
  · rw [if_neg hw] at h1 ⊢
    intro m hm
    have h2 := h m hm
    unfold tOp at h2
    simp only [hi] at h2
    rw [if_neg hw] at h2
    exact h2
/-- A quiet operation at the head: it may come up now. -/
theorem ready_lt {listed : Array Bool} {i : Nat} (h : i ∈ Region.ready .any ops listed) : i < ops.size := by
  obtain ⟨_, o, h, _⟩ := mem_ready.1 h; exact (Array.getElem?_eq_some_iff.1 h).1
theorem tAny_quiet {pre : Array Nat} {ord : List Nat} (ho : OrdOk ops ord) (hf : Fine ops pre [] []) (hz : chkZ ops pre ord L A = true) {i : Nat} (hL : ¬ L.contains i = true) : ∀ (fuel : Nat) (listed : Array Bool) (a : Act) (w : World), Down ops listed → i ∈ Region.ready .any ops listed → S w →
    tOp P ops S L A i (tAny P ops Q S L A fuel (listed.setIfInBounds i true)) a w → tAny P ops Q S L A (fuel + 1) listed a w := by
  intro fuel
  induction fuel with
  | zero =>
    intro listed a w hd hr hS H
    refine ⟨fun h => (by rw [h] at hr; cases hr), fun j hj => ?_⟩
    by_cases hji : j = i
    · subst hji; exact H
    · have := ready_mono hj hji
      obtain ⟨a', w', h⟩ := tOp_some H
      rw [h.1] at this
      cases this
  | succ fuel ih =>
    intro listed a w hd hr hS H
    refine ⟨fun h => (by rw [h] at hr; cases hr), fun j hj => ?_⟩
    by_cases hji : j = i
    · subst hji; exact H
    · have hp : ∃ oi oj, ops[i]? = some oi ∧ ops[j]? = some oj ∧ oi.apart ops oj = true ∧ oj.apart ops oi = true ∧ ¬ (L.contains i = true ∧ L.contains j = true) ∧ (L.contains j = true → A.contains i = true) ∧ (L.contains i = true → A.contains j = true) := by
        rcases Nat.lt_or_gt_of_ne (fun e => hji (ho.inj (ready_lt hj) (ready_lt hr) e)) with h | h
        · obtain ⟨oj, oi, hoj, hoi, g1, g2, g3⟩ := pair_Z hf hz hd hj hr h
          rcases g3 with ⟨k1, k2, k3⟩ | ⟨_, k, _⟩
          · exact ⟨oi, oj, hoi, hoj, g2, g1, fun ⟨x, y⟩ => k1 ⟨y, x⟩, k3, k2⟩
          · exact absurd k hL
        · obtain ⟨oi, oj, hoi, hoj, g1, g2, g3⟩ := pair_Z hf hz hd hr hj h
          rcases g3 with ⟨k1, k2, k3⟩ | ⟨k, _⟩
          · exact ⟨oi, oj, hoi, hoj, g1, g2, k1, k2, k3⟩
          · exact absurd k hL
      obtain ⟨oi, oj, hoi, hoj, g1, g2, g3, g4, g5⟩ := hp
      have H2 : tOp P ops S L A i (tOp P ops S L A j (tAny P ops Q S L A fuel ((listed.setIfInBounds i true).setIfInBounds j true))) a w :=
        tOp_mono hS (fun a w _ h => h.2 j (ready_mono hj hji)) H
      have H3 := tOp_swap hoi hoj g1 g2 (fun cs b => hf.sel i oi cs b hoi) (fun cs b => hf.sel j oj cs b hoj) g3 g4 g5 hS H2
      refine tOp_mono hS (fun a' w' _ h => ?_) H3
      refine ih (listed.setIfInBounds j true) a' w' (down_set hd hj) (ready_mono hr (Ne.symm hji)) h.1 ?_
      rw [Array.setIfInBounds_comm _ _ hji]
      exact h.2
/-- A loud operation at the head: whichever loud one comes up first. -/
theorem tAny_loud {pre : Array Nat} {ord : List Nat} (ho : OrdOk ops ord) (hf : Fine ops pre [] []) (hz : chkZ ops pre ord L A = true) {i : Nat} (hL : L.contains i = true) : ∀ (fuel : Nat) (listed : Array Bool) (a : Act) (w : World), Down ops listed → (∀ j, j < ops.size → rk ord j < rk ord i → listed.getD j false = true) → i ∈ Region.ready .any ops listed → S w →
    (∀ m, (m ∈ Region.ready .any ops listed ∧ L.contains m = true) → tOp P ops S L A m (tAny P ops Q S L A fuel (listed.setIfInBounds m true)) a w) → tAny P ops Q S L A (fuel + 1) listed a w := by
  intro fuel
  induction fuel with
  | zero =>
    intro listed a w hd hlow hr hS H
    refine ⟨fun h => (by rw [h] at hr; cases hr), fun j hj => ?_⟩
    by_cases hji : j = i
    · subst hji; exact H j ⟨hj, hL⟩
    · have := ready_mono hj hji
      obtain ⟨a', w', h⟩ := tOp_some (H i ⟨hr, hL⟩)
      rw [h.1] at this
      cases this
  | succ fuel ih =>
    intro listed a w hd hlow hr hS H
    refine ⟨fun h => (by rw [h] at hr; cases hr), fun j hj => ?_⟩
    by_cases hLj : L.contains j = true
    · exact H j ⟨hj, hLj⟩
    · have hall : ∀ m, (m ∈ Region.ready .any ops listed ∧ L.contains m = true) → ∃ om oj, ops[m]? = some om ∧ ops[j]? = some oj ∧ om.apart ops oj = true ∧ oj.apart ops om = true ∧ A.contains j = true := fun m hm => by
        have hmj : m ≠ j := fun e => hLj (e ▸ hm.2)
        rcases Nat.lt_or_gt_of_ne (fun e => hmj (ho.inj (ready_lt hm.1) (ready_lt hj) e)) with h | h
        · obtain ⟨om, oj, k1, k2, k3, k4, k5⟩ := pair_Z hf hz hd hm.1 hj h
          rcases k5 with ⟨_, _, k7⟩ | ⟨_, k, _⟩
          · exact ⟨om, oj, k1, k2, k3, k4, k7 hm.2⟩
          · exact absurd k hLj
        · obtain ⟨oj, om, k1, k2, k3, k4, k5⟩ := pair_Z hf hz hd hj hm.1 h
          rcases k5 with ⟨_, k6, _⟩ | ⟨k, _⟩
          · exact ⟨om, oj, k2, k1, k4, k3, k6 hm.2⟩
          · exact absurd k hLj
      obtain ⟨_, oj, _, hoj, _, _, hAj⟩ := hall i ⟨hr, hL⟩
      have B : ∀ m, (m ∈ Region.ready .any ops listed ∧ L.contains m = true) → tOp P ops S L A j (fun a w => S w ∧ tOp P ops S L A m (tAny P ops Q S L A fuel ((listed.setIfInBounds m true).setIfInBounds j true)) a w) a w := fun m hm => by
        have hmj : j ≠ m := fun e => hLj (e ▸ hm.2)
        obtain ⟨om, oj', hom, hoj', g1, g2, _⟩ := hall m hm
        rw [hoj] at hoj'; injection hoj' with hoj'; subst hoj'
        have H2 : tOp P ops S L A m (tOp P ops S L A j (tAny P ops Q S L A fuel ((listed.setIfInBounds m true).setIfInBounds j true))) a w :=
          tOp_mono hS (fun a w _ h => h.2 j (ready_mono hj hmj)) (H m hm)
        exact tOp_swap hom hoj g1 g2 (fun cs b => hf.sel m om cs b hom) (fun cs b => hf.sel j oj cs b hoj) (fun ⟨_, y⟩ => hLj y) (fun y => absurd y hLj) (fun _ => hAj) hS H2
      refine tOp_mono hS (fun a' w' hS' h => ?_) (tOp_all hoj hLj hAj hS i ⟨hr, hL⟩ B)
      have hji : j ≠ i := fun e => hLj (e ▸ hL)
      refine ih (listed.setIfInBounds j true) a' w' (down_set hd hj) (fun k hks hk => by
        by_cases e : j = k
        · subst e; exact getD_set_true (hlow _ hks hk)
        · rw [getD_set_ne false e]; exact hlow k hks hk) (ready_mono hr (Ne.symm hji)) hS' fun m hm => ?_
      have hmj : j ≠ m := fun e => hLj (e ▸ hm.2)
      have hmr : m ∈ Region.ready .any ops listed := by
        by_cases hmi : m = i
        · subst hmi; exact hr
        · have hd' := down_set hd hj
          have hri := ready_mono hr (Ne.symm hji)
          rcases Nat.lt_or_gt_of_ne (fun e => hmi (ho.inj (ready_lt hm.1) (ready_lt hr) e)) with h | h
          · exfalso
            refine unlisted hm.1 ?_
            rw [getD_set_ne false hmj]
            exact hlow m (ready_lt hm.1) h
          · obtain ⟨_, om, _, hom, _, _, k5⟩ := pair_Z hf hz hd' hri hm.1 h
            rcases k5 with ⟨k, _⟩ | ⟨_, _, k⟩
            · exact absurd ⟨hL, hm.2⟩ k
            · obtain ⟨q1, om', q2, _⟩ := mem_ready.1 hm.1
              rw [hom] at q2; injection q2 with q2; subst q2
              rw [getD_set_ne true hmj] at q1
              obtain ⟨_, om', q3, q4⟩ := mem_ready.1 hm.1
              rw [hom] at q3; injection q3 with q3; subst q3
              refine mem_ready.2 ⟨q1, om, hom, fun e he hb => ?_⟩
              rcases k e he hb with k | k
              · exact hlow _ (Nat.lt_trans (hf.edge m _ hom e he hb) (ready_lt hm.1)) k
              · have q5 := q4 e he hb
                have hne : j ≠ e.on := fun hh => hLj (hh ▸ k)
                rwa [getD_set_ne _ hne] at q5
      rw [Array.setIfInBounds_comm _ _ hmj]
      exact (h m ⟨hmr, hm.2⟩).2
/-- Which loud operations may come up ahead of i: (i, m) in U; but not as long as one is open that m waits for: (m + 1000, j) in U. -/
def altZ (U : List (Nat × Nat)) (i : Nat) (rest : List Nat) : List Nat := rest.filter fun m => U.contains (i, m) && rest.all fun j => !U.contains (m + 1000, j)
/-- The walk in every order of the loud operations; U: those pairs that wait for nothing. -/
def wpZ (P : Program) (ops : Array Oper) (Q : Exit → Act → World → Prop) (S : World → Prop) (L A : List Nat) (U : List (Nat × Nat)) : Nat → List Nat → Act → World → Prop
  | 0, _, a, w => Q .normal a w
  | _ + 1, [], a, w => Q .normal a w
  | n + 1, i :: rest, a, w => if L.contains i then ∀ m ∈ i :: altZ U i rest, tOp P ops S L A m (wpZ P ops Q S L A U n ((i :: rest).erase m)) a w
      else tOp P ops S L A i (wpZ P ops Q S L A U n rest) a w
def chkU (ops : Array Oper) (pre : Array Nat) (ord L : List Nat) (U : List (Nat × Nat)) : Bool :=
  ((List.range ops.size).all fun j => (List.range ops.size).all fun i => !decide (rk ord i < rk ord j) || (pre.getD j 0).testBit i || !(L.contains i && L.contains j) || U.contains (i, j)) && U.all fun p => decide (p.1 < 1000) || (pre.getD (p.1 - 1000) 0).testBit p.2
theorem wpZ_any {pre : Array Nat} {ord : List Nat} {U : List (Nat × Nat)} (ho : OrdOk ops ord) (hf : Fine ops pre [] []) (hz : chkZ ops pre ord L A = true) (hu : chkU ops pre ord L U = true) : ∀ (n : Nat) (pend : List Nat) (listed : Array Bool) (a : Act) (w : World), pend.length = n → pend.Pairwise (rk ord · < rk ord ·) → (∀ m ∈ pend, m < ops.size) → listed.size = ops.size →
    (∀ i, i < ops.size → ∀ d, listed.getD i d = !pend.contains i) → Down ops listed → S w → wpZ P ops Q S L A U n pend a w → tAny P ops Q S L A n listed a w := by
  intro n
  induction n with
  | zero =>
    intro pend listed a w hl hp hb hsz hli hd hS h
    obtain rfl : pend = [] := List.length_eq_zero_iff.1 hl
    exact tAny_nil (fun i hi d => by rw [hli i hi d]; rfl) h
  | succ n ih =>
    intro pend listed a w hl hp hb hsz hli hd hS h
    match pend, hl with
    | i :: rest, hl =>
      have hl' : rest.length = n := by simpa using hl
      obtain ⟨hp1, hp2⟩ := List.pairwise_cons.1 hp
      have hilt := hb i List.mem_cons_self
      have hlow : ∀ j, j < ops.size → rk ord j < rk ord i → listed.getD j false = true := fun j hjs hj => by
        rw [hli j hjs false]
        simp only [Bool.not_eq_true', List.contains_eq_mem, decide_eq_false_iff_not, List.mem_cons, not_or]
        exact ⟨by rintro rfl; omega, fun e => by have := hp1 j e; omega⟩
      have hri : i ∈ Region.ready .any ops listed := by
        refine mem_ready.2 ⟨by rw [hli i hilt true]; simp, _, Array.getElem?_eq_getElem hilt, fun e he hb => hlow _ (Nat.lt_trans (hf.edge i _ (Array.getElem?_eq_getElem hilt) e he hb) hilt) (ho.edge i _ (Array.getElem?_eq_getElem hilt) e he hb)⟩
      have next : ∀ m, m ∈ Region.ready .any ops listed → m ∈ i :: rest → ∀ a w, S w → wpZ P ops Q S L A U n ((i :: rest).erase m) a w → tAny P ops Q S L A n (listed.setIfInBounds m true) a w := fun m hmr hm a w hS h => by
        refine ih _ _ a w (by rw [List.length_erase_of_mem hm, hl]; rfl) (hp.sublist List.erase_sublist) (fun x hx => hb x (List.mem_of_mem_erase hx)) (by simpa using hsz) (fun x hx d => ?_) (down_set hd hmr) hS h
        have hnd : (i :: rest).Nodup := hp.imp (fun {a b} h => by rintro rfl; omega)
        by_cases e : m = x
        · subst e
          have h1 : (listed.setIfInBounds m true).getD m d = true := by simp [hsz, hx]
          rw [h1]
          simp [List.contains_eq_mem, hnd.mem_erase_iff]
        · rw [getD_set_ne d e, hli x hx d]
          congr 1
          simp only [List.contains_eq_mem, hnd.mem_erase_iff]
          have : x ≠ m := fun h => e h.symm
          simp [this]
      unfold wpZ at h
      by_cases hL : L.contains i = true
      · rw [if_pos hL] at h
        refine tAny_loud ho hf hz hL n listed a w hd hlow hri hS fun m hm => ?_
        have hmp : m ∈ i :: rest := by
          obtain ⟨q1, om, q2, _⟩ := mem_ready.1 hm.1
          have := hli m (Array.getElem?_eq_some_iff.1 q2).1 true
          rw [q1] at this
          have hc : (i :: rest).contains m = true := by
            cases hq : (i :: rest).contains m
            · rw [hq] at this; cases this
            · rfl
          simpa [List.contains_eq_mem] using hc
        have hmc : m ∈ i :: altZ U i rest := by
          rcases List.mem_cons.1 hmp with rfl | hmr
          · exact List.mem_cons_self
          · refine List.mem_cons_of_mem _ (List.mem_filter.2 ⟨hmr, ?_⟩)
            have him := hp1 m hmr
            simp only [chkU, Bool.and_eq_true, List.all_eq_true, List.mem_range] at hu
            obtain ⟨hu, hu2⟩ := hu
            have h1 := hu m (hb m hmp) i hilt
            have h2 : (rest.all fun j => !U.contains (m + 1000, j)) = true := by
              refine List.all_eq_true.2 fun j hj => ?_
              cases hc : U.contains (m + 1000, j) with
              | false => rfl
              | true =>
                have h3 := hu2 (m + 1000, j) (by simpa [List.contains_eq_mem] using hc)
                have h4 : ¬ (m + 1000 < 1000) := by omega
                simp only [h4, decide_false, Bool.false_or, Nat.add_sub_cancel] at h3
                obtain ⟨_, om, hom, hall⟩ := mem_ready.1 hm.1
                have h5 := pre_listed hf hd m om hom hall j h3
                have hjb := hb j (List.mem_cons_of_mem _ hj)
                rw [hli j hjb false] at h5
                simp [List.contains_eq_mem, hj] at h5
            rw [decide_eq_true him] at h1
            obtain ⟨_, om, hom, hall⟩ := mem_ready.1 hm.1
            have hn : (pre.getD m 0).testBit i = false := by
              cases ht : (pre.getD m 0).testBit i
              · rfl
              · exact absurd (pre_listed hf hd m om hom hall i ht) (unlisted hri)
            rw [hn, hL, hm.2] at h1
            have h6 : U.contains (i, m) = true := by simpa using h1
            rw [h6, h2]; rfl
        exact tOp_mono hS (fun a' w' hS' hh => next m hm.1 hmp a' w' hS' hh) (h m hmc)
      · rw [if_neg hL] at h
        refine tAny_quiet ho hf hz hL n listed a w hd hri hS ?_
        refine tOp_mono hS (fun a' w' hS' hh => next i hri List.mem_cons_self a' w' hS' ?_) h
        rw [List.erase_cons_head]
        exact hh
theorem wp_region_Z {id : Nat} {a : Act} {w : World} {l : List Oper} (ord L A : List Nat) (U : List (Nat × Nat)) (S : World → Prop) (hm : P.follows .mixedOrders = true) (hc : chk l.toArray (Region.before l.toArray) [] [] = true) (hoc : chkO l.toArray ord = true) (hz : chkZ l.toArray (Region.before l.toArray) ord L A = true) (hu : chkU l.toArray (Region.before l.toArray) ord L U = true)
    (hS : S w.drew) (h : wpZ P l.toArray Q S L A U l.length ord a w.drew) : (Code.region id l.toArray true).wp P Q a w := by
  refine wp_region_any hm (wpAny_of_tAny (L := L) (A := A) (S := S) _ _ _ _ ?_)
  have hsz : l.toArray.size = l.length := by simp
  have ho := chkO_ok hoc
  have hol : ord.length = l.length := ho.len.trans hsz
  have := wpZ_any (P := P) (Q := Q) (S := S) ho (fine_of_chk hc) hz hu l.length ord (Array.replicate l.toArray.size false) a w.drew hol (List.pairwise_iff_getElem.2 fun i j hi hj hij => by rw [ho.pos i hi, ho.pos j hj]; exact hij) ho.lt (by simp)
    (fun i hi d => by
      have hm := ho.mem i hi
      simp only [Array.getD_eq_getD_getElem?, Array.getElem?_replicate, if_pos hi, List.contains_eq_mem]
      simp [hm])
    (fun j o hj hl => by
      have hjl := (Array.getElem?_eq_some_iff.1 hj).1
      simp only [Array.getD_eq_getD_getElem?, Array.getElem?_replicate, if_pos hjl] at hl
      simp at hl) hS h
  rw [hsz]
  exact this
theorem wpZ_loud {U : List (Nat × Nat)} {i n : Nat} {rest : List Nat} {a : Act} {w : World} (hL : L.contains i = true) (h : ∀ m ∈ i :: altZ U i rest, tOp P ops S L A m (wpZ P ops Q S L A U n ((i :: rest).erase m)) a w) : wpZ P ops Q S L A U (n + 1) (i :: rest) a w := by
  unfold wpZ; rw [if_pos hL]; exact h
theorem wpZ_pick {U : List (Nat × Nat)} {m n : Nat} {pend pend' : List Nat} {o : Oper} {a : Act} {w : World} (he : pend.erase m = pend') (ho : (ops.toList.drop m).head? = some o) (h : wpT P ops (fun _ a w => wpZ P ops Q S L A U n pend' a w) S L A [o] m a w) : tOp P ops S L A m (wpZ P ops Q S L A U n (pend.erase m)) a w := by
  have ho : ops[m]? = some o := by rw [List.head?_drop, Array.getElem?_toList] at ho; exact ho
  rw [he]; unfold tOp; simp only [ho]; exact h
theorem all1 {p : Nat → Prop} {x : Nat} (h : p x) : ∀ m ∈ [x], p m := fun m hm => by simp at hm; subst hm; exact h
theorem wpZ_nil {U : List (Nat × Nat)} {p : List Nat} {a : Act} {w : World} (h : Q .normal a w) : wpZ P ops Q S L A U 0 p a w := h
theorem wpZ_two {U : List (Nat × Nat)} {i n : Nat} {rest cs : List Nat} {a : Act} {w : World} (hL : L.contains i = true) (hc : altZ U i rest = cs) (h : ∀ m ∈ i :: cs, tOp P ops S L A m (wpZ P ops Q S L A U n ((i :: rest).erase m)) a w) : wpZ P ops Q S L A U (n + 1) (i :: rest) a w := by
  subst hc; exact wpZ_loud hL h
theorem all2 {p : Nat → Prop} {x y : Nat} (h : p x ∧ p y) : ∀ m ∈ [x, y], p m := fun m hm => by
  simp at hm
  rcases hm with rfl | rfl
  · exact h.1
  · exact h.2
theorem all3 {p : Nat → Prop} {x y z : Nat} (h : p x ∧ p y ∧ p z) : ∀ m ∈ [x, y, z], p m := fun m hm => by
  simp at hm
  rcases hm with rfl | rfl | rfl
  · exact h.1
  · exact h.2.1
  · exact h.2.2
end
section
variable {P : Program} {w0 w : World} {N : Gh} {st : St} {nt : Nat} {a : Act}
/-- A region that draws its order, in every order of its loud operations. -/
theorem v_drawZ {id : Nat} {Q : Exit → Act → World → Prop} {l : List Oper} (nb : Nat) (ord L A : List Nat) (U : List (Nat × Nat)) (hm : P.follows .mixedOrders = true) (hchk : chk l.toArray (Region.before l.toArray) [] [] = true) (hoc : chkO l.toArray ord = true) (hz : chkZ l.toArray (Region.before l.toArray) ord L A = true) (hu : chkU l.toArray (Region.before l.toArray) ord L U = true) (H : Rel P w0 N nt st a w)
    (hb : (st.bx.take nb).all (fun x => low nb 0 4 x.2) = true)
    (k : ∀ gS, RelT P w0 N nt gS ⟨st.t.filter fun p => low nb 0 4 p.2.2, st.bx.take nb, st.fz, []⟩ st a w.drew → wpZ P l.toArray Q (Mem gS) L A U l.length ord a w.drew) : (Code.region id l.toArray true).wp P Q a w := by
  obtain ⟨g, HI, hF⟩ := H
  have HI' := HI.drew
  have hc := HI'.loose.cut (nr := 0) (Nat.zero_le _) (Nat.zero_le _) hb
  have hgb : ∀ (i : Nat) x, (g.cut nb 0).bx[i]? = some x → g.bx[i]? = some x := fun i x hx => by
    have : (g.bx.take nb)[i]? = some x := hx
    rw [List.getElem?_take] at this
    split at this
    · exact this
    · cases this
  have hle : (g.cut nb 0).le g := ⟨fun _ _ _ h => h, fun i x hx => ⟨x, hgb i x hx, x.same⟩, fun i r hr => by simp [Gh.cut] at hr⟩
  have hbs : Bs (g.cut nb 0) g := fun i x hx => ⟨x, hgb i x hx, rfl, rfl, rfl, rfl, rfl⟩
  have HT : RelT P w0 N nt (g.cut nb 0) ⟨st.t.filter fun p => low nb 0 4 p.2.2, st.bx.take nb, st.fz, []⟩ st a w.drew :=
    ⟨hc.mem, by simp [Gh.cut], ⟨hF.sz, hF.df, fun p hp hg => by
      simp only [List.mem_filter] at hp
      exact (hF.t p hp.1 hg).low_ (d := 3) hp.2, fun p hp hg => hF.u p (List.mem_filter.1 hp).1 hg⟩, hc.br, g, HI', hF, hle, hbs⟩
  exact wp_region_Z ord L A U (Mem (g.cut nb 0)) hm hchk hoc hz hu HT.mem (k _ HT)
end
end Go.Proofs.Ytigmpdhnhkdeiaa
/- path.Flip; span.right. -/
namespace Go.Proofs.Ytigmpdhnhkdeiaa
open Go Go.RowKit
end Go.Proofs.Ytigmpdhnhkdeiaa
/- A stretch of keys: what it touches, what it has; parts that are clean. -/
namespace Go.Proofs.Ytigmpdhnhkdeiaa
open Go Go.RowKit
end Go.Proofs.Ytigmpdhnhkdeiaa
/- Nodes: what is read. -/
namespace Go.Proofs.Ytigmpdhnhkdeiaa
open Go Go.RowKit
def Nd.one (a b : List UInt8) : Nd := ⟨1, a, b, z32, z32⟩
def Nd.two (a b : List UInt8) : Nd := ⟨2, z32, z32, a, b⟩
def decOk (l : List UInt8) : Prop := l = [0] ∨ (l.length = 65 ∧ (l.getD 0 0 = 1 ∨ l.getD 0 0 = 2))
instance (l : List UInt8) : Decidable (decOk l) := inferInstanceAs (Decidable (_ ∨ _))
def dec (l : List UInt8) : Nd := if l.length = 65 ∧ l.getD 0 0 = 1 then .one ((l.drop 1).take 32) (l.drop 33) else if l.length = 65 ∧ l.getD 0 0 = 2 then .two ((l.drop 1).take 32) (l.drop 33) else .zero
theorem z32_len : z32.length = 32 := by simp [z32]
end Go.Proofs.Ytigmpdhnhkdeiaa
/- Digests of a byte and parts: the program's. -/
namespace Go.Proofs.Ytigmpdhnhkdeiaa
open Go Go.RowKit
end Go.Proofs.Ytigmpdhnhkdeiaa
/- What the statements share: bytes that are lent, and kept. -/
namespace Go.Proofs.Ytigmpdhnhkdeiaa
open Go Go.RowKit
/-- The marks in the spare room. -/
def marks (n : Nat) : Nat → List UInt8
  | 0 => []
  | k + 1 => marks n k ++ [UInt8.ofNat (200 + (n + k) % 50)]
theorem marks_len (n k : Nat) : (marks n k).length = k := by
  induction k with
  | zero => rfl
  | succ k ih => simp [marks, ih]
theorem set_end (pre : List UInt8) (m : Nat) (z x : UInt8) (hm : 0 < m) : (pre ++ List.replicate m z).set pre.length x = pre ++ [x] ++ List.replicate (m - 1) z := by
  obtain ⟨m, rfl⟩ : ∃ k, m = k + 1 := ⟨m - 1, by omega⟩
  rw [List.set_append_right _ _ (Nat.le_refl _), Nat.sub_self, List.replicate_succ]
  simp
def lentOf (l : List UInt8) : List UInt8 := l ++ marks l.length 5
theorem lent_len (l : List UInt8) : (lentOf l).length = l.length + 5 := by simp [lentOf, marks_len]
theorem lent_v (l : List UInt8) (hl : l.length ≤ 34359738000) : VX Try.prog 14 [] [] [] [.bs l none] [(.ba (l.length + 5), .ba (lentOf l))] [0] [] (.bc (lentOf l) l.length (some 0)) := by
  have hml := fun k => marks_len l.length k
  refine mE Try.func14 ?_; intro N w0 a w hN hR H
  have h5 : ((l.length : Int) + 5).toNat = l.length + 5 := by omega
  have ht : List.take (l.length + 5) l = l := List.take_of_length_le (by omega)
  have hd : List.drop l.length (List.replicate (l.length + 5) (0 : UInt8)) = List.replicate 5 0 := by rw [List.drop_replicate]; congr 1; omega
  have hX := And.intro @h5 (And.intro @ht (@hd))
  refine mW ?_; clear H; intro a w H
  refine v_loop (fun k : Nat => ⟨[(0, none, .bs l none), (3, none, .win 0 [] 0 (l.length + 5)), (4, none, .v (.int .i64 ((l.length + k : Nat) : Int)))], [(.ba (l.length + 5), .ba (l ++ marks l.length k ++ List.replicate (5 - k) 0))], [], []⟩) (fun k => k ≤ 5) (fun k => 5 - k) 0 (by decide) (H.to 1 0 ⟨Nat.le_trans hN (by decide), hR⟩ ⟨rfl, rfl, rfl, trivial⟩ (by simp [marks]) rfl rfl rfl rfl) ?_
  clear H
  intro k a w hk H
  clear hX
  refine mW ?_; clear H; intro a w H
  refine mC H (fun hb => ?_) (fun hb => ?_)
  · have hlt : k < 5 := by simp at hb; omega
    have hpl : (l ++ marks l.length k).length = l.length + k := by rw [List.length_append, hml]
    have hs := set_end (l ++ marks l.length k) (5 - k) 0 (UInt8.ofNat (200 + (l.length + k) % 50)) (by omega)
    rw [hpl] at hs
    have hx : UInt8.ofNat ((200 + ((l.length + k : Nat) : Int) % 50) % 256).toNat = UInt8.ofNat (200 + (l.length + k) % 50) := by congr 1; omega
    refine mW ?_; clear H; intro a w H
    rw [hx, hs] at H
    exact ⟨k + 1, by omega, by omega, H.to 1 0 ⟨Nat.le_trans hN (by decide), hR⟩ ⟨rfl, rfl, by simp only [find]; rfl, trivial⟩ (by simp only [List.take_succ_cons, List.take_zero, marks, List.append_assoc, Nat.sub_sub]) rfl rfl rfl rfl⟩
  · have : k = 5 := by simp at hb; omega
    subst this
    rw [Nat.sub_self, List.replicate_zero, List.append_nil] at H
    refine mW ?_; clear H; intro a w H
    have H := v_bc H 2 0 hN rfl (by omega) rfl
    simp only [nilT, reduceIte, Nat.reduceEqDiff] at H
    have hX := @lentOf.eq_1
    refine wp_ret ?_; exact mEnd [0] [] [.tmp 2] [_] hN hR H
end Go.Proofs.Ytigmpdhnhkdeiaa
/- The document's digests and nodes. -/
namespace Go.Proofs.Ytigmpdhnhkdeiaa
open Go Go.RowKit
theorem set_fill (l : List UInt8) (k n : Nat) (z : UInt8) (hk : k < l.length) (hn : k < n) : (l.take k ++ List.replicate (n - k) z).set k (l.getD k z) = l.take (k + 1) ++ List.replicate (n - (k + 1)) z := by
  have h1 : (l.take k).length = k := by rw [List.length_take]; omega
  have h2 := set_end (l.take k) (n - k) z (l.getD k z) (by omega)
  rw [h1] at h2
  rw [h2, List.take_succ_eq_append_getElem hk]
  have : l.getD k z = l[k] := by simp [List.getD, hk]
  rw [this, show n - k - 1 = n - (k + 1) by omega]
theorem ofR_v (l : List UInt8) (hl : l.length = 32) : VC Try.prog 223 [.bs l none] [] (.tup [.ba l, errv 0]) := by
  refine mE Try.func223 ?_; intro N w0 a w hN hR H
  refine mW ?_; clear H; intro a w H
  refine mC H (fun hb => ?_) (fun hb => ?_)
  · simp [hl] at hb
  · refine mW ?_; clear H; intro a w H
    refine v_loop (fun k : Nat => ⟨[(0, none, .bs l none), (2, none, .ptr 0 []), (4, none, .ptr 1 []), (5, none, .v (.int .i64 (k : Int)))], [(.ba 32, .ba (List.replicate 32 0)), (.ba 32, .ba (l.take k ++ List.replicate (32 - k) 0))], [], []⟩) (fun k => k ≤ 32) (fun k => 32 - k) 0 (by decide) (H.to 2 0 ⟨Nat.le_trans hN (by decide), hR⟩ ⟨rfl, rfl, rfl, rfl, trivial⟩ rfl rfl rfl rfl rfl) ?_
    clear H
    intro k a w hk H
    refine mW ?_; clear H; intro a w H
    refine mC H (fun hb => ?_) (fun hb => ?_)
    · have hlt : k < 32 := by simp at hb; omega
      have hx := (l.getD k 0).toNat_lt
      have hs := set_fill l k 32 0 (by omega) hlt
      refine mW ?_; clear H; intro a w H
      rw [hs] at H
      exact ⟨k + 1, by omega, by omega, H.to 2 0 ⟨Nat.le_trans hN (by decide), hR⟩ ⟨rfl, rfl, rfl, rfl, trivial⟩ rfl rfl rfl rfl rfl⟩
    · have : k = 32 := by simp at hb; omega
      subst this
      rw [List.take_of_length_le (by omega), Nat.sub_self, List.replicate_zero, List.append_nil] at H
      refine mW ?_; clear H; intro a w H
      refine wp_ret ?_; exact mEnd [] [] [.cell 2 49, .tmp 3] [_, _] hN hR H
end Go.Proofs.Ytigmpdhnhkdeiaa
/- The document's look at a node. -/
namespace Go.Proofs.Ytigmpdhnhkdeiaa
open Go Go.RowKit
end Go.Proofs.Ytigmpdhnhkdeiaa
/- The document's nodes, written and read. -/
namespace Go.Proofs.Ytigmpdhnhkdeiaa
open Go Go.RowKit
end Go.Proofs.Ytigmpdhnhkdeiaa
/- Digests of the empty place, of leaves, of inner nodes. -/
namespace Go.Proofs.Ytigmpdhnhkdeiaa
open Go Go.RowKit
def leafH (k v : List UInt8) : List UInt8 := sum (1 :: (k ++ v))
def innerH (l r : List UInt8) : List UInt8 := sum (2 :: (l ++ r))
end Go.Proofs.Ytigmpdhnhkdeiaa
/- Roots of entries at a depth; entries that rise part where their bit does. In plain Lean. -/
namespace Go.Proofs.Ytigmpdhnhkdeiaa
open Go Go.RowKit
abbrev En := List UInt8 × List UInt8
def base (l : List En) : List UInt8 := match l with
  | [] => sum [0]
  | x :: _ => leafH x.1 x.2
def half (b : Bool) (d : Nat) (l : List En) : List En := l.filter fun x => bitN x.1 d == b
/-- Keys that rise and share their first d bits. -/
def Rise (d : Nat) (l : List En) : Prop := l.Pairwise fun x y => agree d x.1 y.1 ∧ ltB x.1 y.1
/-- How many entries have the bit 0. -/
def partN (d : Nat) (l : List En) : Nat := (l.takeWhile fun x => !bitN x.1 d).length
theorem Rise.part {d : Nat} (hd : d < 256) : ∀ {l : List En}, Rise d l → half false d l = l.take (partN d l) ∧ half true d l = l.drop (partN d l)
  | [], _ => ⟨rfl, rfl⟩
  | x :: l, h => by
    obtain ⟨h1, h2⟩ := List.pairwise_cons.1 h
    obtain ⟨e1, e2⟩ := Rise.part hd h2
    cases hb : bitN x.1 d
    · have e : partN d (x :: l) = partN d l + 1 := by simp [partN, List.takeWhile_cons, hb]
      rw [e]
      refine ⟨?_, ?_⟩
      · rw [List.take_succ_cons, ← e1]; simp [half, List.filter_cons, hb]
      · rw [List.drop_succ_cons, ← e2]; simp [half, List.filter_cons, hb]
    · have e : partN d (x :: l) = 0 := by simp [partN, List.takeWhile_cons, hb]
      have hall : ∀ y ∈ l, bitN y.1 d = true := fun y hy => by
        obtain ⟨ha, c, hc, g1, g2, g3⟩ := h1 y hy
        rcases Nat.lt_trichotomy c d with hl | rfl | hg
        · have := ha c hl; rw [g2, g3] at this; cases this
        · rw [hb] at g2; cases g2
        · rw [← g1 d hg]; exact hb
      rw [e]
      refine ⟨?_, ?_⟩
      · rw [List.take_zero]
        simp only [half, List.filter_cons, hb]
        simp only [Bool.true_beq, Bool.false_eq_true, if_false]
        refine List.filter_eq_nil_iff.2 fun y hy => ?_
        simp [hall y hy]
      · rw [List.drop_zero]
        refine List.filter_eq_self.2 fun y hy => ?_
        rcases List.mem_cons.1 hy with rfl | hy
        · simp [hb]
        · simp [hall y hy]
theorem Rise.chain {d : Nat} : ∀ {l : List En}, (∀ k (h : k + 1 < l.length), agree d (l[k]'(by omega)).1 l[k + 1].1 ∧ ltB (l[k]'(by omega)).1 l[k + 1].1) → Rise d l
  | [], _ => List.Pairwise.nil
  | [_], _ => by unfold Rise; simp
  | x :: y :: l, h => by
    have ih := Rise.chain (l := y :: l) fun k hk => h (k + 1) (by simpa using hk)
    have h0 := h 0 (by simp)
    refine List.pairwise_cons.2 ⟨fun z hz => ?_, ih⟩
    rcases List.mem_cons.1 hz with rfl | hz
    · exact h0
    · have := (List.pairwise_cons.1 ih).1 z hz
      exact ⟨h0.1.trans this.1, h0.2.trans this.2⟩
end Go.Proofs.Ytigmpdhnhkdeiaa
/- Sketches: parts, trees, what is read of them (plain). -/
namespace Go.Proofs.Ytigmpdhnhkdeiaa
open Go Go.RowKit
/-- A part of a sketch. -/
structure Br where
  k : UInt8
  key : List UInt8
  v : List UInt8
  g : List UInt8
  deriving DecidableEq
structure Br.wf (b : Br) : Prop where
  key : b.key.length = 32
  v : b.v.length = 32
  g : b.g.length = 32
def Br.av (b : Br) : AV := .st [.v (B8 b.k), .ba b.key, .ba b.v, .ba b.g]
def Br.clean (b : Br) : Bool := if b.k = 0 ∨ b.k = 2 then decide (b.key = z32 ∧ b.v = z32 ∧ b.g = z32) else if b.k = 1 then decide (b.g = z32) else if b.k = 3 then decide (b.key = z32 ∧ b.v = z32) else false
theorem Br.clean_k {b : Br} (h : b.clean = true) : b.k = 0 ∨ b.k = 1 ∨ b.k = 2 ∨ b.k = 3 := by
  unfold Br.clean at h
  split at h
  · rename_i h1; rcases h1 with h1 | h1 <;> simp [h1]
  · split at h
    · rename_i h1; simp [h1]
    · split at h
      · rename_i h1; simp [h1]
      · cases h
/-- A tree of digests. -/
inductive Tr where
  | e
  | c (g : List UInt8)
  | l (k v : List UInt8)
  | n (a b : Tr)
def Tr.dg : Tr → List UInt8
  | .e => sum [0]
  | .c g => g
  | .l k v => leafH k v
  | .n a b => innerH a.dg b.dg
def Tr.leaves : Tr → List En
  | .l k v => [(k, v)]
  | .n a b => a.leaves ++ b.leaves
  | _ => []
def Tr.way (key : List UInt8) : Nat → Tr → List (List UInt8)
  | d, .n a b => if bitN key d then a.dg :: b.way key (d + 1) else b.dg :: a.way key (d + 1)
  | _, _ => []
def Tr.fin (key : List UInt8) : Nat → Tr → Nd → Nd
  | d, .n a b, x => if bitN key d then b.fin key (d + 1) x else a.fin key (d + 1) x
  | _, .l k v, _ => Nd.one k v
  | _, _, x => x
def Low (d : Nat) (top : List UInt8) : Prop := top.length = 32 ∧ ∀ t, d ≤ t → t < 256 → bitN top t = false
theorem Low.zero : Low 0 (List.replicate 32 0) := by
  refine ⟨List.length_replicate, fun t _ ht => ?_⟩
  unfold bitN
  rw [List.getD_eq_getElem?_getD, List.getElem?_replicate, if_pos (by omega)]
  have : ∀ m : Fin 8, bitAt 0 m.val = false := by decide
  exact this ⟨t % 8, by omega⟩
theorem Low.up {d : Nat} {top : List UInt8} (h : Low d top) : Low (d + 1) top := ⟨h.1, fun t ht => h.2 t (by omega)⟩
/-- What a reader of a stretch has. -/
structure RS where
  rest : List Br
  ks : List (List UInt8)
  ds : List (List UInt8)
  sd : List (List UInt8)
  en : Nd
end Go.Proofs.Ytigmpdhnhkdeiaa
