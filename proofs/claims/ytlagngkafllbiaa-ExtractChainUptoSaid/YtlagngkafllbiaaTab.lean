/- The types of the program, as they lie in memory. By program (gen_tab.py). -/
import Derived.Test.YtlagngkafllbiaaA4
set_option linter.unusedSimpArgs false
set_option linter.unusedVariables false
namespace Go.Proofs.Ytlagngkafllbiaa
open Go Go.RowKit
def ti2 : TI := ⟨.int .i64, .sc, (.v (.int .i64 0)), 8⟩
theorem ti2_ok : ti2.ok Try.prog 2 := ti_ok (zc := [(.int .i64 0)]) (by kernel_rfl) (by kernel_rfl) (fun _ => (.v rfl)) (fun k h => by cases h; rfl)
def ti3 : TI := ⟨.int .i64, .sc, (.v (.int .i64 0)), 8⟩
theorem ti3_ok : ti3.ok Try.prog 3 := ti_ok (zc := [(.int .i64 0)]) (by kernel_rfl) (by kernel_rfl) (fun _ => (.v rfl)) (fun k h => by cases h; rfl)
def ti4 : TI := ⟨.bool, .sc, (.v (.bool false)), 1⟩
theorem ti4_ok : ti4.ok Try.prog 4 := ti_ok (zc := [(.bool false)]) (by kernel_rfl) (by kernel_rfl) (fun _ => (.v rfl)) (fun k h => by cases h)
def ti5 : TI := ⟨.int .u8, .sc, (.v (.int .u8 0)), 1⟩
theorem ti5_ok : ti5.ok Try.prog 5 := ti_ok (zc := [(.int .u8 0)]) (by kernel_rfl) (by kernel_rfl) (fun _ => (.v rfl)) (fun k h => by cases h; rfl)
def ti9 : TI := ⟨.str, .sc, (.v (.string ⟨#[]⟩)), 16⟩
theorem ti9_ok : ti9.ok Try.prog 9 := ti_ok (zc := [(.string ⟨#[]⟩)]) (by kernel_rfl) (by kernel_rfl) (fun _ => (.v rfl)) (fun k h => by cases h)
def ti21 : TI := ⟨.int .i32, .sc, (.v (.int .i32 0)), 4⟩
theorem ti21_ok : ti21.ok Try.prog 21 := ti_ok (zc := [(.int .i32 0)]) (by kernel_rfl) (by kernel_rfl) (fun _ => (.v rfl)) (fun k h => by cases h; rfl)
def ti22 : TI := ⟨.arr 32 5, (.ba 32), (.ba (List.replicate 32 0)), 32⟩
theorem ti22_ok : ti22.ok Try.prog 22 := ti_ok (zc := ((List.replicate 32 (0 : UInt8)).map B8)) (by kernel_rfl) (by kernel_rfl) (fun _ => (.ba rfl)) (fun k h => by cases h)
def ti23 : TI := ⟨.arr 32 5, (.ba 32), (.ba (List.replicate 32 0)), 32⟩
theorem ti23_ok : ti23.ok Try.prog 23 := ti_ok (zc := ((List.replicate 32 (0 : UInt8)).map B8)) (by kernel_rfl) (by kernel_rfl) (fun _ => (.ba rfl)) (fun k h => by cases h)
def ti24 : TI := ⟨.slc 5, .sc, (.v (.slice none 0 0)), 24⟩
theorem ti24_ok : ti24.ok Try.prog 24 := ti_ok (zc := [(.slice none 0 0)]) (by kernel_rfl) (by kernel_rfl) (fun _ => (.v rfl)) (fun k h => by cases h)
def ti26 : TI := ⟨.slc 24, .sc, (.v (.slice none 0 0)), 24⟩
theorem ti26_ok : ti26.ok Try.prog 26 := ti_ok (zc := [(.slice none 0 0)]) (by kernel_rfl) (by kernel_rfl) (fun _ => (.v rfl)) (fun k h => by cases h)
def ti27 : TI := ⟨.int .i64, .sc, (.v (.int .i64 0)), 8⟩
theorem ti27_ok : ti27.ok Try.prog 27 := ti_ok (zc := [(.int .i64 0)]) (by kernel_rfl) (by kernel_rfl) (fun _ => (.v rfl)) (fun k h => by cases h; rfl)
def ti30 : TI := ⟨.arr 32 5, (.ba 32), (.ba (List.replicate 32 0)), 32⟩
theorem ti30_ok : ti30.ok Try.prog 30 := ti_ok (zc := ((List.replicate 32 (0 : UInt8)).map B8)) (by kernel_rfl) (by kernel_rfl) (fun _ => (.ba rfl)) (fun k h => by cases h)
def ti41 : TI := ⟨.slc 30, .sc, (.v (.slice none 0 0)), 24⟩
theorem ti41_ok : ti41.ok Try.prog 41 := ti_ok (zc := [(.slice none 0 0)]) (by kernel_rfl) (by kernel_rfl) (fun _ => (.v rfl)) (fun k h => by cases h)
def ti42 : TI := ⟨.rcd [(0, 4), (1, 30)], (.cn .sc (.cn (.ba 32) (.nl))), (.st [(.v (.bool false)), (.ba (List.replicate 32 0))]), 33⟩
theorem ti42_ok : ti42.ok Try.prog 42 := ti_ok (zc := (([(.bool false)]) ++ ((((List.replicate 32 (0 : UInt8)).map B8)) ++ ([])))) (by kernel_rfl) (by kernel_rfl) (fun _ => (.cn (.v rfl) (.cn (.ba rfl) (.nl)))) (fun k h => by cases h)
def ti43 : TI := ⟨.rcd [(0, 4), (1, 30)], (.cn .sc (.cn (.ba 32) (.nl))), (.st [(.v (.bool false)), (.ba (List.replicate 32 0))]), 33⟩
theorem ti43_ok : ti43.ok Try.prog 43 := ti_ok (zc := (([(.bool false)]) ++ ((((List.replicate 32 (0 : UInt8)).map B8)) ++ ([])))) (by kernel_rfl) (by kernel_rfl) (fun _ => (.cn (.v rfl) (.cn (.ba rfl) (.nl)))) (fun k h => by cases h)
def ti51 : TI := ⟨.rcd [(0, 4), (1, 24), (2, 24)], (.cn .sc (.cn .sc (.cn .sc (.nl)))), (.st [(.v (.bool false)), (.v (.slice none 0 0)), (.v (.slice none 0 0))]), 56⟩
theorem ti51_ok : ti51.ok Try.prog 51 := ti_ok (zc := (([(.bool false)]) ++ (([(.slice none 0 0)]) ++ (([(.slice none 0 0)]) ++ ([]))))) (by kernel_rfl) (by kernel_rfl) (fun _ => (.cn (.v rfl) (.cn (.v rfl) (.cn (.v rfl) (.nl))))) (fun k h => by cases h)
def ti52 : TI := ⟨.rcd [(0, 4), (1, 24), (2, 24)], (.cn .sc (.cn .sc (.cn .sc (.nl)))), (.st [(.v (.bool false)), (.v (.slice none 0 0)), (.v (.slice none 0 0))]), 56⟩
theorem ti52_ok : ti52.ok Try.prog 52 := ti_ok (zc := (([(.bool false)]) ++ (([(.slice none 0 0)]) ++ (([(.slice none 0 0)]) ++ ([]))))) (by kernel_rfl) (by kernel_rfl) (fun _ => (.cn (.v rfl) (.cn (.v rfl) (.cn (.v rfl) (.nl))))) (fun k h => by cases h)
def ti53 : TI := ⟨.rcd [(0, 24), (1, 24)], (.cn .sc (.cn .sc (.nl))), (.st [(.v (.slice none 0 0)), (.v (.slice none 0 0))]), 48⟩
theorem ti53_ok : ti53.ok Try.prog 53 := ti_ok (zc := (([(.slice none 0 0)]) ++ (([(.slice none 0 0)]) ++ ([])))) (by kernel_rfl) (by kernel_rfl) (fun _ => (.cn (.v rfl) (.cn (.v rfl) (.nl)))) (fun k h => by cases h)
def ti54 : TI := ⟨.rcd [(0, 24), (1, 24)], (.cn .sc (.cn .sc (.nl))), (.st [(.v (.slice none 0 0)), (.v (.slice none 0 0))]), 48⟩
theorem ti54_ok : ti54.ok Try.prog 54 := ti_ok (zc := (([(.slice none 0 0)]) ++ (([(.slice none 0 0)]) ++ ([])))) (by kernel_rfl) (by kernel_rfl) (fun _ => (.cn (.v rfl) (.cn (.v rfl) (.nl)))) (fun k h => by cases h)
def ti60 : TI := ⟨.int .u8, .sc, (.v (.int .u8 0)), 1⟩
theorem ti60_ok : ti60.ok Try.prog 60 := ti_ok (zc := [(.int .u8 0)]) (by kernel_rfl) (by kernel_rfl) (fun _ => (.v rfl)) (fun k h => by cases h; rfl)
def ti61 : TI := ⟨.rcd [(0, 60), (1, 23), (33, 30), (65, 30), (97, 30)], (.cn .sc (.cn (.ba 32) (.cn (.ba 32) (.cn (.ba 32) (.cn (.ba 32) (.nl)))))), (.st [(.v (.int .u8 0)), (.ba (List.replicate 32 0)), (.ba (List.replicate 32 0)), (.ba (List.replicate 32 0)), (.ba (List.replicate 32 0))]), 129⟩
theorem ti61_ok : ti61.ok Try.prog 61 := ti_ok (zc := (([(.int .u8 0)]) ++ ((((List.replicate 32 (0 : UInt8)).map B8)) ++ ((((List.replicate 32 (0 : UInt8)).map B8)) ++ ((((List.replicate 32 (0 : UInt8)).map B8)) ++ ((((List.replicate 32 (0 : UInt8)).map B8)) ++ ([]))))))) (by kernel_rfl) (by kernel_rfl) (fun _ => (.cn (.v rfl) (.cn (.ba rfl) (.cn (.ba rfl) (.cn (.ba rfl) (.cn (.ba rfl) (.nl))))))) (fun k h => by cases h)
def ti62 : TI := ⟨.rcd [(0, 60), (1, 23), (33, 30), (65, 30), (97, 30)], (.cn .sc (.cn (.ba 32) (.cn (.ba 32) (.cn (.ba 32) (.cn (.ba 32) (.nl)))))), (.st [(.v (.int .u8 0)), (.ba (List.replicate 32 0)), (.ba (List.replicate 32 0)), (.ba (List.replicate 32 0)), (.ba (List.replicate 32 0))]), 129⟩
theorem ti62_ok : ti62.ok Try.prog 62 := ti_ok (zc := (([(.int .u8 0)]) ++ ((((List.replicate 32 (0 : UInt8)).map B8)) ++ ((((List.replicate 32 (0 : UInt8)).map B8)) ++ ((((List.replicate 32 (0 : UInt8)).map B8)) ++ ((((List.replicate 32 (0 : UInt8)).map B8)) ++ ([]))))))) (by kernel_rfl) (by kernel_rfl) (fun _ => (.cn (.v rfl) (.cn (.ba rfl) (.cn (.ba rfl) (.cn (.ba rfl) (.cn (.ba rfl) (.nl))))))) (fun k h => by cases h)
def ti63 : TI := ⟨.rcd [(0, 41), (1, 62)], (.cn .sc (.cn (.cn .sc (.cn (.ba 32) (.cn (.ba 32) (.cn (.ba 32) (.cn (.ba 32) (.nl)))))) (.nl))), (.st [(.v (.slice none 0 0)), (.st [(.v (.int .u8 0)), (.ba (List.replicate 32 0)), (.ba (List.replicate 32 0)), (.ba (List.replicate 32 0)), (.ba (List.replicate 32 0))])]), 160⟩
theorem ti63_ok : ti63.ok Try.prog 63 := ti_ok (zc := (([(.slice none 0 0)]) ++ (((([(.int .u8 0)]) ++ ((((List.replicate 32 (0 : UInt8)).map B8)) ++ ((((List.replicate 32 (0 : UInt8)).map B8)) ++ ((((List.replicate 32 (0 : UInt8)).map B8)) ++ ((((List.replicate 32 (0 : UInt8)).map B8)) ++ ([]))))))) ++ ([])))) (by kernel_rfl) (by kernel_rfl) (fun _ => (.cn (.v rfl) (.cn (.cn (.v rfl) (.cn (.ba rfl) (.cn (.ba rfl) (.cn (.ba rfl) (.cn (.ba rfl) (.nl)))))) (.nl)))) (fun k h => by cases h)
def ti64 : TI := ⟨.rcd [(0, 41), (1, 62)], (.cn .sc (.cn (.cn .sc (.cn (.ba 32) (.cn (.ba 32) (.cn (.ba 32) (.cn (.ba 32) (.nl)))))) (.nl))), (.st [(.v (.slice none 0 0)), (.st [(.v (.int .u8 0)), (.ba (List.replicate 32 0)), (.ba (List.replicate 32 0)), (.ba (List.replicate 32 0)), (.ba (List.replicate 32 0))])]), 160⟩
theorem ti64_ok : ti64.ok Try.prog 64 := ti_ok (zc := (([(.slice none 0 0)]) ++ (((([(.int .u8 0)]) ++ ((((List.replicate 32 (0 : UInt8)).map B8)) ++ ((((List.replicate 32 (0 : UInt8)).map B8)) ++ ((((List.replicate 32 (0 : UInt8)).map B8)) ++ ((((List.replicate 32 (0 : UInt8)).map B8)) ++ ([]))))))) ++ ([])))) (by kernel_rfl) (by kernel_rfl) (fun _ => (.cn (.v rfl) (.cn (.cn (.v rfl) (.cn (.ba rfl) (.cn (.ba rfl) (.cn (.ba rfl) (.cn (.ba rfl) (.nl)))))) (.nl)))) (fun k h => by cases h)
def ti73 : TI := ⟨.ptr 105, .sc, (.v (.pointer none)), 8⟩
theorem ti73_ok : ti73.ok Try.prog 73 := ti_ok (zc := [(.pointer none)]) (by kernel_rfl) (by kernel_rfl) (fun _ => (.v rfl)) (fun k h => by cases h)
def ti85 : TI := ⟨.rcd [(0, 4), (1, 4), (2, 4)], (.cn .sc (.cn .sc (.cn .sc (.nl)))), (.st [(.v (.bool false)), (.v (.bool false)), (.v (.bool false))]), 3⟩
theorem ti85_ok : ti85.ok Try.prog 85 := ti_ok (zc := (([(.bool false)]) ++ (([(.bool false)]) ++ (([(.bool false)]) ++ ([]))))) (by kernel_rfl) (by kernel_rfl) (fun _ => (.cn (.v rfl) (.cn (.v rfl) (.cn (.v rfl) (.nl))))) (fun k h => by cases h)
def ti86 : TI := ⟨.rcd [(0, 4), (1, 4), (2, 4)], (.cn .sc (.cn .sc (.cn .sc (.nl)))), (.st [(.v (.bool false)), (.v (.bool false)), (.v (.bool false))]), 3⟩
theorem ti86_ok : ti86.ok Try.prog 86 := ti_ok (zc := (([(.bool false)]) ++ (([(.bool false)]) ++ (([(.bool false)]) ++ ([]))))) (by kernel_rfl) (by kernel_rfl) (fun _ => (.cn (.v rfl) (.cn (.v rfl) (.cn (.v rfl) (.nl))))) (fun k h => by cases h)
def ti100 : TI := ⟨.int .u32, .sc, (.v (.int .u32 0)), 4⟩
theorem ti100_ok : ti100.ok Try.prog 100 := ti_ok (zc := [(.int .u32 0)]) (by kernel_rfl) (by kernel_rfl) (fun _ => (.v rfl)) (fun k h => by cases h; rfl)
def ti101 : TI := ⟨.arr 8 100, (.cn .sc (.cn .sc (.cn .sc (.cn .sc (.cn .sc (.cn .sc (.cn .sc (.cn .sc (.nl))))))))), (.st [(.v (.int .u32 0)), (.v (.int .u32 0)), (.v (.int .u32 0)), (.v (.int .u32 0)), (.v (.int .u32 0)), (.v (.int .u32 0)), (.v (.int .u32 0)), (.v (.int .u32 0))]), 32⟩
theorem ti101_ok : ti101.ok Try.prog 101 := ti_ok (zc := (([(.int .u32 0)]) ++ (([(.int .u32 0)]) ++ (([(.int .u32 0)]) ++ (([(.int .u32 0)]) ++ (([(.int .u32 0)]) ++ (([(.int .u32 0)]) ++ (([(.int .u32 0)]) ++ (([(.int .u32 0)]) ++ ([])))))))))) (by kernel_rfl) (by kernel_rfl) (fun _ => (.cn (.v rfl) (.cn (.v rfl) (.cn (.v rfl) (.cn (.v rfl) (.cn (.v rfl) (.cn (.v rfl) (.cn (.v rfl) (.cn (.v rfl) (.nl)))))))))) (fun k h => by cases h)
def ti103 : TI := ⟨.arr 64 5, (.ba 64), (.ba (List.replicate 64 0)), 64⟩
theorem ti103_ok : ti103.ok Try.prog 103 := ti_ok (zc := ((List.replicate 64 (0 : UInt8)).map B8)) (by kernel_rfl) (by kernel_rfl) (fun _ => (.ba rfl)) (fun k h => by cases h)
def ti104 : TI := ⟨.rcd [(0, 4), (1, 101), (9, 103), (73, 3), (74, 3)], (.cn .sc (.cn (.cn .sc (.cn .sc (.cn .sc (.cn .sc (.cn .sc (.cn .sc (.cn .sc (.cn .sc (.nl))))))))) (.cn (.ba 64) (.cn .sc (.cn .sc (.nl)))))), (.st [(.v (.bool false)), (.st [(.v (.int .u32 0)), (.v (.int .u32 0)), (.v (.int .u32 0)), (.v (.int .u32 0)), (.v (.int .u32 0)), (.v (.int .u32 0)), (.v (.int .u32 0)), (.v (.int .u32 0))]), (.ba (List.replicate 64 0)), (.v (.int .i64 0)), (.v (.int .i64 0))]), 120⟩
theorem ti104_ok : ti104.ok Try.prog 104 := ti_ok (zc := (([(.bool false)]) ++ (((([(.int .u32 0)]) ++ (([(.int .u32 0)]) ++ (([(.int .u32 0)]) ++ (([(.int .u32 0)]) ++ (([(.int .u32 0)]) ++ (([(.int .u32 0)]) ++ (([(.int .u32 0)]) ++ (([(.int .u32 0)]) ++ ([])))))))))) ++ ((((List.replicate 64 (0 : UInt8)).map B8)) ++ (([(.int .i64 0)]) ++ (([(.int .i64 0)]) ++ ([]))))))) (by kernel_rfl) (by kernel_rfl) (fun _ => (.cn (.v rfl) (.cn (.cn (.v rfl) (.cn (.v rfl) (.cn (.v rfl) (.cn (.v rfl) (.cn (.v rfl) (.cn (.v rfl) (.cn (.v rfl) (.cn (.v rfl) (.nl))))))))) (.cn (.ba rfl) (.cn (.v rfl) (.cn (.v rfl) (.nl))))))) (fun k h => by cases h)
def ti105 : TI := ⟨.rcd [(0, 4), (1, 101), (9, 103), (73, 3), (74, 3)], (.cn .sc (.cn (.cn .sc (.cn .sc (.cn .sc (.cn .sc (.cn .sc (.cn .sc (.cn .sc (.cn .sc (.nl))))))))) (.cn (.ba 64) (.cn .sc (.cn .sc (.nl)))))), (.st [(.v (.bool false)), (.st [(.v (.int .u32 0)), (.v (.int .u32 0)), (.v (.int .u32 0)), (.v (.int .u32 0)), (.v (.int .u32 0)), (.v (.int .u32 0)), (.v (.int .u32 0)), (.v (.int .u32 0))]), (.ba (List.replicate 64 0)), (.v (.int .i64 0)), (.v (.int .i64 0))]), 120⟩
theorem ti105_ok : ti105.ok Try.prog 105 := ti_ok (zc := (([(.bool false)]) ++ (((([(.int .u32 0)]) ++ (([(.int .u32 0)]) ++ (([(.int .u32 0)]) ++ (([(.int .u32 0)]) ++ (([(.int .u32 0)]) ++ (([(.int .u32 0)]) ++ (([(.int .u32 0)]) ++ (([(.int .u32 0)]) ++ ([])))))))))) ++ ((((List.replicate 64 (0 : UInt8)).map B8)) ++ (([(.int .i64 0)]) ++ (([(.int .i64 0)]) ++ ([]))))))) (by kernel_rfl) (by kernel_rfl) (fun _ => (.cn (.v rfl) (.cn (.cn (.v rfl) (.cn (.v rfl) (.cn (.v rfl) (.cn (.v rfl) (.cn (.v rfl) (.cn (.v rfl) (.cn (.v rfl) (.cn (.v rfl) (.nl))))))))) (.cn (.ba rfl) (.cn (.v rfl) (.cn (.v rfl) (.nl))))))) (fun k h => by cases h)
def ti108 : TI := ⟨.int .u64, .sc, (.v (.int .u64 0)), 8⟩
theorem ti108_ok : ti108.ok Try.prog 108 := ti_ok (zc := [(.int .u64 0)]) (by kernel_rfl) (by kernel_rfl) (fun _ => (.v rfl)) (fun k h => by cases h; rfl)
def ti110 : TI := ⟨.int .u64, .sc, (.v (.int .u64 0)), 8⟩
theorem ti110_ok : ti110.ok Try.prog 110 := ti_ok (zc := [(.int .u64 0)]) (by kernel_rfl) (by kernel_rfl) (fun _ => (.v rfl)) (fun k h => by cases h; rfl)
def ti124 : TI := ⟨.ptr 148, .sc, (.v (.pointer none)), 8⟩
theorem ti124_ok : ti124.ok Try.prog 124 := ti_ok (zc := [(.pointer none)]) (by kernel_rfl) (by kernel_rfl) (fun _ => (.v rfl)) (fun k h => by cases h)
def ti136 : TI := ⟨.arr 64 100, (.cn .sc (.cn .sc (.cn .sc (.cn .sc (.cn .sc (.cn .sc (.cn .sc (.cn .sc (.cn .sc (.cn .sc (.cn .sc (.cn .sc (.cn .sc (.cn .sc (.cn .sc (.cn .sc (.cn .sc (.cn .sc (.cn .sc (.cn .sc (.cn .sc (.cn .sc (.cn .sc (.cn .sc (.cn .sc (.cn .sc (.cn .sc (.cn .sc (.cn .sc (.cn .sc (.cn .sc (.cn .sc (.cn .sc (.cn .sc (.cn .sc (.cn .sc (.cn .sc (.cn .sc (.cn .sc (.cn .sc (.cn .sc (.cn .sc (.cn .sc (.cn .sc (.cn .sc (.cn .sc (.cn .sc (.cn .sc (.cn .sc (.cn .sc (.cn .sc (.cn .sc (.cn .sc (.cn .sc (.cn .sc (.cn .sc (.cn .sc (.cn .sc (.cn .sc (.cn .sc (.cn .sc (.cn .sc (.cn .sc (.cn .sc (.nl))))))))))))))))))))))))))))))))))))))))))))))))))))))))))))))))), (.st [(.v (.int .u32 0)), (.v (.int .u32 0)), (.v (.int .u32 0)), (.v (.int .u32 0)), (.v (.int .u32 0)), (.v (.int .u32 0)), (.v (.int .u32 0)), (.v (.int .u32 0)), (.v (.int .u32 0)), (.v (.int .u32 0)), (.v (.int .u32 0)), (.v (.int .u32 0)), (.v (.int .u32 0)), (.v (.int .u32 0)), (.v (.int .u32 0)), (.v (.int .u32 0)), (.v (.int .u32 0)), (.v (.int .u32 0)), (.v (.int .u32 0)), (.v (.int .u32 0)), (.v (.int .u32 0)), (.v (.int .u32 0)), (.v (.int .u32 0)), (.v (.int .u32 0)), (.v (.int .u32 0)), (.v (.int .u32 0)), (.v (.int .u32 0)), (.v (.int .u32 0)), (.v (.int .u32 0)), (.v (.int .u32 0)), (.v (.int .u32 0)), (.v (.int .u32 0)), (.v (.int .u32 0)), (.v (.int .u32 0)), (.v (.int .u32 0)), (.v (.int .u32 0)), (.v (.int .u32 0)), (.v (.int .u32 0)), (.v (.int .u32 0)), (.v (.int .u32 0)), (.v (.int .u32 0)), (.v (.int .u32 0)), (.v (.int .u32 0)), (.v (.int .u32 0)), (.v (.int .u32 0)), (.v (.int .u32 0)), (.v (.int .u32 0)), (.v (.int .u32 0)), (.v (.int .u32 0)), (.v (.int .u32 0)), (.v (.int .u32 0)), (.v (.int .u32 0)), (.v (.int .u32 0)), (.v (.int .u32 0)), (.v (.int .u32 0)), (.v (.int .u32 0)), (.v (.int .u32 0)), (.v (.int .u32 0)), (.v (.int .u32 0)), (.v (.int .u32 0)), (.v (.int .u32 0)), (.v (.int .u32 0)), (.v (.int .u32 0)), (.v (.int .u32 0))]), 256⟩
theorem ti136_ok : ti136.ok Try.prog 136 := ti_ok (zc := (([(.int .u32 0)]) ++ (([(.int .u32 0)]) ++ (([(.int .u32 0)]) ++ (([(.int .u32 0)]) ++ (([(.int .u32 0)]) ++ (([(.int .u32 0)]) ++ (([(.int .u32 0)]) ++ (([(.int .u32 0)]) ++ (([(.int .u32 0)]) ++ (([(.int .u32 0)]) ++ (([(.int .u32 0)]) ++ (([(.int .u32 0)]) ++ (([(.int .u32 0)]) ++ (([(.int .u32 0)]) ++ (([(.int .u32 0)]) ++ (([(.int .u32 0)]) ++ (([(.int .u32 0)]) ++ (([(.int .u32 0)]) ++ (([(.int .u32 0)]) ++ (([(.int .u32 0)]) ++ (([(.int .u32 0)]) ++ (([(.int .u32 0)]) ++ (([(.int .u32 0)]) ++ (([(.int .u32 0)]) ++ (([(.int .u32 0)]) ++ (([(.int .u32 0)]) ++ (([(.int .u32 0)]) ++ (([(.int .u32 0)]) ++ (([(.int .u32 0)]) ++ (([(.int .u32 0)]) ++ (([(.int .u32 0)]) ++ (([(.int .u32 0)]) ++ (([(.int .u32 0)]) ++ (([(.int .u32 0)]) ++ (([(.int .u32 0)]) ++ (([(.int .u32 0)]) ++ (([(.int .u32 0)]) ++ (([(.int .u32 0)]) ++ (([(.int .u32 0)]) ++ (([(.int .u32 0)]) ++ (([(.int .u32 0)]) ++ (([(.int .u32 0)]) ++ (([(.int .u32 0)]) ++ (([(.int .u32 0)]) ++ (([(.int .u32 0)]) ++ (([(.int .u32 0)]) ++ (([(.int .u32 0)]) ++ (([(.int .u32 0)]) ++ (([(.int .u32 0)]) ++ (([(.int .u32 0)]) ++ (([(.int .u32 0)]) ++ (([(.int .u32 0)]) ++ (([(.int .u32 0)]) ++ (([(.int .u32 0)]) ++ (([(.int .u32 0)]) ++ (([(.int .u32 0)]) ++ (([(.int .u32 0)]) ++ (([(.int .u32 0)]) ++ (([(.int .u32 0)]) ++ (([(.int .u32 0)]) ++ (([(.int .u32 0)]) ++ (([(.int .u32 0)]) ++ (([(.int .u32 0)]) ++ (([(.int .u32 0)]) ++ ([])))))))))))))))))))))))))))))))))))))))))))))))))))))))))))))))))) (by kernel_rfl) (by kernel_rfl) (fun _ => (.cn (.v rfl) (.cn (.v rfl) (.cn (.v rfl) (.cn (.v rfl) (.cn (.v rfl) (.cn (.v rfl) (.cn (.v rfl) (.cn (.v rfl) (.cn (.v rfl) (.cn (.v rfl) (.cn (.v rfl) (.cn (.v rfl) (.cn (.v rfl) (.cn (.v rfl) (.cn (.v rfl) (.cn (.v rfl) (.cn (.v rfl) (.cn (.v rfl) (.cn (.v rfl) (.cn (.v rfl) (.cn (.v rfl) (.cn (.v rfl) (.cn (.v rfl) (.cn (.v rfl) (.cn (.v rfl) (.cn (.v rfl) (.cn (.v rfl) (.cn (.v rfl) (.cn (.v rfl) (.cn (.v rfl) (.cn (.v rfl) (.cn (.v rfl) (.cn (.v rfl) (.cn (.v rfl) (.cn (.v rfl) (.cn (.v rfl) (.cn (.v rfl) (.cn (.v rfl) (.cn (.v rfl) (.cn (.v rfl) (.cn (.v rfl) (.cn (.v rfl) (.cn (.v rfl) (.cn (.v rfl) (.cn (.v rfl) (.cn (.v rfl) (.cn (.v rfl) (.cn (.v rfl) (.cn (.v rfl) (.cn (.v rfl) (.cn (.v rfl) (.cn (.v rfl) (.cn (.v rfl) (.cn (.v rfl) (.cn (.v rfl) (.cn (.v rfl) (.cn (.v rfl) (.cn (.v rfl) (.cn (.v rfl) (.cn (.v rfl) (.cn (.v rfl) (.cn (.v rfl) (.cn (.v rfl) (.cn (.v rfl) (.nl)))))))))))))))))))))))))))))))))))))))))))))))))))))))))))))))))) (fun k h => by cases h)
def ti147 : TI := ⟨.rcd [(0, 4), (1, 4), (2, 24)], (.cn .sc (.cn .sc (.cn .sc (.nl)))), (.st [(.v (.bool false)), (.v (.bool false)), (.v (.slice none 0 0))]), 32⟩
theorem ti147_ok : ti147.ok Try.prog 147 := ti_ok (zc := (([(.bool false)]) ++ (([(.bool false)]) ++ (([(.slice none 0 0)]) ++ ([]))))) (by kernel_rfl) (by kernel_rfl) (fun _ => (.cn (.v rfl) (.cn (.v rfl) (.cn (.v rfl) (.nl))))) (fun k h => by cases h)
def ti148 : TI := ⟨.rcd [(0, 4), (1, 4), (2, 24)], (.cn .sc (.cn .sc (.cn .sc (.nl)))), (.st [(.v (.bool false)), (.v (.bool false)), (.v (.slice none 0 0))]), 32⟩
theorem ti148_ok : ti148.ok Try.prog 148 := ti_ok (zc := (([(.bool false)]) ++ (([(.bool false)]) ++ (([(.slice none 0 0)]) ++ ([]))))) (by kernel_rfl) (by kernel_rfl) (fun _ => (.cn (.v rfl) (.cn (.v rfl) (.cn (.v rfl) (.nl))))) (fun k h => by cases h)
def ti163 : TI := ⟨.ptr 5, .sc, (.v (.pointer none)), 8⟩
theorem ti163_ok : ti163.ok Try.prog 163 := ti_ok (zc := [(.pointer none)]) (by kernel_rfl) (by kernel_rfl) (fun _ => (.v rfl)) (fun k h => by cases h)
@[simp] theorem ti2_t : ti2.ty = .sc := rfl
@[simp] theorem ti2_z : ti2.zero = (.v (.int .i64 0)) := rfl
@[simp] theorem ti2_b : ti2.bytes = 8 := rfl
@[simp] theorem ti3_t : ti3.ty = .sc := rfl
@[simp] theorem ti3_z : ti3.zero = (.v (.int .i64 0)) := rfl
@[simp] theorem ti3_b : ti3.bytes = 8 := rfl
@[simp] theorem ti4_t : ti4.ty = .sc := rfl
@[simp] theorem ti4_z : ti4.zero = (.v (.bool false)) := rfl
@[simp] theorem ti4_b : ti4.bytes = 1 := rfl
@[simp] theorem ti5_t : ti5.ty = .sc := rfl
@[simp] theorem ti5_z : ti5.zero = (.v (.int .u8 0)) := rfl
@[simp] theorem ti5_b : ti5.bytes = 1 := rfl
@[simp] theorem ti9_t : ti9.ty = .sc := rfl
@[simp] theorem ti9_z : ti9.zero = (.v (.string ⟨#[]⟩)) := rfl
@[simp] theorem ti9_b : ti9.bytes = 16 := rfl
@[simp] theorem ti21_t : ti21.ty = .sc := rfl
@[simp] theorem ti21_z : ti21.zero = (.v (.int .i32 0)) := rfl
@[simp] theorem ti21_b : ti21.bytes = 4 := rfl
@[simp] theorem ti22_t : ti22.ty = (.ba 32) := rfl
@[simp] theorem ti22_z : ti22.zero = (.ba (List.replicate 32 0)) := rfl
@[simp] theorem ti22_b : ti22.bytes = 32 := rfl
@[simp] theorem ti23_t : ti23.ty = (.ba 32) := rfl
@[simp] theorem ti23_z : ti23.zero = (.ba (List.replicate 32 0)) := rfl
@[simp] theorem ti23_b : ti23.bytes = 32 := rfl
@[simp] theorem ti24_t : ti24.ty = .sc := rfl
@[simp] theorem ti24_z : ti24.zero = (.v (.slice none 0 0)) := rfl
@[simp] theorem ti24_b : ti24.bytes = 24 := rfl
@[simp] theorem ti26_t : ti26.ty = .sc := rfl
@[simp] theorem ti26_z : ti26.zero = (.v (.slice none 0 0)) := rfl
@[simp] theorem ti26_b : ti26.bytes = 24 := rfl
@[simp] theorem ti27_t : ti27.ty = .sc := rfl
@[simp] theorem ti27_z : ti27.zero = (.v (.int .i64 0)) := rfl
@[simp] theorem ti27_b : ti27.bytes = 8 := rfl
@[simp] theorem ti30_t : ti30.ty = (.ba 32) := rfl
@[simp] theorem ti30_z : ti30.zero = (.ba (List.replicate 32 0)) := rfl
@[simp] theorem ti30_b : ti30.bytes = 32 := rfl
@[simp] theorem ti41_t : ti41.ty = .sc := rfl
@[simp] theorem ti41_z : ti41.zero = (.v (.slice none 0 0)) := rfl
@[simp] theorem ti41_b : ti41.bytes = 24 := rfl
@[simp] theorem ti42_t : ti42.ty = (.cn .sc (.cn (.ba 32) (.nl))) := rfl
@[simp] theorem ti42_z : ti42.zero = (.st [(.v (.bool false)), (.ba (List.replicate 32 0))]) := rfl
@[simp] theorem ti42_b : ti42.bytes = 33 := rfl
@[simp] theorem ti43_t : ti43.ty = (.cn .sc (.cn (.ba 32) (.nl))) := rfl
@[simp] theorem ti43_z : ti43.zero = (.st [(.v (.bool false)), (.ba (List.replicate 32 0))]) := rfl
@[simp] theorem ti43_b : ti43.bytes = 33 := rfl
@[simp] theorem ti51_t : ti51.ty = (.cn .sc (.cn .sc (.cn .sc (.nl)))) := rfl
@[simp] theorem ti51_z : ti51.zero = (.st [(.v (.bool false)), (.v (.slice none 0 0)), (.v (.slice none 0 0))]) := rfl
@[simp] theorem ti51_b : ti51.bytes = 56 := rfl
@[simp] theorem ti52_t : ti52.ty = (.cn .sc (.cn .sc (.cn .sc (.nl)))) := rfl
@[simp] theorem ti52_z : ti52.zero = (.st [(.v (.bool false)), (.v (.slice none 0 0)), (.v (.slice none 0 0))]) := rfl
@[simp] theorem ti52_b : ti52.bytes = 56 := rfl
@[simp] theorem ti53_t : ti53.ty = (.cn .sc (.cn .sc (.nl))) := rfl
@[simp] theorem ti53_z : ti53.zero = (.st [(.v (.slice none 0 0)), (.v (.slice none 0 0))]) := rfl
@[simp] theorem ti53_b : ti53.bytes = 48 := rfl
@[simp] theorem ti54_t : ti54.ty = (.cn .sc (.cn .sc (.nl))) := rfl
@[simp] theorem ti54_z : ti54.zero = (.st [(.v (.slice none 0 0)), (.v (.slice none 0 0))]) := rfl
@[simp] theorem ti54_b : ti54.bytes = 48 := rfl
@[simp] theorem ti60_t : ti60.ty = .sc := rfl
@[simp] theorem ti60_z : ti60.zero = (.v (.int .u8 0)) := rfl
@[simp] theorem ti60_b : ti60.bytes = 1 := rfl
@[simp] theorem ti61_t : ti61.ty = (.cn .sc (.cn (.ba 32) (.cn (.ba 32) (.cn (.ba 32) (.cn (.ba 32) (.nl)))))) := rfl
@[simp] theorem ti61_z : ti61.zero = (.st [(.v (.int .u8 0)), (.ba (List.replicate 32 0)), (.ba (List.replicate 32 0)), (.ba (List.replicate 32 0)), (.ba (List.replicate 32 0))]) := rfl
@[simp] theorem ti61_b : ti61.bytes = 129 := rfl
@[simp] theorem ti62_t : ti62.ty = (.cn .sc (.cn (.ba 32) (.cn (.ba 32) (.cn (.ba 32) (.cn (.ba 32) (.nl)))))) := rfl
@[simp] theorem ti62_z : ti62.zero = (.st [(.v (.int .u8 0)), (.ba (List.replicate 32 0)), (.ba (List.replicate 32 0)), (.ba (List.replicate 32 0)), (.ba (List.replicate 32 0))]) := rfl
@[simp] theorem ti62_b : ti62.bytes = 129 := rfl
@[simp] theorem ti63_t : ti63.ty = (.cn .sc (.cn (.cn .sc (.cn (.ba 32) (.cn (.ba 32) (.cn (.ba 32) (.cn (.ba 32) (.nl)))))) (.nl))) := rfl
@[simp] theorem ti63_z : ti63.zero = (.st [(.v (.slice none 0 0)), (.st [(.v (.int .u8 0)), (.ba (List.replicate 32 0)), (.ba (List.replicate 32 0)), (.ba (List.replicate 32 0)), (.ba (List.replicate 32 0))])]) := rfl
@[simp] theorem ti63_b : ti63.bytes = 160 := rfl
@[simp] theorem ti64_t : ti64.ty = (.cn .sc (.cn (.cn .sc (.cn (.ba 32) (.cn (.ba 32) (.cn (.ba 32) (.cn (.ba 32) (.nl)))))) (.nl))) := rfl
@[simp] theorem ti64_z : ti64.zero = (.st [(.v (.slice none 0 0)), (.st [(.v (.int .u8 0)), (.ba (List.replicate 32 0)), (.ba (List.replicate 32 0)), (.ba (List.replicate 32 0)), (.ba (List.replicate 32 0))])]) := rfl
@[simp] theorem ti64_b : ti64.bytes = 160 := rfl
@[simp] theorem ti73_t : ti73.ty = .sc := rfl
@[simp] theorem ti73_z : ti73.zero = (.v (.pointer none)) := rfl
@[simp] theorem ti73_b : ti73.bytes = 8 := rfl
@[simp] theorem ti85_t : ti85.ty = (.cn .sc (.cn .sc (.cn .sc (.nl)))) := rfl
@[simp] theorem ti85_z : ti85.zero = (.st [(.v (.bool false)), (.v (.bool false)), (.v (.bool false))]) := rfl
@[simp] theorem ti85_b : ti85.bytes = 3 := rfl
@[simp] theorem ti86_t : ti86.ty = (.cn .sc (.cn .sc (.cn .sc (.nl)))) := rfl
@[simp] theorem ti86_z : ti86.zero = (.st [(.v (.bool false)), (.v (.bool false)), (.v (.bool false))]) := rfl
@[simp] theorem ti86_b : ti86.bytes = 3 := rfl
@[simp] theorem ti100_t : ti100.ty = .sc := rfl
@[simp] theorem ti100_z : ti100.zero = (.v (.int .u32 0)) := rfl
@[simp] theorem ti100_b : ti100.bytes = 4 := rfl
@[simp] theorem ti101_t : ti101.ty = (.cn .sc (.cn .sc (.cn .sc (.cn .sc (.cn .sc (.cn .sc (.cn .sc (.cn .sc (.nl))))))))) := rfl
@[simp] theorem ti101_z : ti101.zero = (.st [(.v (.int .u32 0)), (.v (.int .u32 0)), (.v (.int .u32 0)), (.v (.int .u32 0)), (.v (.int .u32 0)), (.v (.int .u32 0)), (.v (.int .u32 0)), (.v (.int .u32 0))]) := rfl
@[simp] theorem ti101_b : ti101.bytes = 32 := rfl
@[simp] theorem ti103_t : ti103.ty = (.ba 64) := rfl
@[simp] theorem ti103_z : ti103.zero = (.ba (List.replicate 64 0)) := rfl
@[simp] theorem ti103_b : ti103.bytes = 64 := rfl
@[simp] theorem ti104_t : ti104.ty = (.cn .sc (.cn (.cn .sc (.cn .sc (.cn .sc (.cn .sc (.cn .sc (.cn .sc (.cn .sc (.cn .sc (.nl))))))))) (.cn (.ba 64) (.cn .sc (.cn .sc (.nl)))))) := rfl
@[simp] theorem ti104_z : ti104.zero = (.st [(.v (.bool false)), (.st [(.v (.int .u32 0)), (.v (.int .u32 0)), (.v (.int .u32 0)), (.v (.int .u32 0)), (.v (.int .u32 0)), (.v (.int .u32 0)), (.v (.int .u32 0)), (.v (.int .u32 0))]), (.ba (List.replicate 64 0)), (.v (.int .i64 0)), (.v (.int .i64 0))]) := rfl
@[simp] theorem ti104_b : ti104.bytes = 120 := rfl
@[simp] theorem ti105_t : ti105.ty = (.cn .sc (.cn (.cn .sc (.cn .sc (.cn .sc (.cn .sc (.cn .sc (.cn .sc (.cn .sc (.cn .sc (.nl))))))))) (.cn (.ba 64) (.cn .sc (.cn .sc (.nl)))))) := rfl
@[simp] theorem ti105_z : ti105.zero = (.st [(.v (.bool false)), (.st [(.v (.int .u32 0)), (.v (.int .u32 0)), (.v (.int .u32 0)), (.v (.int .u32 0)), (.v (.int .u32 0)), (.v (.int .u32 0)), (.v (.int .u32 0)), (.v (.int .u32 0))]), (.ba (List.replicate 64 0)), (.v (.int .i64 0)), (.v (.int .i64 0))]) := rfl
@[simp] theorem ti105_b : ti105.bytes = 120 := rfl
@[simp] theorem ti108_t : ti108.ty = .sc := rfl
@[simp] theorem ti108_z : ti108.zero = (.v (.int .u64 0)) := rfl
@[simp] theorem ti108_b : ti108.bytes = 8 := rfl
@[simp] theorem ti110_t : ti110.ty = .sc := rfl
@[simp] theorem ti110_z : ti110.zero = (.v (.int .u64 0)) := rfl
@[simp] theorem ti110_b : ti110.bytes = 8 := rfl
@[simp] theorem ti124_t : ti124.ty = .sc := rfl
@[simp] theorem ti124_z : ti124.zero = (.v (.pointer none)) := rfl
@[simp] theorem ti124_b : ti124.bytes = 8 := rfl
@[simp] theorem ti136_t : ti136.ty = (.cn .sc (.cn .sc (.cn .sc (.cn .sc (.cn .sc (.cn .sc (.cn .sc (.cn .sc (.cn .sc (.cn .sc (.cn .sc (.cn .sc (.cn .sc (.cn .sc (.cn .sc (.cn .sc (.cn .sc (.cn .sc (.cn .sc (.cn .sc (.cn .sc (.cn .sc (.cn .sc (.cn .sc (.cn .sc (.cn .sc (.cn .sc (.cn .sc (.cn .sc (.cn .sc (.cn .sc (.cn .sc (.cn .sc (.cn .sc (.cn .sc (.cn .sc (.cn .sc (.cn .sc (.cn .sc (.cn .sc (.cn .sc (.cn .sc (.cn .sc (.cn .sc (.cn .sc (.cn .sc (.cn .sc (.cn .sc (.cn .sc (.cn .sc (.cn .sc (.cn .sc (.cn .sc (.cn .sc (.cn .sc (.cn .sc (.cn .sc (.cn .sc (.cn .sc (.cn .sc (.cn .sc (.cn .sc (.cn .sc (.cn .sc (.nl))))))))))))))))))))))))))))))))))))))))))))))))))))))))))))))))) := rfl
@[simp] theorem ti136_z : ti136.zero = (.st [(.v (.int .u32 0)), (.v (.int .u32 0)), (.v (.int .u32 0)), (.v (.int .u32 0)), (.v (.int .u32 0)), (.v (.int .u32 0)), (.v (.int .u32 0)), (.v (.int .u32 0)), (.v (.int .u32 0)), (.v (.int .u32 0)), (.v (.int .u32 0)), (.v (.int .u32 0)), (.v (.int .u32 0)), (.v (.int .u32 0)), (.v (.int .u32 0)), (.v (.int .u32 0)), (.v (.int .u32 0)), (.v (.int .u32 0)), (.v (.int .u32 0)), (.v (.int .u32 0)), (.v (.int .u32 0)), (.v (.int .u32 0)), (.v (.int .u32 0)), (.v (.int .u32 0)), (.v (.int .u32 0)), (.v (.int .u32 0)), (.v (.int .u32 0)), (.v (.int .u32 0)), (.v (.int .u32 0)), (.v (.int .u32 0)), (.v (.int .u32 0)), (.v (.int .u32 0)), (.v (.int .u32 0)), (.v (.int .u32 0)), (.v (.int .u32 0)), (.v (.int .u32 0)), (.v (.int .u32 0)), (.v (.int .u32 0)), (.v (.int .u32 0)), (.v (.int .u32 0)), (.v (.int .u32 0)), (.v (.int .u32 0)), (.v (.int .u32 0)), (.v (.int .u32 0)), (.v (.int .u32 0)), (.v (.int .u32 0)), (.v (.int .u32 0)), (.v (.int .u32 0)), (.v (.int .u32 0)), (.v (.int .u32 0)), (.v (.int .u32 0)), (.v (.int .u32 0)), (.v (.int .u32 0)), (.v (.int .u32 0)), (.v (.int .u32 0)), (.v (.int .u32 0)), (.v (.int .u32 0)), (.v (.int .u32 0)), (.v (.int .u32 0)), (.v (.int .u32 0)), (.v (.int .u32 0)), (.v (.int .u32 0)), (.v (.int .u32 0)), (.v (.int .u32 0))]) := rfl
@[simp] theorem ti136_b : ti136.bytes = 256 := rfl
@[simp] theorem ti147_t : ti147.ty = (.cn .sc (.cn .sc (.cn .sc (.nl)))) := rfl
@[simp] theorem ti147_z : ti147.zero = (.st [(.v (.bool false)), (.v (.bool false)), (.v (.slice none 0 0))]) := rfl
@[simp] theorem ti147_b : ti147.bytes = 32 := rfl
@[simp] theorem ti148_t : ti148.ty = (.cn .sc (.cn .sc (.cn .sc (.nl)))) := rfl
@[simp] theorem ti148_z : ti148.zero = (.st [(.v (.bool false)), (.v (.bool false)), (.v (.slice none 0 0))]) := rfl
@[simp] theorem ti148_b : ti148.bytes = 32 := rfl
@[simp] theorem ti163_t : ti163.ty = .sc := rfl
@[simp] theorem ti163_z : ti163.zero = (.v (.pointer none)) := rfl
@[simp] theorem ti163_b : ti163.bytes = 8 := rfl
def tab : Tab := [(2, ti2), (3, ti3), (4, ti4), (5, ti5), (9, ti9), (21, ti21), (22, ti22), (23, ti23), (24, ti24), (26, ti26), (27, ti27), (30, ti30), (41, ti41), (42, ti42), (43, ti43), (51, ti51), (52, ti52), (53, ti53), (54, ti54), (60, ti60), (61, ti61), (62, ti62), (63, ti63), (64, ti64), (73, ti73), (85, ti85), (86, ti86), (100, ti100), (101, ti101), (103, ti103), (104, ti104), (105, ti105), (108, ti108), (110, ti110), (124, ti124), (136, ti136), (147, ti147), (148, ti148), (163, ti163)]
theorem tab_ok : tab.ok Try.prog := by
  refine List.forall_mem_cons.2 ⟨ti2_ok, List.forall_mem_cons.2 ⟨ti3_ok, List.forall_mem_cons.2 ⟨ti4_ok, List.forall_mem_cons.2 ⟨ti5_ok, List.forall_mem_cons.2 ⟨ti9_ok, List.forall_mem_cons.2 ⟨ti21_ok, List.forall_mem_cons.2 ⟨ti22_ok, List.forall_mem_cons.2 ⟨ti23_ok, List.forall_mem_cons.2 ⟨ti24_ok, List.forall_mem_cons.2 ⟨ti26_ok, List.forall_mem_cons.2 ⟨ti27_ok, List.forall_mem_cons.2 ⟨ti30_ok, List.forall_mem_cons.2 ⟨ti41_ok, List.forall_mem_cons.2 ⟨ti42_ok, List.forall_mem_cons.2 ⟨ti43_ok, List.forall_mem_cons.2 ⟨ti51_ok, List.forall_mem_cons.2 ⟨ti52_ok, List.forall_mem_cons.2 ⟨ti53_ok, List.forall_mem_cons.2 ⟨ti54_ok, List.forall_mem_cons.2 ⟨ti60_ok, List.forall_mem_cons.2 ⟨ti61_ok, List.forall_mem_cons.2 ⟨ti62_ok, List.forall_mem_cons.2 ⟨ti63_ok, List.forall_mem_cons.2 ⟨ti64_ok, List.forall_mem_cons.2 ⟨ti73_ok, List.forall_mem_cons.2 ⟨ti85_ok, List.forall_mem_cons.2 ⟨ti86_ok, List.forall_mem_cons.2 ⟨ti100_ok, List.forall_mem_cons.2 ⟨ti101_ok, List.forall_mem_cons.2 ⟨ti103_ok, List.forall_mem_cons.2 ⟨ti104_ok, List.forall_mem_cons.2 ⟨ti105_ok, List.forall_mem_cons.2 ⟨ti108_ok, List.forall_mem_cons.2 ⟨ti110_ok, List.forall_mem_cons.2 ⟨ti124_ok, List.forall_mem_cons.2 ⟨ti136_ok, List.forall_mem_cons.2 ⟨ti147_ok, List.forall_mem_cons.2 ⟨ti148_ok, List.forall_mem_cons.2 ⟨ti163_ok, fun p hp => by cases hp⟩⟩⟩⟩⟩⟩⟩⟩⟩⟩⟩⟩⟩⟩⟩⟩⟩⟩⟩⟩⟩⟩⟩⟩⟩⟩⟩⟩⟩⟩⟩⟩⟩⟩⟩⟩⟩⟩⟩
end Go.Proofs.Ytlagngkafllbiaa
