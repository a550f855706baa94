/- The types of the program, as they lie in memory. By program (gen_tab.py). -/
import Derived.Test.YtpeefeioccglcaaA4
set_option linter.unusedSimpArgs false
set_option linter.unusedVariables false
namespace Go.Proofs.Ytpeefeioccglcaa
open Go Go.RowKit
def ti2 : TI := ⟨.int .i64, .sc, (.v (.int .i64 0)), 8⟩
theorem ti2_ok : ti2.ok Try.prog 2 := ti_ok (zc := [(.int .i64 0)]) (by kernel_rfl) (by kernel_rfl) (fun _ => (.v rfl)) (fun k h => by cases h; rfl)
def ti3 : TI := ⟨.int .i64, .sc, (.v (.int .i64 0)), 8⟩
theorem ti3_ok : ti3.ok Try.prog 3 := ti_ok (zc := [(.int .i64 0)]) (by kernel_rfl) (by kernel_rfl) (fun _ => (.v rfl)) (fun k h => by cases h; rfl)
def ti4 : TI := ⟨.bool, .sc, (.v (.bool false)), 1⟩
theorem ti4_ok : ti4.ok Try.prog 4 := ti_ok (zc := [(.bool false)]) (by kernel_rfl) (by kernel_rfl) (fun _ => (.v rfl)) (fun k h => by cases h)
def ti5 : TI := ⟨.int .u8, .sc, (.v (.int .u8 0)), 1⟩
theorem ti5_ok : ti5.ok Try.prog 5 := ti_ok (zc := [(.int .u8 0)]) (by kernel_rfl) (by kernel_rfl) (fun _ => (.v rfl)) (fun k h => by cases h; rfl)
def ti9 : TI := ⟨.str, .sc, (.v (.string ⟨#[]⟩)), 16⟩
theorem ti9_ok : ti9.ok Try.prog 9 := ti_ok (zc := [(.string ⟨#[]⟩)]) (by kernel_rfl) (by kernel_rfl) (fun _ => (.v rfl)) (fun k h => by cases h)
def ti21 : TI := ⟨.int .i32, .sc, (.v (.int .i32 0)), 4⟩
theorem ti21_ok : ti21.ok Try.prog 21 := ti_ok (zc := [(.int .i32 0)]) (by kernel_rfl) (by kernel_rfl) (fun _ => (.v rfl)) (fun k h => by cases h; rfl)
def ti22 : TI := ⟨.slc 5, .sc, (.v (.slice none 0 0)), 24⟩
theorem ti22_ok : ti22.ok Try.prog 22 := ti_ok (zc := [(.slice none 0 0)]) (by kernel_rfl) (by kernel_rfl) (fun _ => (.v rfl)) (fun k h => by cases h)
def ti23 : TI := ⟨.slc 39, .sc, (.v (.slice none 0 0)), 24⟩
theorem ti23_ok : ti23.ok Try.prog 23 := ti_ok (zc := [(.slice none 0 0)]) (by kernel_rfl) (by kernel_rfl) (fun _ => (.v rfl)) (fun k h => by cases h)
def ti25 : TI := ⟨.ptr 180, .sc, (.v (.pointer none)), 8⟩
theorem ti25_ok : ti25.ok Try.prog 25 := ti_ok (zc := [(.pointer none)]) (by kernel_rfl) (by kernel_rfl) (fun _ => (.v rfl)) (fun k h => by cases h)
def ti26 : TI := ⟨.int .i64, .sc, (.v (.int .i64 0)), 8⟩
theorem ti26_ok : ti26.ok Try.prog 26 := ti_ok (zc := [(.int .i64 0)]) (by kernel_rfl) (by kernel_rfl) (fun _ => (.v rfl)) (fun k h => by cases h; rfl)
def ti29 : TI := ⟨.ptr 182, .sc, (.v (.pointer none)), 8⟩
theorem ti29_ok : ti29.ok Try.prog 29 := ti_ok (zc := [(.pointer none)]) (by kernel_rfl) (by kernel_rfl) (fun _ => (.v rfl)) (fun k h => by cases h)
def ti32 : TI := ⟨.ptr 36, .sc, (.v (.pointer none)), 8⟩
theorem ti32_ok : ti32.ok Try.prog 32 := ti_ok (zc := [(.pointer none)]) (by kernel_rfl) (by kernel_rfl) (fun _ => (.v rfl)) (fun k h => by cases h)
def ti33 : TI := ⟨.ptr 349, .sc, (.v (.pointer none)), 8⟩
theorem ti33_ok : ti33.ok Try.prog 33 := ti_ok (zc := [(.pointer none)]) (by kernel_rfl) (by kernel_rfl) (fun _ => (.v rfl)) (fun k h => by cases h)
def ti34 : TI := ⟨.ptr 353, .sc, (.v (.pointer none)), 8⟩
theorem ti34_ok : ti34.ok Try.prog 34 := ti_ok (zc := [(.pointer none)]) (by kernel_rfl) (by kernel_rfl) (fun _ => (.v rfl)) (fun k h => by cases h)
def ti35 : TI := ⟨.rcd [(0, 25), (1, 33), (2, 29), (3, 34), (4, 3)], (.cn .sc (.cn .sc (.cn .sc (.cn .sc (.cn .sc (.nl)))))), (.st [(.v (.pointer none)), (.v (.pointer none)), (.v (.pointer none)), (.v (.pointer none)), (.v (.int .i64 0))]), 40⟩
theorem ti35_ok : ti35.ok Try.prog 35 := ti_ok (zc := (([(.pointer none)]) ++ (([(.pointer none)]) ++ (([(.pointer none)]) ++ (([(.pointer none)]) ++ (([(.int .i64 0)]) ++ ([]))))))) (by kernel_rfl) (by kernel_rfl) (fun _ => (.cn (.v rfl) (.cn (.v rfl) (.cn (.v rfl) (.cn (.v rfl) (.cn (.v rfl) (.nl))))))) (fun k h => by cases h)
def ti36 : TI := ⟨.rcd [(0, 25), (1, 33), (2, 29), (3, 34), (4, 3)], (.cn .sc (.cn .sc (.cn .sc (.cn .sc (.cn .sc (.nl)))))), (.st [(.v (.pointer none)), (.v (.pointer none)), (.v (.pointer none)), (.v (.pointer none)), (.v (.int .i64 0))]), 40⟩
theorem ti36_ok : ti36.ok Try.prog 36 := ti_ok (zc := (([(.pointer none)]) ++ (([(.pointer none)]) ++ (([(.pointer none)]) ++ (([(.pointer none)]) ++ (([(.int .i64 0)]) ++ ([]))))))) (by kernel_rfl) (by kernel_rfl) (fun _ => (.cn (.v rfl) (.cn (.v rfl) (.cn (.v rfl) (.cn (.v rfl) (.cn (.v rfl) (.nl))))))) (fun k h => by cases h)
def ti37 : TI := ⟨.slc 178, .sc, (.v (.slice none 0 0)), 24⟩
theorem ti37_ok : ti37.ok Try.prog 37 := ti_ok (zc := [(.slice none 0 0)]) (by kernel_rfl) (by kernel_rfl) (fun _ => (.v rfl)) (fun k h => by cases h)
def ti38 : TI := ⟨.rcd [(0, 3), (1, 3), (2, 22), (3, 37)], (.cn .sc (.cn .sc (.cn .sc (.cn .sc (.nl))))), (.st [(.v (.int .i64 0)), (.v (.int .i64 0)), (.v (.slice none 0 0)), (.v (.slice none 0 0))]), 64⟩
theorem ti38_ok : ti38.ok Try.prog 38 := ti_ok (zc := (([(.int .i64 0)]) ++ (([(.int .i64 0)]) ++ (([(.slice none 0 0)]) ++ (([(.slice none 0 0)]) ++ ([])))))) (by kernel_rfl) (by kernel_rfl) (fun _ => (.cn (.v rfl) (.cn (.v rfl) (.cn (.v rfl) (.cn (.v rfl) (.nl)))))) (fun k h => by cases h)
def ti39 : TI := ⟨.rcd [(0, 3), (1, 3), (2, 22), (3, 37)], (.cn .sc (.cn .sc (.cn .sc (.cn .sc (.nl))))), (.st [(.v (.int .i64 0)), (.v (.int .i64 0)), (.v (.slice none 0 0)), (.v (.slice none 0 0))]), 64⟩
theorem ti39_ok : ti39.ok Try.prog 39 := ti_ok (zc := (([(.int .i64 0)]) ++ (([(.int .i64 0)]) ++ (([(.slice none 0 0)]) ++ (([(.slice none 0 0)]) ++ ([])))))) (by kernel_rfl) (by kernel_rfl) (fun _ => (.cn (.v rfl) (.cn (.v rfl) (.cn (.v rfl) (.cn (.v rfl) (.nl)))))) (fun k h => by cases h)
def ti48 : TI := ⟨.int .u8, .sc, (.v (.int .u8 0)), 1⟩
theorem ti48_ok : ti48.ok Try.prog 48 := ti_ok (zc := [(.int .u8 0)]) (by kernel_rfl) (by kernel_rfl) (fun _ => (.v rfl)) (fun k h => by cases h; rfl)
def ti49 : TI := ⟨.arr 32 5, (.ba 32), (.ba (List.replicate 32 0)), 32⟩
theorem ti49_ok : ti49.ok Try.prog 49 := ti_ok (zc := ((List.replicate 32 (0 : UInt8)).map B8)) (by kernel_rfl) (by kernel_rfl) (fun _ => (.ba rfl)) (fun k h => by cases h)
def ti50 : TI := ⟨.arr 32 5, (.ba 32), (.ba (List.replicate 32 0)), 32⟩
theorem ti50_ok : ti50.ok Try.prog 50 := ti_ok (zc := ((List.replicate 32 (0 : UInt8)).map B8)) (by kernel_rfl) (by kernel_rfl) (fun _ => (.ba rfl)) (fun k h => by cases h)
def ti51 : TI := ⟨.arr 32 5, (.ba 32), (.ba (List.replicate 32 0)), 32⟩
theorem ti51_ok : ti51.ok Try.prog 51 := ti_ok (zc := ((List.replicate 32 (0 : UInt8)).map B8)) (by kernel_rfl) (by kernel_rfl) (fun _ => (.ba rfl)) (fun k h => by cases h)
def ti52 : TI := ⟨.rcd [(0, 48), (1, 50), (33, 51), (65, 51), (97, 51)], (.cn .sc (.cn (.ba 32) (.cn (.ba 32) (.cn (.ba 32) (.cn (.ba 32) (.nl)))))), (.st [(.v (.int .u8 0)), (.ba (List.replicate 32 0)), (.ba (List.replicate 32 0)), (.ba (List.replicate 32 0)), (.ba (List.replicate 32 0))]), 129⟩
theorem ti52_ok : ti52.ok Try.prog 52 := ti_ok (zc := (([(.int .u8 0)]) ++ ((((List.replicate 32 (0 : UInt8)).map B8)) ++ ((((List.replicate 32 (0 : UInt8)).map B8)) ++ ((((List.replicate 32 (0 : UInt8)).map B8)) ++ ((((List.replicate 32 (0 : UInt8)).map B8)) ++ ([]))))))) (by kernel_rfl) (by kernel_rfl) (fun _ => (.cn (.v rfl) (.cn (.ba rfl) (.cn (.ba rfl) (.cn (.ba rfl) (.cn (.ba rfl) (.nl))))))) (fun k h => by cases h)
def ti53 : TI := ⟨.rcd [(0, 48), (1, 50), (33, 51), (65, 51), (97, 51)], (.cn .sc (.cn (.ba 32) (.cn (.ba 32) (.cn (.ba 32) (.cn (.ba 32) (.nl)))))), (.st [(.v (.int .u8 0)), (.ba (List.replicate 32 0)), (.ba (List.replicate 32 0)), (.ba (List.replicate 32 0)), (.ba (List.replicate 32 0))]), 129⟩
theorem ti53_ok : ti53.ok Try.prog 53 := ti_ok (zc := (([(.int .u8 0)]) ++ ((((List.replicate 32 (0 : UInt8)).map B8)) ++ ((((List.replicate 32 (0 : UInt8)).map B8)) ++ ((((List.replicate 32 (0 : UInt8)).map B8)) ++ ((((List.replicate 32 (0 : UInt8)).map B8)) ++ ([]))))))) (by kernel_rfl) (by kernel_rfl) (fun _ => (.cn (.v rfl) (.cn (.ba rfl) (.cn (.ba rfl) (.cn (.ba rfl) (.cn (.ba rfl) (.nl))))))) (fun k h => by cases h)
def ti71 : TI := ⟨.slc 22, .sc, (.v (.slice none 0 0)), 24⟩
theorem ti71_ok : ti71.ok Try.prog 71 := ti_ok (zc := [(.slice none 0 0)]) (by kernel_rfl) (by kernel_rfl) (fun _ => (.v rfl)) (fun k h => by cases h)
def ti75 : TI := ⟨.slc 50, .sc, (.v (.slice none 0 0)), 24⟩
theorem ti75_ok : ti75.ok Try.prog 75 := ti_ok (zc := [(.slice none 0 0)]) (by kernel_rfl) (by kernel_rfl) (fun _ => (.v rfl)) (fun k h => by cases h)
def ti76 : TI := ⟨.slc 51, .sc, (.v (.slice none 0 0)), 24⟩
theorem ti76_ok : ti76.ok Try.prog 76 := ti_ok (zc := [(.slice none 0 0)]) (by kernel_rfl) (by kernel_rfl) (fun _ => (.v rfl)) (fun k h => by cases h)
def ti80 : TI := ⟨.slc 128, .sc, (.v (.slice none 0 0)), 24⟩
theorem ti80_ok : ti80.ok Try.prog 80 := ti_ok (zc := [(.slice none 0 0)]) (by kernel_rfl) (by kernel_rfl) (fun _ => (.v rfl)) (fun k h => by cases h)
def ti81 : TI := ⟨.rcd [(0, 80), (1, 71)], (.cn .sc (.cn .sc (.nl))), (.st [(.v (.slice none 0 0)), (.v (.slice none 0 0))]), 48⟩
theorem ti81_ok : ti81.ok Try.prog 81 := ti_ok (zc := (([(.slice none 0 0)]) ++ (([(.slice none 0 0)]) ++ ([])))) (by kernel_rfl) (by kernel_rfl) (fun _ => (.cn (.v rfl) (.cn (.v rfl) (.nl)))) (fun k h => by cases h)
def ti82 : TI := ⟨.rcd [(0, 80), (1, 71)], (.cn .sc (.cn .sc (.nl))), (.st [(.v (.slice none 0 0)), (.v (.slice none 0 0))]), 48⟩
theorem ti82_ok : ti82.ok Try.prog 82 := ti_ok (zc := (([(.slice none 0 0)]) ++ (([(.slice none 0 0)]) ++ ([])))) (by kernel_rfl) (by kernel_rfl) (fun _ => (.cn (.v rfl) (.cn (.v rfl) (.nl)))) (fun k h => by cases h)
def ti92 : TI := ⟨.ptr 95, .sc, (.v (.pointer none)), 8⟩
theorem ti92_ok : ti92.ok Try.prog 92 := ti_ok (zc := [(.pointer none)]) (by kernel_rfl) (by kernel_rfl) (fun _ => (.v rfl)) (fun k h => by cases h)
def ti93 : TI := ⟨.ptr 331, .sc, (.v (.pointer none)), 8⟩
theorem ti93_ok : ti93.ok Try.prog 93 := ti_ok (zc := [(.pointer none)]) (by kernel_rfl) (by kernel_rfl) (fun _ => (.v rfl)) (fun k h => by cases h)
def ti94 : TI := ⟨.rcd [(0, 93)], (.cn .sc (.nl)), (.st [(.v (.pointer none))]), 8⟩
theorem ti94_ok : ti94.ok Try.prog 94 := ti_ok (zc := (([(.pointer none)]) ++ ([]))) (by kernel_rfl) (by kernel_rfl) (fun _ => (.cn (.v rfl) (.nl))) (fun k h => by cases h)
def ti95 : TI := ⟨.rcd [(0, 93)], (.cn .sc (.nl)), (.st [(.v (.pointer none))]), 8⟩
theorem ti95_ok : ti95.ok Try.prog 95 := ti_ok (zc := (([(.pointer none)]) ++ ([]))) (by kernel_rfl) (by kernel_rfl) (fun _ => (.cn (.v rfl) (.nl))) (fun k h => by cases h)
def ti96 : TI := ⟨.slc 92, .sc, (.v (.slice none 0 0)), 24⟩
theorem ti96_ok : ti96.ok Try.prog 96 := ti_ok (zc := [(.slice none 0 0)]) (by kernel_rfl) (by kernel_rfl) (fun _ => (.v rfl)) (fun k h => by cases h)
def ti99 : TI := ⟨.slc 3, .sc, (.v (.slice none 0 0)), 24⟩
theorem ti99_ok : ti99.ok Try.prog 99 := ti_ok (zc := [(.slice none 0 0)]) (by kernel_rfl) (by kernel_rfl) (fun _ => (.v rfl)) (fun k h => by cases h)
def ti102 : TI := ⟨.rcd [(0, 76), (1, 53)], (.cn .sc (.cn (.cn .sc (.cn (.ba 32) (.cn (.ba 32) (.cn (.ba 32) (.cn (.ba 32) (.nl)))))) (.nl))), (.st [(.v (.slice none 0 0)), (.st [(.v (.int .u8 0)), (.ba (List.replicate 32 0)), (.ba (List.replicate 32 0)), (.ba (List.replicate 32 0)), (.ba (List.replicate 32 0))])]), 160⟩
theorem ti102_ok : ti102.ok Try.prog 102 := ti_ok (zc := (([(.slice none 0 0)]) ++ (((([(.int .u8 0)]) ++ ((((List.replicate 32 (0 : UInt8)).map B8)) ++ ((((List.replicate 32 (0 : UInt8)).map B8)) ++ ((((List.replicate 32 (0 : UInt8)).map B8)) ++ ((((List.replicate 32 (0 : UInt8)).map B8)) ++ ([]))))))) ++ ([])))) (by kernel_rfl) (by kernel_rfl) (fun _ => (.cn (.v rfl) (.cn (.cn (.v rfl) (.cn (.ba rfl) (.cn (.ba rfl) (.cn (.ba rfl) (.cn (.ba rfl) (.nl)))))) (.nl)))) (fun k h => by cases h)
def ti103 : TI := ⟨.rcd [(0, 76), (1, 53)], (.cn .sc (.cn (.cn .sc (.cn (.ba 32) (.cn (.ba 32) (.cn (.ba 32) (.cn (.ba 32) (.nl)))))) (.nl))), (.st [(.v (.slice none 0 0)), (.st [(.v (.int .u8 0)), (.ba (List.replicate 32 0)), (.ba (List.replicate 32 0)), (.ba (List.replicate 32 0)), (.ba (List.replicate 32 0))])]), 160⟩
theorem ti103_ok : ti103.ok Try.prog 103 := ti_ok (zc := (([(.slice none 0 0)]) ++ (((([(.int .u8 0)]) ++ ((((List.replicate 32 (0 : UInt8)).map B8)) ++ ((((List.replicate 32 (0 : UInt8)).map B8)) ++ ((((List.replicate 32 (0 : UInt8)).map B8)) ++ ((((List.replicate 32 (0 : UInt8)).map B8)) ++ ([]))))))) ++ ([])))) (by kernel_rfl) (by kernel_rfl) (fun _ => (.cn (.v rfl) (.cn (.cn (.v rfl) (.cn (.ba rfl) (.cn (.ba rfl) (.cn (.ba rfl) (.cn (.ba rfl) (.nl)))))) (.nl)))) (fun k h => by cases h)
def ti121 : TI := ⟨.rcd [(0, 80)], (.cn .sc (.nl)), (.st [(.v (.slice none 0 0))]), 24⟩
theorem ti121_ok : ti121.ok Try.prog 121 := ti_ok (zc := (([(.slice none 0 0)]) ++ ([]))) (by kernel_rfl) (by kernel_rfl) (fun _ => (.cn (.v rfl) (.nl))) (fun k h => by cases h)
def ti122 : TI := ⟨.rcd [(0, 80)], (.cn .sc (.nl)), (.st [(.v (.slice none 0 0))]), 24⟩
theorem ti122_ok : ti122.ok Try.prog 122 := ti_ok (zc := (([(.slice none 0 0)]) ++ ([]))) (by kernel_rfl) (by kernel_rfl) (fun _ => (.cn (.v rfl) (.nl))) (fun k h => by cases h)
def ti124 : TI := ⟨.slc 130, .sc, (.v (.slice none 0 0)), 24⟩
theorem ti124_ok : ti124.ok Try.prog 124 := ti_ok (zc := [(.slice none 0 0)]) (by kernel_rfl) (by kernel_rfl) (fun _ => (.v rfl)) (fun k h => by cases h)
def ti127 : TI := ⟨.rcd [(0, 48), (1, 50), (33, 51), (65, 51)], (.cn .sc (.cn (.ba 32) (.cn (.ba 32) (.cn (.ba 32) (.nl))))), (.st [(.v (.int .u8 0)), (.ba (List.replicate 32 0)), (.ba (List.replicate 32 0)), (.ba (List.replicate 32 0))]), 97⟩
theorem ti127_ok : ti127.ok Try.prog 127 := ti_ok (zc := (([(.int .u8 0)]) ++ ((((List.replicate 32 (0 : UInt8)).map B8)) ++ ((((List.replicate 32 (0 : UInt8)).map B8)) ++ ((((List.replicate 32 (0 : UInt8)).map B8)) ++ ([])))))) (by kernel_rfl) (by kernel_rfl) (fun _ => (.cn (.v rfl) (.cn (.ba rfl) (.cn (.ba rfl) (.cn (.ba rfl) (.nl)))))) (fun k h => by cases h)
def ti128 : TI := ⟨.rcd [(0, 48), (1, 50), (33, 51), (65, 51)], (.cn .sc (.cn (.ba 32) (.cn (.ba 32) (.cn (.ba 32) (.nl))))), (.st [(.v (.int .u8 0)), (.ba (List.replicate 32 0)), (.ba (List.replicate 32 0)), (.ba (List.replicate 32 0))]), 97⟩
theorem ti128_ok : ti128.ok Try.prog 128 := ti_ok (zc := (([(.int .u8 0)]) ++ ((((List.replicate 32 (0 : UInt8)).map B8)) ++ ((((List.replicate 32 (0 : UInt8)).map B8)) ++ ((((List.replicate 32 (0 : UInt8)).map B8)) ++ ([])))))) (by kernel_rfl) (by kernel_rfl) (fun _ => (.cn (.v rfl) (.cn (.ba rfl) (.cn (.ba rfl) (.cn (.ba rfl) (.nl)))))) (fun k h => by cases h)
def ti129 : TI := ⟨.rcd [(0, 128), (97, 51), (129, 3), (130, 50), (162, 3)], (.cn (.cn .sc (.cn (.ba 32) (.cn (.ba 32) (.cn (.ba 32) (.nl))))) (.cn (.ba 32) (.cn .sc (.cn (.ba 32) (.cn .sc (.nl)))))), (.st [(.st [(.v (.int .u8 0)), (.ba (List.replicate 32 0)), (.ba (List.replicate 32 0)), (.ba (List.replicate 32 0))]), (.ba (List.replicate 32 0)), (.v (.int .i64 0)), (.ba (List.replicate 32 0)), (.v (.int .i64 0))]), 184⟩
theorem ti129_ok : ti129.ok Try.prog 129 := ti_ok (zc := (((([(.int .u8 0)]) ++ ((((List.replicate 32 (0 : UInt8)).map B8)) ++ ((((List.replicate 32 (0 : UInt8)).map B8)) ++ ((((List.replicate 32 (0 : UInt8)).map B8)) ++ ([])))))) ++ ((((List.replicate 32 (0 : UInt8)).map B8)) ++ (([(.int .i64 0)]) ++ ((((List.replicate 32 (0 : UInt8)).map B8)) ++ (([(.int .i64 0)]) ++ ([]))))))) (by kernel_rfl) (by kernel_rfl) (fun _ => (.cn (.cn (.v rfl) (.cn (.ba rfl) (.cn (.ba rfl) (.cn (.ba rfl) (.nl))))) (.cn (.ba rfl) (.cn (.v rfl) (.cn (.ba rfl) (.cn (.v rfl) (.nl))))))) (fun k h => by cases h)
def ti130 : TI := ⟨.rcd [(0, 128), (97, 51), (129, 3), (130, 50), (162, 3)], (.cn (.cn .sc (.cn (.ba 32) (.cn (.ba 32) (.cn (.ba 32) (.nl))))) (.cn (.ba 32) (.cn .sc (.cn (.ba 32) (.cn .sc (.nl)))))), (.st [(.st [(.v (.int .u8 0)), (.ba (List.replicate 32 0)), (.ba (List.replicate 32 0)), (.ba (List.replicate 32 0))]), (.ba (List.replicate 32 0)), (.v (.int .i64 0)), (.ba (List.replicate 32 0)), (.v (.int .i64 0))]), 184⟩
theorem ti130_ok : ti130.ok Try.prog 130 := ti_ok (zc := (((([(.int .u8 0)]) ++ ((((List.replicate 32 (0 : UInt8)).map B8)) ++ ((((List.replicate 32 (0 : UInt8)).map B8)) ++ ((((List.replicate 32 (0 : UInt8)).map B8)) ++ ([])))))) ++ ((((List.replicate 32 (0 : UInt8)).map B8)) ++ (([(.int .i64 0)]) ++ ((((List.replicate 32 (0 : UInt8)).map B8)) ++ (([(.int .i64 0)]) ++ ([]))))))) (by kernel_rfl) (by kernel_rfl) (fun _ => (.cn (.cn (.v rfl) (.cn (.ba rfl) (.cn (.ba rfl) (.cn (.ba rfl) (.nl))))) (.cn (.ba rfl) (.cn (.v rfl) (.cn (.ba rfl) (.cn (.v rfl) (.nl))))))) (fun k h => by cases h)
def ti132 : TI := ⟨.slc 141, .sc, (.v (.slice none 0 0)), 24⟩
theorem ti132_ok : ti132.ok Try.prog 132 := ti_ok (zc := [(.slice none 0 0)]) (by kernel_rfl) (by kernel_rfl) (fun _ => (.v rfl)) (fun k h => by cases h)
def ti140 : TI := ⟨.rcd [(0, 4), (1, 51)], (.cn .sc (.cn (.ba 32) (.nl))), (.st [(.v (.bool false)), (.ba (List.replicate 32 0))]), 33⟩
theorem ti140_ok : ti140.ok Try.prog 140 := ti_ok (zc := (([(.bool false)]) ++ ((((List.replicate 32 (0 : UInt8)).map B8)) ++ ([])))) (by kernel_rfl) (by kernel_rfl) (fun _ => (.cn (.v rfl) (.cn (.ba rfl) (.nl)))) (fun k h => by cases h)
def ti141 : TI := ⟨.rcd [(0, 4), (1, 51)], (.cn .sc (.cn (.ba 32) (.nl))), (.st [(.v (.bool false)), (.ba (List.replicate 32 0))]), 33⟩
theorem ti141_ok : ti141.ok Try.prog 141 := ti_ok (zc := (([(.bool false)]) ++ ((((List.replicate 32 (0 : UInt8)).map B8)) ++ ([])))) (by kernel_rfl) (by kernel_rfl) (fun _ => (.cn (.v rfl) (.cn (.ba rfl) (.nl)))) (fun k h => by cases h)
def ti151 : TI := ⟨.slc 244, .sc, (.v (.slice none 0 0)), 24⟩
theorem ti151_ok : ti151.ok Try.prog 151 := ti_ok (zc := [(.slice none 0 0)]) (by kernel_rfl) (by kernel_rfl) (fun _ => (.v rfl)) (fun k h => by cases h)
def ti158 : TI := ⟨.slc 151, .sc, (.v (.slice none 0 0)), 24⟩
theorem ti158_ok : ti158.ok Try.prog 158 := ti_ok (zc := [(.slice none 0 0)]) (by kernel_rfl) (by kernel_rfl) (fun _ => (.v rfl)) (fun k h => by cases h)
def ti165 : TI := ⟨.rcd [(0, 22), (1, 22)], (.cn .sc (.cn .sc (.nl))), (.st [(.v (.slice none 0 0)), (.v (.slice none 0 0))]), 48⟩
theorem ti165_ok : ti165.ok Try.prog 165 := ti_ok (zc := (([(.slice none 0 0)]) ++ (([(.slice none 0 0)]) ++ ([])))) (by kernel_rfl) (by kernel_rfl) (fun _ => (.cn (.v rfl) (.cn (.v rfl) (.nl)))) (fun k h => by cases h)
def ti166 : TI := ⟨.rcd [(0, 22), (1, 22)], (.cn .sc (.cn .sc (.nl))), (.st [(.v (.slice none 0 0)), (.v (.slice none 0 0))]), 48⟩
theorem ti166_ok : ti166.ok Try.prog 166 := ti_ok (zc := (([(.slice none 0 0)]) ++ (([(.slice none 0 0)]) ++ ([])))) (by kernel_rfl) (by kernel_rfl) (fun _ => (.cn (.v rfl) (.cn (.v rfl) (.nl)))) (fun k h => by cases h)
def ti177 : TI := ⟨.rcd [(0, 22), (1, 4), (2, 22)], (.cn .sc (.cn .sc (.cn .sc (.nl)))), (.st [(.v (.slice none 0 0)), (.v (.bool false)), (.v (.slice none 0 0))]), 56⟩
theorem ti177_ok : ti177.ok Try.prog 177 := ti_ok (zc := (([(.slice none 0 0)]) ++ (([(.bool false)]) ++ (([(.slice none 0 0)]) ++ ([]))))) (by kernel_rfl) (by kernel_rfl) (fun _ => (.cn (.v rfl) (.cn (.v rfl) (.cn (.v rfl) (.nl))))) (fun k h => by cases h)
def ti178 : TI := ⟨.rcd [(0, 22), (1, 4), (2, 22)], (.cn .sc (.cn .sc (.cn .sc (.nl)))), (.st [(.v (.slice none 0 0)), (.v (.bool false)), (.v (.slice none 0 0))]), 56⟩
theorem ti178_ok : ti178.ok Try.prog 178 := ti_ok (zc := (([(.slice none 0 0)]) ++ (([(.bool false)]) ++ (([(.slice none 0 0)]) ++ ([]))))) (by kernel_rfl) (by kernel_rfl) (fun _ => (.cn (.v rfl) (.cn (.v rfl) (.cn (.v rfl) (.nl))))) (fun k h => by cases h)
def ti179 : TI := ⟨.rcd [(0, 22), (1, 3), (2, 4)], (.cn .sc (.cn .sc (.cn .sc (.nl)))), (.st [(.v (.slice none 0 0)), (.v (.int .i64 0)), (.v (.bool false))]), 40⟩
theorem ti179_ok : ti179.ok Try.prog 179 := ti_ok (zc := (([(.slice none 0 0)]) ++ (([(.int .i64 0)]) ++ (([(.bool false)]) ++ ([]))))) (by kernel_rfl) (by kernel_rfl) (fun _ => (.cn (.v rfl) (.cn (.v rfl) (.cn (.v rfl) (.nl))))) (fun k h => by cases h)
def ti180 : TI := ⟨.rcd [(0, 22), (1, 3), (2, 4)], (.cn .sc (.cn .sc (.cn .sc (.nl)))), (.st [(.v (.slice none 0 0)), (.v (.int .i64 0)), (.v (.bool false))]), 40⟩
theorem ti180_ok : ti180.ok Try.prog 180 := ti_ok (zc := (([(.slice none 0 0)]) ++ (([(.int .i64 0)]) ++ (([(.bool false)]) ++ ([]))))) (by kernel_rfl) (by kernel_rfl) (fun _ => (.cn (.v rfl) (.cn (.v rfl) (.cn (.v rfl) (.nl))))) (fun k h => by cases h)
def ti181 : TI := ⟨.rcd [(0, 22), (1, 3)], (.cn .sc (.cn .sc (.nl))), (.st [(.v (.slice none 0 0)), (.v (.int .i64 0))]), 32⟩
theorem ti181_ok : ti181.ok Try.prog 181 := ti_ok (zc := (([(.slice none 0 0)]) ++ (([(.int .i64 0)]) ++ ([])))) (by kernel_rfl) (by kernel_rfl) (fun _ => (.cn (.v rfl) (.cn (.v rfl) (.nl)))) (fun k h => by cases h)
def ti182 : TI := ⟨.rcd [(0, 22), (1, 3)], (.cn .sc (.cn .sc (.nl))), (.st [(.v (.slice none 0 0)), (.v (.int .i64 0))]), 32⟩
theorem ti182_ok : ti182.ok Try.prog 182 := ti_ok (zc := (([(.slice none 0 0)]) ++ (([(.int .i64 0)]) ++ ([])))) (by kernel_rfl) (by kernel_rfl) (fun _ => (.cn (.v rfl) (.cn (.v rfl) (.nl)))) (fun k h => by cases h)
def ti191 : TI := ⟨.slc 9, .sc, (.v (.slice none 0 0)), 24⟩
theorem ti191_ok : ti191.ok Try.prog 191 := ti_ok (zc := [(.slice none 0 0)]) (by kernel_rfl) (by kernel_rfl) (fun _ => (.v rfl)) (fun k h => by cases h)
def ti192 : TI := ⟨.ptr 261, .sc, (.v (.pointer none)), 8⟩
theorem ti192_ok : ti192.ok Try.prog 192 := ti_ok (zc := [(.pointer none)]) (by kernel_rfl) (by kernel_rfl) (fun _ => (.v rfl)) (fun k h => by cases h)
def ti197 : TI := ⟨.slc 200, .sc, (.v (.slice none 0 0)), 24⟩
theorem ti197_ok : ti197.ok Try.prog 197 := ti_ok (zc := [(.slice none 0 0)]) (by kernel_rfl) (by kernel_rfl) (fun _ => (.v rfl)) (fun k h => by cases h)
def ti199 : TI := ⟨.rcd [(0, 50), (32, 51)], (.cn (.ba 32) (.cn (.ba 32) (.nl))), (.st [(.ba (List.replicate 32 0)), (.ba (List.replicate 32 0))]), 64⟩
theorem ti199_ok : ti199.ok Try.prog 199 := ti_ok (zc := ((((List.replicate 32 (0 : UInt8)).map B8)) ++ ((((List.replicate 32 (0 : UInt8)).map B8)) ++ ([])))) (by kernel_rfl) (by kernel_rfl) (fun _ => (.cn (.ba rfl) (.cn (.ba rfl) (.nl)))) (fun k h => by cases h)
def ti200 : TI := ⟨.rcd [(0, 50), (32, 51)], (.cn (.ba 32) (.cn (.ba 32) (.nl))), (.st [(.ba (List.replicate 32 0)), (.ba (List.replicate 32 0))]), 64⟩
theorem ti200_ok : ti200.ok Try.prog 200 := ti_ok (zc := ((((List.replicate 32 (0 : UInt8)).map B8)) ++ ((((List.replicate 32 (0 : UInt8)).map B8)) ++ ([])))) (by kernel_rfl) (by kernel_rfl) (fun _ => (.cn (.ba rfl) (.cn (.ba rfl) (.nl)))) (fun k h => by cases h)
def ti205 : TI := ⟨.ptr 273, .sc, (.v (.pointer none)), 8⟩
theorem ti205_ok : ti205.ok Try.prog 205 := ti_ok (zc := [(.pointer none)]) (by kernel_rfl) (by kernel_rfl) (fun _ => (.v rfl)) (fun k h => by cases h)
def ti227 : TI := ⟨.rcd [(0, 75), (1, 4), (2, 50), (34, 50)], (.cn .sc (.cn .sc (.cn (.ba 32) (.cn (.ba 32) (.nl))))), (.st [(.v (.slice none 0 0)), (.v (.bool false)), (.ba (List.replicate 32 0)), (.ba (List.replicate 32 0))]), 96⟩
theorem ti227_ok : ti227.ok Try.prog 227 := ti_ok (zc := (([(.slice none 0 0)]) ++ (([(.bool false)]) ++ ((((List.replicate 32 (0 : UInt8)).map B8)) ++ ((((List.replicate 32 (0 : UInt8)).map B8)) ++ ([])))))) (by kernel_rfl) (by kernel_rfl) (fun _ => (.cn (.v rfl) (.cn (.v rfl) (.cn (.ba rfl) (.cn (.ba rfl) (.nl)))))) (fun k h => by cases h)
def ti228 : TI := ⟨.rcd [(0, 75), (1, 4), (2, 50), (34, 50)], (.cn .sc (.cn .sc (.cn (.ba 32) (.cn (.ba 32) (.nl))))), (.st [(.v (.slice none 0 0)), (.v (.bool false)), (.ba (List.replicate 32 0)), (.ba (List.replicate 32 0))]), 96⟩
theorem ti228_ok : ti228.ok Try.prog 228 := ti_ok (zc := (([(.slice none 0 0)]) ++ (([(.bool false)]) ++ ((((List.replicate 32 (0 : UInt8)).map B8)) ++ ((((List.replicate 32 (0 : UInt8)).map B8)) ++ ([])))))) (by kernel_rfl) (by kernel_rfl) (fun _ => (.cn (.v rfl) (.cn (.v rfl) (.cn (.ba rfl) (.cn (.ba rfl) (.nl)))))) (fun k h => by cases h)
def ti229 : TI := ⟨.slc 103, .sc, (.v (.slice none 0 0)), 24⟩
theorem ti229_ok : ti229.ok Try.prog 229 := ti_ok (zc := [(.slice none 0 0)]) (by kernel_rfl) (by kernel_rfl) (fun _ => (.v rfl)) (fun k h => by cases h)
def ti235 : TI := ⟨.ptr 242, .sc, (.v (.pointer none)), 8⟩
theorem ti235_ok : ti235.ok Try.prog 235 := ti_ok (zc := [(.pointer none)]) (by kernel_rfl) (by kernel_rfl) (fun _ => (.v rfl)) (fun k h => by cases h)
def ti239 : TI := ⟨.rcd [(0, 50), (32, 50)], (.cn (.ba 32) (.cn (.ba 32) (.nl))), (.st [(.ba (List.replicate 32 0)), (.ba (List.replicate 32 0))]), 64⟩
theorem ti239_ok : ti239.ok Try.prog 239 := ti_ok (zc := ((((List.replicate 32 (0 : UInt8)).map B8)) ++ ((((List.replicate 32 (0 : UInt8)).map B8)) ++ ([])))) (by kernel_rfl) (by kernel_rfl) (fun _ => (.cn (.ba rfl) (.cn (.ba rfl) (.nl)))) (fun k h => by cases h)
def ti240 : TI := ⟨.rcd [(0, 50), (32, 50)], (.cn (.ba 32) (.cn (.ba 32) (.nl))), (.st [(.ba (List.replicate 32 0)), (.ba (List.replicate 32 0))]), 64⟩
theorem ti240_ok : ti240.ok Try.prog 240 := ti_ok (zc := ((((List.replicate 32 (0 : UInt8)).map B8)) ++ ((((List.replicate 32 (0 : UInt8)).map B8)) ++ ([])))) (by kernel_rfl) (by kernel_rfl) (fun _ => (.cn (.ba rfl) (.cn (.ba rfl) (.nl)))) (fun k h => by cases h)
def ti241 : TI := ⟨.rcd [(0, 240), (64, 80), (65, 51), (97, 75), (98, 76), (99, 50), (131, 103)], (.cn (.cn (.ba 32) (.cn (.ba 32) (.nl))) (.cn .sc (.cn (.ba 32) (.cn .sc (.cn .sc (.cn (.ba 32) (.cn (.cn .sc (.cn (.cn .sc (.cn (.ba 32) (.cn (.ba 32) (.cn (.ba 32) (.cn (.ba 32) (.nl)))))) (.nl))) (.nl)))))))), (.st [(.st [(.ba (List.replicate 32 0)), (.ba (List.replicate 32 0))]), (.v (.slice none 0 0)), (.ba (List.replicate 32 0)), (.v (.slice none 0 0)), (.v (.slice none 0 0)), (.ba (List.replicate 32 0)), (.st [(.v (.slice none 0 0)), (.st [(.v (.int .u8 0)), (.ba (List.replicate 32 0)), (.ba (List.replicate 32 0)), (.ba (List.replicate 32 0)), (.ba (List.replicate 32 0))])])]), 360⟩
theorem ti241_ok : ti241.ok Try.prog 241 := ti_ok (zc := ((((((List.replicate 32 (0 : UInt8)).map B8)) ++ ((((List.replicate 32 (0 : UInt8)).map B8)) ++ ([])))) ++ (([(.slice none 0 0)]) ++ ((((List.replicate 32 (0 : UInt8)).map B8)) ++ (([(.slice none 0 0)]) ++ (([(.slice none 0 0)]) ++ ((((List.replicate 32 (0 : UInt8)).map B8)) ++ (((([(.slice none 0 0)]) ++ (((([(.int .u8 0)]) ++ ((((List.replicate 32 (0 : UInt8)).map B8)) ++ ((((List.replicate 32 (0 : UInt8)).map B8)) ++ ((((List.replicate 32 (0 : UInt8)).map B8)) ++ ((((List.replicate 32 (0 : UInt8)).map B8)) ++ ([]))))))) ++ ([])))) ++ ([]))))))))) (by kernel_rfl) (by kernel_rfl) (fun _ => (.cn (.cn (.ba rfl) (.cn (.ba rfl) (.nl))) (.cn (.v rfl) (.cn (.ba rfl) (.cn (.v rfl) (.cn (.v rfl) (.cn (.ba rfl) (.cn (.cn (.v rfl) (.cn (.cn (.v rfl) (.cn (.ba rfl) (.cn (.ba rfl) (.cn (.ba rfl) (.cn (.ba rfl) (.nl)))))) (.nl))) (.nl))))))))) (fun k h => by cases h)
def ti242 : TI := ⟨.rcd [(0, 240), (64, 80), (65, 51), (97, 75), (98, 76), (99, 50), (131, 103)], (.cn (.cn (.ba 32) (.cn (.ba 32) (.nl))) (.cn .sc (.cn (.ba 32) (.cn .sc (.cn .sc (.cn (.ba 32) (.cn (.cn .sc (.cn (.cn .sc (.cn (.ba 32) (.cn (.ba 32) (.cn (.ba 32) (.cn (.ba 32) (.nl)))))) (.nl))) (.nl)))))))), (.st [(.st [(.ba (List.replicate 32 0)), (.ba (List.replicate 32 0))]), (.v (.slice none 0 0)), (.ba (List.replicate 32 0)), (.v (.slice none 0 0)), (.v (.slice none 0 0)), (.ba (List.replicate 32 0)), (.st [(.v (.slice none 0 0)), (.st [(.v (.int .u8 0)), (.ba (List.replicate 32 0)), (.ba (List.replicate 32 0)), (.ba (List.replicate 32 0)), (.ba (List.replicate 32 0))])])]), 360⟩
theorem ti242_ok : ti242.ok Try.prog 242 := ti_ok (zc := ((((((List.replicate 32 (0 : UInt8)).map B8)) ++ ((((List.replicate 32 (0 : UInt8)).map B8)) ++ ([])))) ++ (([(.slice none 0 0)]) ++ ((((List.replicate 32 (0 : UInt8)).map B8)) ++ (([(.slice none 0 0)]) ++ (([(.slice none 0 0)]) ++ ((((List.replicate 32 (0 : UInt8)).map B8)) ++ (((([(.slice none 0 0)]) ++ (((([(.int .u8 0)]) ++ ((((List.replicate 32 (0 : UInt8)).map B8)) ++ ((((List.replicate 32 (0 : UInt8)).map B8)) ++ ((((List.replicate 32 (0 : UInt8)).map B8)) ++ ((((List.replicate 32 (0 : UInt8)).map B8)) ++ ([]))))))) ++ ([])))) ++ ([]))))))))) (by kernel_rfl) (by kernel_rfl) (fun _ => (.cn (.cn (.ba rfl) (.cn (.ba rfl) (.nl))) (.cn (.v rfl) (.cn (.ba rfl) (.cn (.v rfl) (.cn (.v rfl) (.cn (.ba rfl) (.cn (.cn (.v rfl) (.cn (.cn (.v rfl) (.cn (.ba rfl) (.cn (.ba rfl) (.cn (.ba rfl) (.cn (.ba rfl) (.nl)))))) (.nl))) (.nl))))))))) (fun k h => by cases h)
def ti243 : TI := ⟨.rcd [(0, 50), (32, 22)], (.cn (.ba 32) (.cn .sc (.nl))), (.st [(.ba (List.replicate 32 0)), (.v (.slice none 0 0))]), 56⟩
theorem ti243_ok : ti243.ok Try.prog 243 := ti_ok (zc := ((((List.replicate 32 (0 : UInt8)).map B8)) ++ (([(.slice none 0 0)]) ++ ([])))) (by kernel_rfl) (by kernel_rfl) (fun _ => (.cn (.ba rfl) (.cn (.v rfl) (.nl)))) (fun k h => by cases h)
def ti244 : TI := ⟨.rcd [(0, 50), (32, 22)], (.cn (.ba 32) (.cn .sc (.nl))), (.st [(.ba (List.replicate 32 0)), (.v (.slice none 0 0))]), 56⟩
theorem ti244_ok : ti244.ok Try.prog 244 := ti_ok (zc := ((((List.replicate 32 (0 : UInt8)).map B8)) ++ (([(.slice none 0 0)]) ++ ([])))) (by kernel_rfl) (by kernel_rfl) (fun _ => (.cn (.ba rfl) (.cn (.v rfl) (.nl)))) (fun k h => by cases h)
def ti252 : TI := ⟨.int .u64, .sc, (.v (.int .u64 0)), 8⟩
theorem ti252_ok : ti252.ok Try.prog 252 := ti_ok (zc := [(.int .u64 0)]) (by kernel_rfl) (by kernel_rfl) (fun _ => (.v rfl)) (fun k h => by cases h; rfl)
def ti253 : TI := ⟨.int .u32, .sc, (.v (.int .u32 0)), 4⟩
theorem ti253_ok : ti253.ok Try.prog 253 := ti_ok (zc := [(.int .u32 0)]) (by kernel_rfl) (by kernel_rfl) (fun _ => (.v rfl)) (fun k h => by cases h; rfl)
def ti254 : TI := ⟨.arr 8 253, (.cn .sc (.cn .sc (.cn .sc (.cn .sc (.cn .sc (.cn .sc (.cn .sc (.cn .sc (.nl))))))))), (.st [(.v (.int .u32 0)), (.v (.int .u32 0)), (.v (.int .u32 0)), (.v (.int .u32 0)), (.v (.int .u32 0)), (.v (.int .u32 0)), (.v (.int .u32 0)), (.v (.int .u32 0))]), 32⟩
theorem ti254_ok : ti254.ok Try.prog 254 := ti_ok (zc := (([(.int .u32 0)]) ++ (([(.int .u32 0)]) ++ (([(.int .u32 0)]) ++ (([(.int .u32 0)]) ++ (([(.int .u32 0)]) ++ (([(.int .u32 0)]) ++ (([(.int .u32 0)]) ++ (([(.int .u32 0)]) ++ ([])))))))))) (by kernel_rfl) (by kernel_rfl) (fun _ => (.cn (.v rfl) (.cn (.v rfl) (.cn (.v rfl) (.cn (.v rfl) (.cn (.v rfl) (.cn (.v rfl) (.cn (.v rfl) (.cn (.v rfl) (.nl)))))))))) (fun k h => by cases h)
def ti259 : TI := ⟨.arr 64 5, (.ba 64), (.ba (List.replicate 64 0)), 64⟩
theorem ti259_ok : ti259.ok Try.prog 259 := ti_ok (zc := ((List.replicate 64 (0 : UInt8)).map B8)) (by kernel_rfl) (by kernel_rfl) (fun _ => (.ba rfl)) (fun k h => by cases h)
def ti260 : TI := ⟨.rcd [(0, 4), (1, 254), (9, 259), (73, 3), (74, 3)], (.cn .sc (.cn (.cn .sc (.cn .sc (.cn .sc (.cn .sc (.cn .sc (.cn .sc (.cn .sc (.cn .sc (.nl))))))))) (.cn (.ba 64) (.cn .sc (.cn .sc (.nl)))))), (.st [(.v (.bool false)), (.st [(.v (.int .u32 0)), (.v (.int .u32 0)), (.v (.int .u32 0)), (.v (.int .u32 0)), (.v (.int .u32 0)), (.v (.int .u32 0)), (.v (.int .u32 0)), (.v (.int .u32 0))]), (.ba (List.replicate 64 0)), (.v (.int .i64 0)), (.v (.int .i64 0))]), 120⟩
theorem ti260_ok : ti260.ok Try.prog 260 := ti_ok (zc := (([(.bool false)]) ++ (((([(.int .u32 0)]) ++ (([(.int .u32 0)]) ++ (([(.int .u32 0)]) ++ (([(.int .u32 0)]) ++ (([(.int .u32 0)]) ++ (([(.int .u32 0)]) ++ (([(.int .u32 0)]) ++ (([(.int .u32 0)]) ++ ([])))))))))) ++ ((((List.replicate 64 (0 : UInt8)).map B8)) ++ (([(.int .i64 0)]) ++ (([(.int .i64 0)]) ++ ([]))))))) (by kernel_rfl) (by kernel_rfl) (fun _ => (.cn (.v rfl) (.cn (.cn (.v rfl) (.cn (.v rfl) (.cn (.v rfl) (.cn (.v rfl) (.cn (.v rfl) (.cn (.v rfl) (.cn (.v rfl) (.cn (.v rfl) (.nl))))))))) (.cn (.ba rfl) (.cn (.v rfl) (.cn (.v rfl) (.nl))))))) (fun k h => by cases h)
def ti261 : TI := ⟨.rcd [(0, 4), (1, 254), (9, 259), (73, 3), (74, 3)], (.cn .sc (.cn (.cn .sc (.cn .sc (.cn .sc (.cn .sc (.cn .sc (.cn .sc (.cn .sc (.cn .sc (.nl))))))))) (.cn (.ba 64) (.cn .sc (.cn .sc (.nl)))))), (.st [(.v (.bool false)), (.st [(.v (.int .u32 0)), (.v (.int .u32 0)), (.v (.int .u32 0)), (.v (.int .u32 0)), (.v (.int .u32 0)), (.v (.int .u32 0)), (.v (.int .u32 0)), (.v (.int .u32 0))]), (.ba (List.replicate 64 0)), (.v (.int .i64 0)), (.v (.int .i64 0))]), 120⟩
theorem ti261_ok : ti261.ok Try.prog 261 := ti_ok (zc := (([(.bool false)]) ++ (((([(.int .u32 0)]) ++ (([(.int .u32 0)]) ++ (([(.int .u32 0)]) ++ (([(.int .u32 0)]) ++ (([(.int .u32 0)]) ++ (([(.int .u32 0)]) ++ (([(.int .u32 0)]) ++ (([(.int .u32 0)]) ++ ([])))))))))) ++ ((((List.replicate 64 (0 : UInt8)).map B8)) ++ (([(.int .i64 0)]) ++ (([(.int .i64 0)]) ++ ([]))))))) (by kernel_rfl) (by kernel_rfl) (fun _ => (.cn (.v rfl) (.cn (.cn (.v rfl) (.cn (.v rfl) (.cn (.v rfl) (.cn (.v rfl) (.cn (.v rfl) (.cn (.v rfl) (.cn (.v rfl) (.cn (.v rfl) (.nl))))))))) (.cn (.ba rfl) (.cn (.v rfl) (.cn (.v rfl) (.nl))))))) (fun k h => by cases h)
def ti264 : TI := ⟨.int .u64, .sc, (.v (.int .u64 0)), 8⟩
theorem ti264_ok : ti264.ok Try.prog 264 := ti_ok (zc := [(.int .u64 0)]) (by kernel_rfl) (by kernel_rfl) (fun _ => (.v rfl)) (fun k h => by cases h; rfl)
def ti272 : TI := ⟨.rcd [(0, 4), (1, 4), (2, 22)], (.cn .sc (.cn .sc (.cn .sc (.nl)))), (.st [(.v (.bool false)), (.v (.bool false)), (.v (.slice none 0 0))]), 32⟩
theorem ti272_ok : ti272.ok Try.prog 272 := ti_ok (zc := (([(.bool false)]) ++ (([(.bool false)]) ++ (([(.slice none 0 0)]) ++ ([]))))) (by kernel_rfl) (by kernel_rfl) (fun _ => (.cn (.v rfl) (.cn (.v rfl) (.cn (.v rfl) (.nl))))) (fun k h => by cases h)
def ti273 : TI := ⟨.rcd [(0, 4), (1, 4), (2, 22)], (.cn .sc (.cn .sc (.cn .sc (.nl)))), (.st [(.v (.bool false)), (.v (.bool false)), (.v (.slice none 0 0))]), 32⟩
theorem ti273_ok : ti273.ok Try.prog 273 := ti_ok (zc := (([(.bool false)]) ++ (([(.bool false)]) ++ (([(.slice none 0 0)]) ++ ([]))))) (by kernel_rfl) (by kernel_rfl) (fun _ => (.cn (.v rfl) (.cn (.v rfl) (.cn (.v rfl) (.nl))))) (fun k h => by cases h)
def ti275 : TI := ⟨.slc 48, .sc, (.v (.slice none 0 0)), 24⟩
theorem ti275_ok : ti275.ok Try.prog 275 := ti_ok (zc := [(.slice none 0 0)]) (by kernel_rfl) (by kernel_rfl) (fun _ => (.v rfl)) (fun k h => by cases h)
def ti281 : TI := ⟨.rcd [(0, 51)], (.cn (.ba 32) (.nl)), (.st [(.ba (List.replicate 32 0))]), 32⟩
theorem ti281_ok : ti281.ok Try.prog 281 := ti_ok (zc := ((((List.replicate 32 (0 : UInt8)).map B8)) ++ ([]))) (by kernel_rfl) (by kernel_rfl) (fun _ => (.cn (.ba rfl) (.nl))) (fun k h => by cases h)
def ti282 : TI := ⟨.rcd [(0, 51)], (.cn (.ba 32) (.nl)), (.st [(.ba (List.replicate 32 0))]), 32⟩
theorem ti282_ok : ti282.ok Try.prog 282 := ti_ok (zc := ((((List.replicate 32 (0 : UInt8)).map B8)) ++ ([]))) (by kernel_rfl) (by kernel_rfl) (fun _ => (.cn (.ba rfl) (.nl))) (fun k h => by cases h)
def ti283 : TI := ⟨.rcd [(0, 282), (32, 48), (33, 3), (34, 50), (66, 22), (67, 51), (99, 3), (100, 3), (101, 3), (102, 3)], (.cn (.cn (.ba 32) (.nl)) (.cn .sc (.cn .sc (.cn (.ba 32) (.cn .sc (.cn (.ba 32) (.cn .sc (.cn .sc (.cn .sc (.cn .sc (.nl))))))))))), (.st [(.st [(.ba (List.replicate 32 0))]), (.v (.int .u8 0)), (.v (.int .i64 0)), (.ba (List.replicate 32 0)), (.v (.slice none 0 0)), (.ba (List.replicate 32 0)), (.v (.int .i64 0)), (.v (.int .i64 0)), (.v (.int .i64 0)), (.v (.int .i64 0))]), 168⟩
theorem ti283_ok : ti283.ok Try.prog 283 := ti_ok (zc := ((((((List.replicate 32 (0 : UInt8)).map B8)) ++ ([]))) ++ (([(.int .u8 0)]) ++ (([(.int .i64 0)]) ++ ((((List.replicate 32 (0 : UInt8)).map B8)) ++ (([(.slice none 0 0)]) ++ ((((List.replicate 32 (0 : UInt8)).map B8)) ++ (([(.int .i64 0)]) ++ (([(.int .i64 0)]) ++ (([(.int .i64 0)]) ++ (([(.int .i64 0)]) ++ ([])))))))))))) (by kernel_rfl) (by kernel_rfl) (fun _ => (.cn (.cn (.ba rfl) (.nl)) (.cn (.v rfl) (.cn (.v rfl) (.cn (.ba rfl) (.cn (.v rfl) (.cn (.ba rfl) (.cn (.v rfl) (.cn (.v rfl) (.cn (.v rfl) (.cn (.v rfl) (.nl)))))))))))) (fun k h => by cases h)
def ti284 : TI := ⟨.rcd [(0, 282), (32, 48), (33, 3), (34, 50), (66, 22), (67, 51), (99, 3), (100, 3), (101, 3), (102, 3)], (.cn (.cn (.ba 32) (.nl)) (.cn .sc (.cn .sc (.cn (.ba 32) (.cn .sc (.cn (.ba 32) (.cn .sc (.cn .sc (.cn .sc (.cn .sc (.nl))))))))))), (.st [(.st [(.ba (List.replicate 32 0))]), (.v (.int .u8 0)), (.v (.int .i64 0)), (.ba (List.replicate 32 0)), (.v (.slice none 0 0)), (.ba (List.replicate 32 0)), (.v (.int .i64 0)), (.v (.int .i64 0)), (.v (.int .i64 0)), (.v (.int .i64 0))]), 168⟩
theorem ti284_ok : ti284.ok Try.prog 284 := ti_ok (zc := ((((((List.replicate 32 (0 : UInt8)).map B8)) ++ ([]))) ++ (([(.int .u8 0)]) ++ (([(.int .i64 0)]) ++ ((((List.replicate 32 (0 : UInt8)).map B8)) ++ (([(.slice none 0 0)]) ++ ((((List.replicate 32 (0 : UInt8)).map B8)) ++ (([(.int .i64 0)]) ++ (([(.int .i64 0)]) ++ (([(.int .i64 0)]) ++ (([(.int .i64 0)]) ++ ([])))))))))))) (by kernel_rfl) (by kernel_rfl) (fun _ => (.cn (.cn (.ba rfl) (.nl)) (.cn (.v rfl) (.cn (.v rfl) (.cn (.ba rfl) (.cn (.v rfl) (.cn (.ba rfl) (.cn (.v rfl) (.cn (.v rfl) (.cn (.v rfl) (.cn (.v rfl) (.nl)))))))))))) (fun k h => by cases h)
def ti293 : TI := ⟨.ptr 295, .sc, (.v (.pointer none)), 8⟩
theorem ti293_ok : ti293.ok Try.prog 293 := ti_ok (zc := [(.pointer none)]) (by kernel_rfl) (by kernel_rfl) (fun _ => (.v rfl)) (fun k h => by cases h)
def ti294 : TI := ⟨.rcd [(0, 80), (1, 51), (33, 229)], (.cn .sc (.cn (.ba 32) (.cn .sc (.nl)))), (.st [(.v (.slice none 0 0)), (.ba (List.replicate 32 0)), (.v (.slice none 0 0))]), 80⟩
theorem ti294_ok : ti294.ok Try.prog 294 := ti_ok (zc := (([(.slice none 0 0)]) ++ ((((List.replicate 32 (0 : UInt8)).map B8)) ++ (([(.slice none 0 0)]) ++ ([]))))) (by kernel_rfl) (by kernel_rfl) (fun _ => (.cn (.v rfl) (.cn (.ba rfl) (.cn (.v rfl) (.nl))))) (fun k h => by cases h)
def ti295 : TI := ⟨.rcd [(0, 80), (1, 51), (33, 229)], (.cn .sc (.cn (.ba 32) (.cn .sc (.nl)))), (.st [(.v (.slice none 0 0)), (.ba (List.replicate 32 0)), (.v (.slice none 0 0))]), 80⟩
theorem ti295_ok : ti295.ok Try.prog 295 := ti_ok (zc := (([(.slice none 0 0)]) ++ ((((List.replicate 32 (0 : UInt8)).map B8)) ++ (([(.slice none 0 0)]) ++ ([]))))) (by kernel_rfl) (by kernel_rfl) (fun _ => (.cn (.v rfl) (.cn (.ba rfl) (.cn (.v rfl) (.nl))))) (fun k h => by cases h)
def ti304 : TI := ⟨.arr 64 253, (.cn .sc (.cn .sc (.cn .sc (.cn .sc (.cn .sc (.cn .sc (.cn .sc (.cn .sc (.cn .sc (.cn .sc (.cn .sc (.cn .sc (.cn .sc (.cn .sc (.cn .sc (.cn .sc (.cn .sc (.cn .sc (.cn .sc (.cn .sc (.cn .sc (.cn .sc (.cn .sc (.cn .sc (.cn .sc (.cn .sc (.cn .sc (.cn .sc (.cn .sc (.cn .sc (.cn .sc (.cn .sc (.cn .sc (.cn .sc (.cn .sc (.cn .sc (.cn .sc (.cn .sc (.cn .sc (.cn .sc (.cn .sc (.cn .sc (.cn .sc (.cn .sc (.cn .sc (.cn .sc (.cn .sc (.cn .sc (.cn .sc (.cn .sc (.cn .sc (.cn .sc (.cn .sc (.cn .sc (.cn .sc (.cn .sc (.cn .sc (.cn .sc (.cn .sc (.cn .sc (.cn .sc (.cn .sc (.cn .sc (.cn .sc (.nl))))))))))))))))))))))))))))))))))))))))))))))))))))))))))))))))), (.st [(.v (.int .u32 0)), (.v (.int .u32 0)), (.v (.int .u32 0)), (.v (.int .u32 0)), (.v (.int .u32 0)), (.v (.int .u32 0)), (.v (.int .u32 0)), (.v (.int .u32 0)), (.v (.int .u32 0)), (.v (.int .u32 0)), (.v (.int .u32 0)), (.v (.int .u32 0)), (.v (.int .u32 0)), (.v (.int .u32 0)), (.v (.int .u32 0)), (.v (.int .u32 0)), (.v (.int .u32 0)), (.v (.int .u32 0)), (.v (.int .u32 0)), (.v (.int .u32 0)), (.v (.int .u32 0)), (.v (.int .u32 0)), (.v (.int .u32 0)), (.v (.int .u32 0)), (.v (.int .u32 0)), (.v (.int .u32 0)), (.v (.int .u32 0)), (.v (.int .u32 0)), (.v (.int .u32 0)), (.v (.int .u32 0)), (.v (.int .u32 0)), (.v (.int .u32 0)), (.v (.int .u32 0)), (.v (.int .u32 0)), (.v (.int .u32 0)), (.v (.int .u32 0)), (.v (.int .u32 0)), (.v (.int .u32 0)), (.v (.int .u32 0)), (.v (.int .u32 0)), (.v (.int .u32 0)), (.v (.int .u32 0)), (.v (.int .u32 0)), (.v (.int .u32 0)), (.v (.int .u32 0)), (.v (.int .u32 0)), (.v (.int .u32 0)), (.v (.int .u32 0)), (.v (.int .u32 0)), (.v (.int .u32 0)), (.v (.int .u32 0)), (.v (.int .u32 0)), (.v (.int .u32 0)), (.v (.int .u32 0)), (.v (.int .u32 0)), (.v (.int .u32 0)), (.v (.int .u32 0)), (.v (.int .u32 0)), (.v (.int .u32 0)), (.v (.int .u32 0)), (.v (.int .u32 0)), (.v (.int .u32 0)), (.v (.int .u32 0)), (.v (.int .u32 0))]), 256⟩
theorem ti304_ok : ti304.ok Try.prog 304 := ti_ok (zc := (([(.int .u32 0)]) ++ (([(.int .u32 0)]) ++ (([(.int .u32 0)]) ++ (([(.int .u32 0)]) ++ (([(.int .u32 0)]) ++ (([(.int .u32 0)]) ++ (([(.int .u32 0)]) ++ (([(.int .u32 0)]) ++ (([(.int .u32 0)]) ++ (([(.int .u32 0)]) ++ (([(.int .u32 0)]) ++ (([(.int .u32 0)]) ++ (([(.int .u32 0)]) ++ (([(.int .u32 0)]) ++ (([(.int .u32 0)]) ++ (([(.int .u32 0)]) ++ (([(.int .u32 0)]) ++ (([(.int .u32 0)]) ++ (([(.int .u32 0)]) ++ (([(.int .u32 0)]) ++ (([(.int .u32 0)]) ++ (([(.int .u32 0)]) ++ (([(.int .u32 0)]) ++ (([(.int .u32 0)]) ++ (([(.int .u32 0)]) ++ (([(.int .u32 0)]) ++ (([(.int .u32 0)]) ++ (([(.int .u32 0)]) ++ (([(.int .u32 0)]) ++ (([(.int .u32 0)]) ++ (([(.int .u32 0)]) ++ (([(.int .u32 0)]) ++ (([(.int .u32 0)]) ++ (([(.int .u32 0)]) ++ (([(.int .u32 0)]) ++ (([(.int .u32 0)]) ++ (([(.int .u32 0)]) ++ (([(.int .u32 0)]) ++ (([(.int .u32 0)]) ++ (([(.int .u32 0)]) ++ (([(.int .u32 0)]) ++ (([(.int .u32 0)]) ++ (([(.int .u32 0)]) ++ (([(.int .u32 0)]) ++ (([(.int .u32 0)]) ++ (([(.int .u32 0)]) ++ (([(.int .u32 0)]) ++ (([(.int .u32 0)]) ++ (([(.int .u32 0)]) ++ (([(.int .u32 0)]) ++ (([(.int .u32 0)]) ++ (([(.int .u32 0)]) ++ (([(.int .u32 0)]) ++ (([(.int .u32 0)]) ++ (([(.int .u32 0)]) ++ (([(.int .u32 0)]) ++ (([(.int .u32 0)]) ++ (([(.int .u32 0)]) ++ (([(.int .u32 0)]) ++ (([(.int .u32 0)]) ++ (([(.int .u32 0)]) ++ (([(.int .u32 0)]) ++ (([(.int .u32 0)]) ++ (([(.int .u32 0)]) ++ ([])))))))))))))))))))))))))))))))))))))))))))))))))))))))))))))))))) (by kernel_rfl) (by kernel_rfl) (fun _ => (.cn (.v rfl) (.cn (.v rfl) (.cn (.v rfl) (.cn (.v rfl) (.cn (.v rfl) (.cn (.v rfl) (.cn (.v rfl) (.cn (.v rfl) (.cn (.v rfl) (.cn (.v rfl) (.cn (.v rfl) (.cn (.v rfl) (.cn (.v rfl) (.cn (.v rfl) (.cn (.v rfl) (.cn (.v rfl) (.cn (.v rfl) (.cn (.v rfl) (.cn (.v rfl) (.cn (.v rfl) (.cn (.v rfl) (.cn (.v rfl) (.cn (.v rfl) (.cn (.v rfl) (.cn (.v rfl) (.cn (.v rfl) (.cn (.v rfl) (.cn (.v rfl) (.cn (.v rfl) (.cn (.v rfl) (.cn (.v rfl) (.cn (.v rfl) (.cn (.v rfl) (.cn (.v rfl) (.cn (.v rfl) (.cn (.v rfl) (.cn (.v rfl) (.cn (.v rfl) (.cn (.v rfl) (.cn (.v rfl) (.cn (.v rfl) (.cn (.v rfl) (.cn (.v rfl) (.cn (.v rfl) (.cn (.v rfl) (.cn (.v rfl) (.cn (.v rfl) (.cn (.v rfl) (.cn (.v rfl) (.cn (.v rfl) (.cn (.v rfl) (.cn (.v rfl) (.cn (.v rfl) (.cn (.v rfl) (.cn (.v rfl) (.cn (.v rfl) (.cn (.v rfl) (.cn (.v rfl) (.cn (.v rfl) (.cn (.v rfl) (.cn (.v rfl) (.cn (.v rfl) (.cn (.v rfl) (.cn (.v rfl) (.nl)))))))))))))))))))))))))))))))))))))))))))))))))))))))))))))))))) (fun k h => by cases h)
def ti309 : TI := ⟨.slc 3, .sc, (.v (.slice none 0 0)), 24⟩
theorem ti309_ok : ti309.ok Try.prog 309 := ti_ok (zc := [(.slice none 0 0)]) (by kernel_rfl) (by kernel_rfl) (fun _ => (.v rfl)) (fun k h => by cases h)
def ti324 : TI := ⟨.ptr 309, .sc, (.v (.pointer none)), 8⟩
theorem ti324_ok : ti324.ok Try.prog 324 := ti_ok (zc := [(.pointer none)]) (by kernel_rfl) (by kernel_rfl) (fun _ => (.v rfl)) (fun k h => by cases h)
def ti325 : TI := ⟨.ptr 328, .sc, (.v (.pointer none)), 8⟩
theorem ti325_ok : ti325.ok Try.prog 325 := ti_ok (zc := [(.pointer none)]) (by kernel_rfl) (by kernel_rfl) (fun _ => (.v rfl)) (fun k h => by cases h)
def ti327 : TI := ⟨.rcd [(0, 284), (103, 3)], (.cn (.cn (.cn (.ba 32) (.nl)) (.cn .sc (.cn .sc (.cn (.ba 32) (.cn .sc (.cn (.ba 32) (.cn .sc (.cn .sc (.cn .sc (.cn .sc (.nl))))))))))) (.cn .sc (.nl))), (.st [(.st [(.st [(.ba (List.replicate 32 0))]), (.v (.int .u8 0)), (.v (.int .i64 0)), (.ba (List.replicate 32 0)), (.v (.slice none 0 0)), (.ba (List.replicate 32 0)), (.v (.int .i64 0)), (.v (.int .i64 0)), (.v (.int .i64 0)), (.v (.int .i64 0))]), (.v (.int .i64 0))]), 176⟩
theorem ti327_ok : ti327.ok Try.prog 327 := ti_ok (zc := ((((((((List.replicate 32 (0 : UInt8)).map B8)) ++ ([]))) ++ (([(.int .u8 0)]) ++ (([(.int .i64 0)]) ++ ((((List.replicate 32 (0 : UInt8)).map B8)) ++ (([(.slice none 0 0)]) ++ ((((List.replicate 32 (0 : UInt8)).map B8)) ++ (([(.int .i64 0)]) ++ (([(.int .i64 0)]) ++ (([(.int .i64 0)]) ++ (([(.int .i64 0)]) ++ ([])))))))))))) ++ (([(.int .i64 0)]) ++ ([])))) (by kernel_rfl) (by kernel_rfl) (fun _ => (.cn (.cn (.cn (.ba rfl) (.nl)) (.cn (.v rfl) (.cn (.v rfl) (.cn (.ba rfl) (.cn (.v rfl) (.cn (.ba rfl) (.cn (.v rfl) (.cn (.v rfl) (.cn (.v rfl) (.cn (.v rfl) (.nl))))))))))) (.cn (.v rfl) (.nl)))) (fun k h => by cases h)
def ti328 : TI := ⟨.rcd [(0, 284), (103, 3)], (.cn (.cn (.cn (.ba 32) (.nl)) (.cn .sc (.cn .sc (.cn (.ba 32) (.cn .sc (.cn (.ba 32) (.cn .sc (.cn .sc (.cn .sc (.cn .sc (.nl))))))))))) (.cn .sc (.nl))), (.st [(.st [(.st [(.ba (List.replicate 32 0))]), (.v (.int .u8 0)), (.v (.int .i64 0)), (.ba (List.replicate 32 0)), (.v (.slice none 0 0)), (.ba (List.replicate 32 0)), (.v (.int .i64 0)), (.v (.int .i64 0)), (.v (.int .i64 0)), (.v (.int .i64 0))]), (.v (.int .i64 0))]), 176⟩
theorem ti328_ok : ti328.ok Try.prog 328 := ti_ok (zc := ((((((((List.replicate 32 (0 : UInt8)).map B8)) ++ ([]))) ++ (([(.int .u8 0)]) ++ (([(.int .i64 0)]) ++ ((((List.replicate 32 (0 : UInt8)).map B8)) ++ (([(.slice none 0 0)]) ++ ((((List.replicate 32 (0 : UInt8)).map B8)) ++ (([(.int .i64 0)]) ++ (([(.int .i64 0)]) ++ (([(.int .i64 0)]) ++ (([(.int .i64 0)]) ++ ([])))))))))))) ++ (([(.int .i64 0)]) ++ ([])))) (by kernel_rfl) (by kernel_rfl) (fun _ => (.cn (.cn (.cn (.ba rfl) (.nl)) (.cn (.v rfl) (.cn (.v rfl) (.cn (.ba rfl) (.cn (.v rfl) (.cn (.ba rfl) (.cn (.v rfl) (.cn (.v rfl) (.cn (.v rfl) (.cn (.v rfl) (.nl))))))))))) (.cn (.v rfl) (.nl)))) (fun k h => by cases h)
def ti329 : TI := ⟨.slc 328, .sc, (.v (.slice none 0 0)), 24⟩
theorem ti329_ok : ti329.ok Try.prog 329 := ti_ok (zc := [(.slice none 0 0)]) (by kernel_rfl) (by kernel_rfl) (fun _ => (.v rfl)) (fun k h => by cases h)
def ti330 : TI := ⟨.rcd [(0, 329), (1, 99), (2, 3), (3, 3)], (.cn .sc (.cn .sc (.cn .sc (.cn .sc (.nl))))), (.st [(.v (.slice none 0 0)), (.v (.slice none 0 0)), (.v (.int .i64 0)), (.v (.int .i64 0))]), 64⟩
theorem ti330_ok : ti330.ok Try.prog 330 := ti_ok (zc := (([(.slice none 0 0)]) ++ (([(.slice none 0 0)]) ++ (([(.int .i64 0)]) ++ (([(.int .i64 0)]) ++ ([])))))) (by kernel_rfl) (by kernel_rfl) (fun _ => (.cn (.v rfl) (.cn (.v rfl) (.cn (.v rfl) (.cn (.v rfl) (.nl)))))) (fun k h => by cases h)
def ti331 : TI := ⟨.rcd [(0, 329), (1, 99), (2, 3), (3, 3)], (.cn .sc (.cn .sc (.cn .sc (.cn .sc (.nl))))), (.st [(.v (.slice none 0 0)), (.v (.slice none 0 0)), (.v (.int .i64 0)), (.v (.int .i64 0))]), 64⟩
theorem ti331_ok : ti331.ok Try.prog 331 := ti_ok (zc := (([(.slice none 0 0)]) ++ (([(.slice none 0 0)]) ++ (([(.int .i64 0)]) ++ (([(.int .i64 0)]) ++ ([])))))) (by kernel_rfl) (by kernel_rfl) (fun _ => (.cn (.v rfl) (.cn (.v rfl) (.cn (.v rfl) (.cn (.v rfl) (.nl)))))) (fun k h => by cases h)
def ti342 : TI := ⟨.ptr 5, .sc, (.v (.pointer none)), 8⟩
theorem ti342_ok : ti342.ok Try.prog 342 := ti_ok (zc := [(.pointer none)]) (by kernel_rfl) (by kernel_rfl) (fun _ => (.v rfl)) (fun k h => by cases h)
def ti347 : TI := ⟨.ptr 359, .sc, (.v (.pointer none)), 8⟩
theorem ti347_ok : ti347.ok Try.prog 347 := ti_ok (zc := [(.pointer none)]) (by kernel_rfl) (by kernel_rfl) (fun _ => (.v rfl)) (fun k h => by cases h)
def ti348 : TI := ⟨.rcd [(0, 25), (1, 347), (2, 3)], (.cn .sc (.cn .sc (.cn .sc (.nl)))), (.st [(.v (.pointer none)), (.v (.pointer none)), (.v (.int .i64 0))]), 24⟩
theorem ti348_ok : ti348.ok Try.prog 348 := ti_ok (zc := (([(.pointer none)]) ++ (([(.pointer none)]) ++ (([(.int .i64 0)]) ++ ([]))))) (by kernel_rfl) (by kernel_rfl) (fun _ => (.cn (.v rfl) (.cn (.v rfl) (.cn (.v rfl) (.nl))))) (fun k h => by cases h)
def ti349 : TI := ⟨.rcd [(0, 25), (1, 347), (2, 3)], (.cn .sc (.cn .sc (.cn .sc (.nl)))), (.st [(.v (.pointer none)), (.v (.pointer none)), (.v (.int .i64 0))]), 24⟩
theorem ti349_ok : ti349.ok Try.prog 349 := ti_ok (zc := (([(.pointer none)]) ++ (([(.pointer none)]) ++ (([(.int .i64 0)]) ++ ([]))))) (by kernel_rfl) (by kernel_rfl) (fun _ => (.cn (.v rfl) (.cn (.v rfl) (.cn (.v rfl) (.nl))))) (fun k h => by cases h)
def ti351 : TI := ⟨.ptr 365, .sc, (.v (.pointer none)), 8⟩
theorem ti351_ok : ti351.ok Try.prog 351 := ti_ok (zc := [(.pointer none)]) (by kernel_rfl) (by kernel_rfl) (fun _ => (.v rfl)) (fun k h => by cases h)
def ti352 : TI := ⟨.rcd [(0, 29), (1, 351), (2, 3)], (.cn .sc (.cn .sc (.cn .sc (.nl)))), (.st [(.v (.pointer none)), (.v (.pointer none)), (.v (.int .i64 0))]), 24⟩
theorem ti352_ok : ti352.ok Try.prog 352 := ti_ok (zc := (([(.pointer none)]) ++ (([(.pointer none)]) ++ (([(.int .i64 0)]) ++ ([]))))) (by kernel_rfl) (by kernel_rfl) (fun _ => (.cn (.v rfl) (.cn (.v rfl) (.cn (.v rfl) (.nl))))) (fun k h => by cases h)
def ti353 : TI := ⟨.rcd [(0, 29), (1, 351), (2, 3)], (.cn .sc (.cn .sc (.cn .sc (.nl)))), (.st [(.v (.pointer none)), (.v (.pointer none)), (.v (.int .i64 0))]), 24⟩
theorem ti353_ok : ti353.ok Try.prog 353 := ti_ok (zc := (([(.pointer none)]) ++ (([(.pointer none)]) ++ (([(.int .i64 0)]) ++ ([]))))) (by kernel_rfl) (by kernel_rfl) (fun _ => (.cn (.v rfl) (.cn (.v rfl) (.cn (.v rfl) (.nl))))) (fun k h => by cases h)
def ti355 : TI := ⟨.ptr 368, .sc, (.v (.pointer none)), 8⟩
theorem ti355_ok : ti355.ok Try.prog 355 := ti_ok (zc := [(.pointer none)]) (by kernel_rfl) (by kernel_rfl) (fun _ => (.v rfl)) (fun k h => by cases h)
def ti356 : TI := ⟨.rcd [(0, 355)], (.cn .sc (.nl)), (.st [(.v (.pointer none))]), 8⟩
theorem ti356_ok : ti356.ok Try.prog 356 := ti_ok (zc := (([(.pointer none)]) ++ ([]))) (by kernel_rfl) (by kernel_rfl) (fun _ => (.cn (.v rfl) (.nl))) (fun k h => by cases h)
def ti357 : TI := ⟨.rcd [(0, 355)], (.cn .sc (.nl)), (.st [(.v (.pointer none))]), 8⟩
theorem ti357_ok : ti357.ok Try.prog 357 := ti_ok (zc := (([(.pointer none)]) ++ ([]))) (by kernel_rfl) (by kernel_rfl) (fun _ => (.cn (.v rfl) (.nl))) (fun k h => by cases h)
def ti358 : TI := ⟨.rcd [(0, 357), (1, 92), (2, 3)], (.cn (.cn .sc (.nl)) (.cn .sc (.cn .sc (.nl)))), (.st [(.st [(.v (.pointer none))]), (.v (.pointer none)), (.v (.int .i64 0))]), 24⟩
theorem ti358_ok : ti358.ok Try.prog 358 := ti_ok (zc := (((([(.pointer none)]) ++ ([]))) ++ (([(.pointer none)]) ++ (([(.int .i64 0)]) ++ ([]))))) (by kernel_rfl) (by kernel_rfl) (fun _ => (.cn (.cn (.v rfl) (.nl)) (.cn (.v rfl) (.cn (.v rfl) (.nl))))) (fun k h => by cases h)
def ti359 : TI := ⟨.rcd [(0, 357), (1, 92), (2, 3)], (.cn (.cn .sc (.nl)) (.cn .sc (.cn .sc (.nl)))), (.st [(.st [(.v (.pointer none))]), (.v (.pointer none)), (.v (.int .i64 0))]), 24⟩
theorem ti359_ok : ti359.ok Try.prog 359 := ti_ok (zc := (((([(.pointer none)]) ++ ([]))) ++ (([(.pointer none)]) ++ (([(.int .i64 0)]) ++ ([]))))) (by kernel_rfl) (by kernel_rfl) (fun _ => (.cn (.cn (.v rfl) (.nl)) (.cn (.v rfl) (.cn (.v rfl) (.nl))))) (fun k h => by cases h)
def ti360 : TI := ⟨.slc 372, .sc, (.v (.slice none 0 0)), 24⟩
theorem ti360_ok : ti360.ok Try.prog 360 := ti_ok (zc := [(.slice none 0 0)]) (by kernel_rfl) (by kernel_rfl) (fun _ => (.v rfl)) (fun k h => by cases h)
def ti361 : TI := ⟨.rcd [(0, 151), (1, 360)], (.cn .sc (.cn .sc (.nl))), (.st [(.v (.slice none 0 0)), (.v (.slice none 0 0))]), 48⟩
theorem ti361_ok : ti361.ok Try.prog 361 := ti_ok (zc := (([(.slice none 0 0)]) ++ (([(.slice none 0 0)]) ++ ([])))) (by kernel_rfl) (by kernel_rfl) (fun _ => (.cn (.v rfl) (.cn (.v rfl) (.nl)))) (fun k h => by cases h)
def ti362 : TI := ⟨.rcd [(0, 151), (1, 360)], (.cn .sc (.cn .sc (.nl))), (.st [(.v (.slice none 0 0)), (.v (.slice none 0 0))]), 48⟩
theorem ti362_ok : ti362.ok Try.prog 362 := ti_ok (zc := (([(.slice none 0 0)]) ++ (([(.slice none 0 0)]) ++ ([])))) (by kernel_rfl) (by kernel_rfl) (fun _ => (.cn (.v rfl) (.cn (.v rfl) (.nl)))) (fun k h => by cases h)
def ti363 : TI := ⟨.slc 374, .sc, (.v (.slice none 0 0)), 24⟩
theorem ti363_ok : ti363.ok Try.prog 363 := ti_ok (zc := [(.slice none 0 0)]) (by kernel_rfl) (by kernel_rfl) (fun _ => (.v rfl)) (fun k h => by cases h)
def ti364 : TI := ⟨.rcd [(0, 3), (1, 3), (2, 362), (4, 363)], (.cn .sc (.cn .sc (.cn (.cn .sc (.cn .sc (.nl))) (.cn .sc (.nl))))), (.st [(.v (.int .i64 0)), (.v (.int .i64 0)), (.st [(.v (.slice none 0 0)), (.v (.slice none 0 0))]), (.v (.slice none 0 0))]), 88⟩
theorem ti364_ok : ti364.ok Try.prog 364 := ti_ok (zc := (([(.int .i64 0)]) ++ (([(.int .i64 0)]) ++ (((([(.slice none 0 0)]) ++ (([(.slice none 0 0)]) ++ ([])))) ++ (([(.slice none 0 0)]) ++ ([])))))) (by kernel_rfl) (by kernel_rfl) (fun _ => (.cn (.v rfl) (.cn (.v rfl) (.cn (.cn (.v rfl) (.cn (.v rfl) (.nl))) (.cn (.v rfl) (.nl)))))) (fun k h => by cases h)
def ti365 : TI := ⟨.rcd [(0, 3), (1, 3), (2, 362), (4, 363)], (.cn .sc (.cn .sc (.cn (.cn .sc (.cn .sc (.nl))) (.cn .sc (.nl))))), (.st [(.v (.int .i64 0)), (.v (.int .i64 0)), (.st [(.v (.slice none 0 0)), (.v (.slice none 0 0))]), (.v (.slice none 0 0))]), 88⟩
theorem ti365_ok : ti365.ok Try.prog 365 := ti_ok (zc := (([(.int .i64 0)]) ++ (([(.int .i64 0)]) ++ (((([(.slice none 0 0)]) ++ (([(.slice none 0 0)]) ++ ([])))) ++ (([(.slice none 0 0)]) ++ ([])))))) (by kernel_rfl) (by kernel_rfl) (fun _ => (.cn (.v rfl) (.cn (.v rfl) (.cn (.cn (.v rfl) (.cn (.v rfl) (.nl))) (.cn (.v rfl) (.nl)))))) (fun k h => by cases h)
def ti369 : TI := ⟨.rcd [(0, 3), (1, 151)], (.cn .sc (.cn .sc (.nl))), (.st [(.v (.int .i64 0)), (.v (.slice none 0 0))]), 32⟩
theorem ti369_ok : ti369.ok Try.prog 369 := ti_ok (zc := (([(.int .i64 0)]) ++ (([(.slice none 0 0)]) ++ ([])))) (by kernel_rfl) (by kernel_rfl) (fun _ => (.cn (.v rfl) (.cn (.v rfl) (.nl)))) (fun k h => by cases h)
def ti370 : TI := ⟨.rcd [(0, 3), (1, 151)], (.cn .sc (.cn .sc (.nl))), (.st [(.v (.int .i64 0)), (.v (.slice none 0 0))]), 32⟩
theorem ti370_ok : ti370.ok Try.prog 370 := ti_ok (zc := (([(.int .i64 0)]) ++ (([(.slice none 0 0)]) ++ ([])))) (by kernel_rfl) (by kernel_rfl) (fun _ => (.cn (.v rfl) (.cn (.v rfl) (.nl)))) (fun k h => by cases h)
def ti371 : TI := ⟨.rcd [(0, 3), (1, 370)], (.cn .sc (.cn (.cn .sc (.cn .sc (.nl))) (.nl))), (.st [(.v (.int .i64 0)), (.st [(.v (.int .i64 0)), (.v (.slice none 0 0))])]), 40⟩
theorem ti371_ok : ti371.ok Try.prog 371 := ti_ok (zc := (([(.int .i64 0)]) ++ (((([(.int .i64 0)]) ++ (([(.slice none 0 0)]) ++ ([])))) ++ ([])))) (by kernel_rfl) (by kernel_rfl) (fun _ => (.cn (.v rfl) (.cn (.cn (.v rfl) (.cn (.v rfl) (.nl))) (.nl)))) (fun k h => by cases h)
def ti372 : TI := ⟨.rcd [(0, 3), (1, 370)], (.cn .sc (.cn (.cn .sc (.cn .sc (.nl))) (.nl))), (.st [(.v (.int .i64 0)), (.st [(.v (.int .i64 0)), (.v (.slice none 0 0))])]), 40⟩
theorem ti372_ok : ti372.ok Try.prog 372 := ti_ok (zc := (([(.int .i64 0)]) ++ (((([(.int .i64 0)]) ++ (([(.slice none 0 0)]) ++ ([])))) ++ ([])))) (by kernel_rfl) (by kernel_rfl) (fun _ => (.cn (.v rfl) (.cn (.cn (.v rfl) (.cn (.v rfl) (.nl))) (.nl)))) (fun k h => by cases h)
def ti373 : TI := ⟨.rcd [(0, 9), (1, 362)], (.cn .sc (.cn (.cn .sc (.cn .sc (.nl))) (.nl))), (.st [(.v (.string ⟨#[]⟩)), (.st [(.v (.slice none 0 0)), (.v (.slice none 0 0))])]), 64⟩
theorem ti373_ok : ti373.ok Try.prog 373 := ti_ok (zc := (([(.string ⟨#[]⟩)]) ++ (((([(.slice none 0 0)]) ++ (([(.slice none 0 0)]) ++ ([])))) ++ ([])))) (by kernel_rfl) (by kernel_rfl) (fun _ => (.cn (.v rfl) (.cn (.cn (.v rfl) (.cn (.v rfl) (.nl))) (.nl)))) (fun k h => by cases h)
def ti374 : TI := ⟨.rcd [(0, 9), (1, 362)], (.cn .sc (.cn (.cn .sc (.cn .sc (.nl))) (.nl))), (.st [(.v (.string ⟨#[]⟩)), (.st [(.v (.slice none 0 0)), (.v (.slice none 0 0))])]), 64⟩
theorem ti374_ok : ti374.ok Try.prog 374 := ti_ok (zc := (([(.string ⟨#[]⟩)]) ++ (((([(.slice none 0 0)]) ++ (([(.slice none 0 0)]) ++ ([])))) ++ ([])))) (by kernel_rfl) (by kernel_rfl) (fun _ => (.cn (.v rfl) (.cn (.cn (.v rfl) (.cn (.v rfl) (.nl))) (.nl)))) (fun k h => by cases h)
@[simp] theorem ti2_t : ti2.ty = .sc := rfl
@[simp] theorem ti2_z : ti2.zero = (.v (.int .i64 0)) := rfl
@[simp] theorem ti2_b : ti2.bytes = 8 := rfl
@[simp] theorem ti3_t : ti3.ty = .sc := rfl
@[simp] theorem ti3_z : ti3.zero = (.v (.int .i64 0)) := rfl
@[simp] theorem ti3_b : ti3.bytes = 8 := rfl
@[simp] theorem ti4_t : ti4.ty = .sc := rfl
@[simp] theorem ti4_z : ti4.zero = (.v (.bool false)) := rfl
@[simp] theorem ti4_b : ti4.bytes = 1 := rfl
@[simp] theorem ti5_t : ti5.ty = .sc := rfl
@[simp] theorem ti5_z : ti5.zero = (.v (.int .u8 0)) := rfl
@[simp] theorem ti5_b : ti5.bytes = 1 := rfl
@[simp] theorem ti9_t : ti9.ty = .sc := rfl
@[simp] theorem ti9_z : ti9.zero = (.v (.string ⟨#[]⟩)) := rfl
@[simp] theorem ti9_b : ti9.bytes = 16 := rfl
@[simp] theorem ti21_t : ti21.ty = .sc := rfl
@[simp] theorem ti21_z : ti21.zero = (.v (.int .i32 0)) := rfl
@[simp] theorem ti21_b : ti21.bytes = 4 := rfl
@[simp] theorem ti22_t : ti22.ty = .sc := rfl
@[simp] theorem ti22_z : ti22.zero = (.v (.slice none 0 0)) := rfl
@[simp] theorem ti22_b : ti22.bytes = 24 := rfl
@[simp] theorem ti23_t : ti23.ty = .sc := rfl
@[simp] theorem ti23_z : ti23.zero = (.v (.slice none 0 0)) := rfl
@[simp] theorem ti23_b : ti23.bytes = 24 := rfl
@[simp] theorem ti25_t : ti25.ty = .sc := rfl
@[simp] theorem ti25_z : ti25.zero = (.v (.pointer none)) := rfl
@[simp] theorem ti25_b : ti25.bytes = 8 := rfl
@[simp] theorem ti26_t : ti26.ty = .sc := rfl
@[simp] theorem ti26_z : ti26.zero = (.v (.int .i64 0)) := rfl
@[simp] theorem ti26_b : ti26.bytes = 8 := rfl
@[simp] theorem ti29_t : ti29.ty = .sc := rfl
@[simp] theorem ti29_z : ti29.zero = (.v (.pointer none)) := rfl
@[simp] theorem ti29_b : ti29.bytes = 8 := rfl
@[simp] theorem ti32_t : ti32.ty = .sc := rfl
@[simp] theorem ti32_z : ti32.zero = (.v (.pointer none)) := rfl
@[simp] theorem ti32_b : ti32.bytes = 8 := rfl
@[simp] theorem ti33_t : ti33.ty = .sc := rfl
@[simp] theorem ti33_z : ti33.zero = (.v (.pointer none)) := rfl
@[simp] theorem ti33_b : ti33.bytes = 8 := rfl
@[simp] theorem ti34_t : ti34.ty = .sc := rfl
@[simp] theorem ti34_z : ti34.zero = (.v (.pointer none)) := rfl
@[simp] theorem ti34_b : ti34.bytes = 8 := rfl
@[simp] theorem ti35_t : ti35.ty = (.cn .sc (.cn .sc (.cn .sc (.cn .sc (.cn .sc (.nl)))))) := rfl
@[simp] theorem ti35_z : ti35.zero = (.st [(.v (.pointer none)), (.v (.pointer none)), (.v (.pointer none)), (.v (.pointer none)), (.v (.int .i64 0))]) := rfl
@[simp] theorem ti35_b : ti35.bytes = 40 := rfl
@[simp] theorem ti36_t : ti36.ty = (.cn .sc (.cn .sc (.cn .sc (.cn .sc (.cn .sc (.nl)))))) := rfl
@[simp] theorem ti36_z : ti36.zero = (.st [(.v (.pointer none)), (.v (.pointer none)), (.v (.pointer none)), (.v (.pointer none)), (.v (.int .i64 0))]) := rfl
@[simp] theorem ti36_b : ti36.bytes = 40 := rfl
@[simp] theorem ti37_t : ti37.ty = .sc := rfl
@[simp] theorem ti37_z : ti37.zero = (.v (.slice none 0 0)) := rfl
@[simp] theorem ti37_b : ti37.bytes = 24 := rfl
@[simp] theorem ti38_t : ti38.ty = (.cn .sc (.cn .sc (.cn .sc (.cn .sc (.nl))))) := rfl
@[simp] theorem ti38_z : ti38.zero = (.st [(.v (.int .i64 0)), (.v (.int .i64 0)), (.v (.slice none 0 0)), (.v (.slice none 0 0))]) := rfl
@[simp] theorem ti38_b : ti38.bytes = 64 := rfl
@[simp] theorem ti39_t : ti39.ty = (.cn .sc (.cn .sc (.cn .sc (.cn .sc (.nl))))) := rfl
@[simp] theorem ti39_z : ti39.zero = (.st [(.v (.int .i64 0)), (.v (.int .i64 0)), (.v (.slice none 0 0)), (.v (.slice none 0 0))]) := rfl
@[simp] theorem ti39_b : ti39.bytes = 64 := rfl
@[simp] theorem ti48_t : ti48.ty = .sc := rfl
@[simp] theorem ti48_z : ti48.zero = (.v (.int .u8 0)) := rfl
@[simp] theorem ti48_b : ti48.bytes = 1 := rfl
@[simp] theorem ti49_t : ti49.ty = (.ba 32) := rfl
@[simp] theorem ti49_z : ti49.zero = (.ba (List.replicate 32 0)) := rfl
@[simp] theorem ti49_b : ti49.bytes = 32 := rfl
@[simp] theorem ti50_t : ti50.ty = (.ba 32) := rfl
@[simp] theorem ti50_z : ti50.zero = (.ba (List.replicate 32 0)) := rfl
@[simp] theorem ti50_b : ti50.bytes = 32 := rfl
@[simp] theorem ti51_t : ti51.ty = (.ba 32) := rfl
@[simp] theorem ti51_z : ti51.zero = (.ba (List.replicate 32 0)) := rfl
@[simp] theorem ti51_b : ti51.bytes = 32 := rfl
@[simp] theorem ti52_t : ti52.ty = (.cn .sc (.cn (.ba 32) (.cn (.ba 32) (.cn (.ba 32) (.cn (.ba 32) (.nl)))))) := rfl
@[simp] theorem ti52_z : ti52.zero = (.st [(.v (.int .u8 0)), (.ba (List.replicate 32 0)), (.ba (List.replicate 32 0)), (.ba (List.replicate 32 0)), (.ba (List.replicate 32 0))]) := rfl
@[simp] theorem ti52_b : ti52.bytes = 129 := rfl
@[simp] theorem ti53_t : ti53.ty = (.cn .sc (.cn (.ba 32) (.cn (.ba 32) (.cn (.ba 32) (.cn (.ba 32) (.nl)))))) := rfl
@[simp] theorem ti53_z : ti53.zero = (.st [(.v (.int .u8 0)), (.ba (List.replicate 32 0)), (.ba (List.replicate 32 0)), (.ba (List.replicate 32 0)), (.ba (List.replicate 32 0))]) := rfl
@[simp] theorem ti53_b : ti53.bytes = 129 := rfl
@[simp] theorem ti71_t : ti71.ty = .sc := rfl
@[simp] theorem ti71_z : ti71.zero = (.v (.slice none 0 0)) := rfl
@[simp] theorem ti71_b : ti71.bytes = 24 := rfl
@[simp] theorem ti75_t : ti75.ty = .sc := rfl
@[simp] theorem ti75_z : ti75.zero = (.v (.slice none 0 0)) := rfl
@[simp] theorem ti75_b : ti75.bytes = 24 := rfl
@[simp] theorem ti76_t : ti76.ty = .sc := rfl
@[simp] theorem ti76_z : ti76.zero = (.v (.slice none 0 0)) := rfl
@[simp] theorem ti76_b : ti76.bytes = 24 := rfl
@[simp] theorem ti80_t : ti80.ty = .sc := rfl
@[simp] theorem ti80_z : ti80.zero = (.v (.slice none 0 0)) := rfl
@[simp] theorem ti80_b : ti80.bytes = 24 := rfl
@[simp] theorem ti81_t : ti81.ty = (.cn .sc (.cn .sc (.nl))) := rfl
@[simp] theorem ti81_z : ti81.zero = (.st [(.v (.slice none 0 0)), (.v (.slice none 0 0))]) := rfl
@[simp] theorem ti81_b : ti81.bytes = 48 := rfl
@[simp] theorem ti82_t : ti82.ty = (.cn .sc (.cn .sc (.nl))) := rfl
@[simp] theorem ti82_z : ti82.zero = (.st [(.v (.slice none 0 0)), (.v (.slice none 0 0))]) := rfl
@[simp] theorem ti82_b : ti82.bytes = 48 := rfl
@[simp] theorem ti92_t : ti92.ty = .sc := rfl
@[simp] theorem ti92_z : ti92.zero = (.v (.pointer none)) := rfl
@[simp] theorem ti92_b : ti92.bytes = 8 := rfl
@[simp] theorem ti93_t : ti93.ty = .sc := rfl
@[simp] theorem ti93_z : ti93.zero = (.v (.pointer none)) := rfl
@[simp] theorem ti93_b : ti93.bytes = 8 := rfl
@[simp] theorem ti94_t : ti94.ty = (.cn .sc (.nl)) := rfl
@[simp] theorem ti94_z : ti94.zero = (.st [(.v (.pointer none))]) := rfl
@[simp] theorem ti94_b : ti94.bytes = 8 := rfl
@[simp] theorem ti95_t : ti95.ty = (.cn .sc (.nl)) := rfl
@[simp] theorem ti95_z : ti95.zero = (.st [(.v (.pointer none))]) := rfl
@[simp] theorem ti95_b : ti95.bytes = 8 := rfl
@[simp] theorem ti96_t : ti96.ty = .sc := rfl
@[simp] theorem ti96_z : ti96.zero = (.v (.slice none 0 0)) := rfl
@[simp] theorem ti96_b : ti96.bytes = 24 := rfl
@[simp] theorem ti99_t : ti99.ty = .sc := rfl
@[simp] theorem ti99_z : ti99.zero = (.v (.slice none 0 0)) := rfl
@[simp] theorem ti99_b : ti99.bytes = 24 := rfl
@[simp] theorem ti102_t : ti102.ty = (.cn .sc (.cn (.cn .sc (.cn (.ba 32) (.cn (.ba 32) (.cn (.ba 32) (.cn (.ba 32) (.nl)))))) (.nl))) := rfl
@[simp] theorem ti102_z : ti102.zero = (.st [(.v (.slice none 0 0)), (.st [(.v (.int .u8 0)), (.ba (List.replicate 32 0)), (.ba (List.replicate 32 0)), (.ba (List.replicate 32 0)), (.ba (List.replicate 32 0))])]) := rfl
@[simp] theorem ti102_b : ti102.bytes = 160 := rfl
@[simp] theorem ti103_t : ti103.ty = (.cn .sc (.cn (.cn .sc (.cn (.ba 32) (.cn (.ba 32) (.cn (.ba 32) (.cn (.ba 32) (.nl)))))) (.nl))) := rfl
@[simp] theorem ti103_z : ti103.zero = (.st [(.v (.slice none 0 0)), (.st [(.v (.int .u8 0)), (.ba (List.replicate 32 0)), (.ba (List.replicate 32 0)), (.ba (List.replicate 32 0)), (.ba (List.replicate 32 0))])]) := rfl
@[simp] theorem ti103_b : ti103.bytes = 160 := rfl
@[simp] theorem ti121_t : ti121.ty = (.cn .sc (.nl)) := rfl
@[simp] theorem ti121_z : ti121.zero = (.st [(.v (.slice none 0 0))]) := rfl
@[simp] theorem ti121_b : ti121.bytes = 24 := rfl
@[simp] theorem ti122_t : ti122.ty = (.cn .sc (.nl)) := rfl
@[simp] theorem ti122_z : ti122.zero = (.st [(.v (.slice none 0 0))]) := rfl
@[simp] theorem ti122_b : ti122.bytes = 24 := rfl
@[simp] theorem ti124_t : ti124.ty = .sc := rfl
@[simp] theorem ti124_z : ti124.zero = (.v (.slice none 0 0)) := rfl
@[simp] theorem ti124_b : ti124.bytes = 24 := rfl
@[simp] theorem ti127_t : ti127.ty = (.cn .sc (.cn (.ba 32) (.cn (.ba 32) (.cn (.ba 32) (.nl))))) := rfl
@[simp] theorem ti127_z : ti127.zero = (.st [(.v (.int .u8 0)), (.ba (List.replicate 32 0)), (.ba (List.replicate 32 0)), (.ba (List.replicate 32 0))]) := rfl
@[simp] theorem ti127_b : ti127.bytes = 97 := rfl
@[simp] theorem ti128_t : ti128.ty = (.cn .sc (.cn (.ba 32) (.cn (.ba 32) (.cn (.ba 32) (.nl))))) := rfl
@[simp] theorem ti128_z : ti128.zero = (.st [(.v (.int .u8 0)), (.ba (List.replicate 32 0)), (.ba (List.replicate 32 0)), (.ba (List.replicate 32 0))]) := rfl
@[simp] theorem ti128_b : ti128.bytes = 97 := rfl
@[simp] theorem ti132_t : ti132.ty = .sc := rfl
@[simp] theorem ti132_z : ti132.zero = (.v (.slice none 0 0)) := rfl
@[simp] theorem ti132_b : ti132.bytes = 24 := rfl
@[simp] theorem ti140_t : ti140.ty = (.cn .sc (.cn (.ba 32) (.nl))) := rfl
@[simp] theorem ti140_z : ti140.zero = (.st [(.v (.bool false)), (.ba (List.replicate 32 0))]) := rfl
@[simp] theorem ti140_b : ti140.bytes = 33 := rfl
@[simp] theorem ti141_t : ti141.ty = (.cn .sc (.cn (.ba 32) (.nl))) := rfl
@[simp] theorem ti141_z : ti141.zero = (.st [(.v (.bool false)), (.ba (List.replicate 32 0))]) := rfl
@[simp] theorem ti141_b : ti141.bytes = 33 := rfl
@[simp] theorem ti151_t : ti151.ty = .sc := rfl
@[simp] theorem ti151_z : ti151.zero = (.v (.slice none 0 0)) := rfl
@[simp] theorem ti151_b : ti151.bytes = 24 := rfl
@[simp] theorem ti158_t : ti158.ty = .sc := rfl
@[simp] theorem ti158_z : ti158.zero = (.v (.slice none 0 0)) := rfl
@[simp] theorem ti158_b : ti158.bytes = 24 := rfl
@[simp] theorem ti165_t : ti165.ty = (.cn .sc (.cn .sc (.nl))) := rfl
@[simp] theorem ti165_z : ti165.zero = (.st [(.v (.slice none 0 0)), (.v (.slice none 0 0))]) := rfl
@[simp] theorem ti165_b : ti165.bytes = 48 := rfl
@[simp] theorem ti166_t : ti166.ty = (.cn .sc (.cn .sc (.nl))) := rfl
@[simp] theorem ti166_z : ti166.zero = (.st [(.v (.slice none 0 0)), (.v (.slice none 0 0))]) := rfl
@[simp] theorem ti166_b : ti166.bytes = 48 := rfl
@[simp] theorem ti177_t : ti177.ty = (.cn .sc (.cn .sc (.cn .sc (.nl)))) := rfl
@[simp] theorem ti177_z : ti177.zero = (.st [(.v (.slice none 0 0)), (.v (.bool false)), (.v (.slice none 0 0))]) := rfl
@[simp] theorem ti177_b : ti177.bytes = 56 := rfl
@[simp] theorem ti178_t : ti178.ty = (.cn .sc (.cn .sc (.cn .sc (.nl)))) := rfl
@[simp] theorem ti178_z : ti178.zero = (.st [(.v (.slice none 0 0)), (.v (.bool false)), (.v (.slice none 0 0))]) := rfl
@[simp] theorem ti178_b : ti178.bytes = 56 := rfl
@[simp] theorem ti179_t : ti179.ty = (.cn .sc (.cn .sc (.cn .sc (.nl)))) := rfl
@[simp] theorem ti179_z : ti179.zero = (.st [(.v (.slice none 0 0)), (.v (.int .i64 0)), (.v (.bool false))]) := rfl
@[simp] theorem ti179_b : ti179.bytes = 40 := rfl
@[simp] theorem ti180_t : ti180.ty = (.cn .sc (.cn .sc (.cn .sc (.nl)))) := rfl
@[simp] theorem ti180_z : ti180.zero = (.st [(.v (.slice none 0 0)), (.v (.int .i64 0)), (.v (.bool false))]) := rfl
@[simp] theorem ti180_b : ti180.bytes = 40 := rfl
@[simp] theorem ti181_t : ti181.ty = (.cn .sc (.cn .sc (.nl))) := rfl
@[simp] theorem ti181_z : ti181.zero = (.st [(.v (.slice none 0 0)), (.v (.int .i64 0))]) := rfl
@[simp] theorem ti181_b : ti181.bytes = 32 := rfl
@[simp] theorem ti182_t : ti182.ty = (.cn .sc (.cn .sc (.nl))) := rfl
@[simp] theorem ti182_z : ti182.zero = (.st [(.v (.slice none 0 0)), (.v (.int .i64 0))]) := rfl
@[simp] theorem ti182_b : ti182.bytes = 32 := rfl
@[simp] theorem ti191_t : ti191.ty = .sc := rfl
@[simp] theorem ti191_z : ti191.zero = (.v (.slice none 0 0)) := rfl
@[simp] theorem ti191_b : ti191.bytes = 24 := rfl
@[simp] theorem ti192_t : ti192.ty = .sc := rfl
@[simp] theorem ti192_z : ti192.zero = (.v (.pointer none)) := rfl
@[simp] theorem ti192_b : ti192.bytes = 8 := rfl
@[simp] theorem ti197_t : ti197.ty = .sc := rfl
@[simp] theorem ti197_z : ti197.zero = (.v (.slice none 0 0)) := rfl
@[simp] theorem ti197_b : ti197.bytes = 24 := rfl
@[simp] theorem ti199_t : ti199.ty = (.cn (.ba 32) (.cn (.ba 32) (.nl))) := rfl
@[simp] theorem ti199_z : ti199.zero = (.st [(.ba (List.replicate 32 0)), (.ba (List.replicate 32 0))]) := rfl
@[simp] theorem ti199_b : ti199.bytes = 64 := rfl
@[simp] theorem ti200_t : ti200.ty = (.cn (.ba 32) (.cn (.ba 32) (.nl))) := rfl
@[simp] theorem ti200_z : ti200.zero = (.st [(.ba (List.replicate 32 0)), (.ba (List.replicate 32 0))]) := rfl
@[simp] theorem ti200_b : ti200.bytes = 64 := rfl
@[simp] theorem ti205_t : ti205.ty = .sc := rfl
@[simp] theorem ti205_z : ti205.zero = (.v (.pointer none)) := rfl
@[simp] theorem ti205_b : ti205.bytes = 8 := rfl
@[simp] theorem ti227_t : ti227.ty = (.cn .sc (.cn .sc (.cn (.ba 32) (.cn (.ba 32) (.nl))))) := rfl
@[simp] theorem ti227_z : ti227.zero = (.st [(.v (.slice none 0 0)), (.v (.bool false)), (.ba (List.replicate 32 0)), (.ba (List.replicate 32 0))]) := rfl
@[simp] theorem ti227_b : ti227.bytes = 96 := rfl
@[simp] theorem ti228_t : ti228.ty = (.cn .sc (.cn .sc (.cn (.ba 32) (.cn (.ba 32) (.nl))))) := rfl
@[simp] theorem ti228_z : ti228.zero = (.st [(.v (.slice none 0 0)), (.v (.bool false)), (.ba (List.replicate 32 0)), (.ba (List.replicate 32 0))]) := rfl
@[simp] theorem ti228_b : ti228.bytes = 96 := rfl
@[simp] theorem ti229_t : ti229.ty = .sc := rfl
@[simp] theorem ti229_z : ti229.zero = (.v (.slice none 0 0)) := rfl
@[simp] theorem ti229_b : ti229.bytes = 24 := rfl
@[simp] theorem ti235_t : ti235.ty = .sc := rfl
@[simp] theorem ti235_z : ti235.zero = (.v (.pointer none)) := rfl
@[simp] theorem ti235_b : ti235.bytes = 8 := rfl
@[simp] theorem ti239_t : ti239.ty = (.cn (.ba 32) (.cn (.ba 32) (.nl))) := rfl
@[simp] theorem ti239_z : ti239.zero = (.st [(.ba (List.replicate 32 0)), (.ba (List.replicate 32 0))]) := rfl
@[simp] theorem ti239_b : ti239.bytes = 64 := rfl
@[simp] theorem ti240_t : ti240.ty = (.cn (.ba 32) (.cn (.ba 32) (.nl))) := rfl
@[simp] theorem ti240_z : ti240.zero = (.st [(.ba (List.replicate 32 0)), (.ba (List.replicate 32 0))]) := rfl
@[simp] theorem ti240_b : ti240.bytes = 64 := rfl
@[simp] theorem ti243_t : ti243.ty = (.cn (.ba 32) (.cn .sc (.nl))) := rfl
@[simp] theorem ti243_z : ti243.zero = (.st [(.ba (List.replicate 32 0)), (.v (.slice none 0 0))]) := rfl
@[simp] theorem ti243_b : ti243.bytes = 56 := rfl
@[simp] theorem ti244_t : ti244.ty = (.cn (.ba 32) (.cn .sc (.nl))) := rfl
@[simp] theorem ti244_z : ti244.zero = (.st [(.ba (List.replicate 32 0)), (.v (.slice none 0 0))]) := rfl
@[simp] theorem ti244_b : ti244.bytes = 56 := rfl
@[simp] theorem ti252_t : ti252.ty = .sc := rfl
@[simp] theorem ti252_z : ti252.zero = (.v (.int .u64 0)) := rfl
@[simp] theorem ti252_b : ti252.bytes = 8 := rfl
@[simp] theorem ti253_t : ti253.ty = .sc := rfl
@[simp] theorem ti253_z : ti253.zero = (.v (.int .u32 0)) := rfl
@[simp] theorem ti253_b : ti253.bytes = 4 := rfl
@[simp] theorem ti254_t : ti254.ty = (.cn .sc (.cn .sc (.cn .sc (.cn .sc (.cn .sc (.cn .sc (.cn .sc (.cn .sc (.nl))))))))) := rfl
@[simp] theorem ti254_z : ti254.zero = (.st [(.v (.int .u32 0)), (.v (.int .u32 0)), (.v (.int .u32 0)), (.v (.int .u32 0)), (.v (.int .u32 0)), (.v (.int .u32 0)), (.v (.int .u32 0)), (.v (.int .u32 0))]) := rfl
@[simp] theorem ti254_b : ti254.bytes = 32 := rfl
@[simp] theorem ti259_t : ti259.ty = (.ba 64) := rfl
@[simp] theorem ti259_z : ti259.zero = (.ba (List.replicate 64 0)) := rfl
@[simp] theorem ti259_b : ti259.bytes = 64 := rfl
@[simp] theorem ti260_t : ti260.ty = (.cn .sc (.cn (.cn .sc (.cn .sc (.cn .sc (.cn .sc (.cn .sc (.cn .sc (.cn .sc (.cn .sc (.nl))))))))) (.cn (.ba 64) (.cn .sc (.cn .sc (.nl)))))) := rfl
@[simp] theorem ti260_z : ti260.zero = (.st [(.v (.bool false)), (.st [(.v (.int .u32 0)), (.v (.int .u32 0)), (.v (.int .u32 0)), (.v (.int .u32 0)), (.v (.int .u32 0)), (.v (.int .u32 0)), (.v (.int .u32 0)), (.v (.int .u32 0))]), (.ba (List.replicate 64 0)), (.v (.int .i64 0)), (.v (.int .i64 0))]) := rfl
@[simp] theorem ti260_b : ti260.bytes = 120 := rfl
@[simp] theorem ti261_t : ti261.ty = (.cn .sc (.cn (.cn .sc (.cn .sc (.cn .sc (.cn .sc (.cn .sc (.cn .sc (.cn .sc (.cn .sc (.nl))))))))) (.cn (.ba 64) (.cn .sc (.cn .sc (.nl)))))) := rfl
@[simp] theorem ti261_z : ti261.zero = (.st [(.v (.bool false)), (.st [(.v (.int .u32 0)), (.v (.int .u32 0)), (.v (.int .u32 0)), (.v (.int .u32 0)), (.v (.int .u32 0)), (.v (.int .u32 0)), (.v (.int .u32 0)), (.v (.int .u32 0))]), (.ba (List.replicate 64 0)), (.v (.int .i64 0)), (.v (.int .i64 0))]) := rfl
@[simp] theorem ti261_b : ti261.bytes = 120 := rfl
@[simp] theorem ti264_t : ti264.ty = .sc := rfl
@[simp] theorem ti264_z : ti264.zero = (.v (.int .u64 0)) := rfl
@[simp] theorem ti264_b : ti264.bytes = 8 := rfl
@[simp] theorem ti272_t : ti272.ty = (.cn .sc (.cn .sc (.cn .sc (.nl)))) := rfl
@[simp] theorem ti272_z : ti272.zero = (.st [(.v (.bool false)), (.v (.bool false)), (.v (.slice none 0 0))]) := rfl
@[simp] theorem ti272_b : ti272.bytes = 32 := rfl
@[simp] theorem ti273_t : ti273.ty = (.cn .sc (.cn .sc (.cn .sc (.nl)))) := rfl
@[simp] theorem ti273_z : ti273.zero = (.st [(.v (.bool false)), (.v (.bool false)), (.v (.slice none 0 0))]) := rfl
@[simp] theorem ti273_b : ti273.bytes = 32 := rfl
@[simp] theorem ti275_t : ti275.ty = .sc := rfl
@[simp] theorem ti275_z : ti275.zero = (.v (.slice none 0 0)) := rfl
@[simp] theorem ti275_b : ti275.bytes = 24 := rfl
@[simp] theorem ti281_t : ti281.ty = (.cn (.ba 32) (.nl)) := rfl
@[simp] theorem ti281_z : ti281.zero = (.st [(.ba (List.replicate 32 0))]) := rfl
@[simp] theorem ti281_b : ti281.bytes = 32 := rfl
@[simp] theorem ti282_t : ti282.ty = (.cn (.ba 32) (.nl)) := rfl
@[simp] theorem ti282_z : ti282.zero = (.st [(.ba (List.replicate 32 0))]) := rfl
@[simp] theorem ti282_b : ti282.bytes = 32 := rfl
@[simp] theorem ti283_t : ti283.ty = (.cn (.cn (.ba 32) (.nl)) (.cn .sc (.cn .sc (.cn (.ba 32) (.cn .sc (.cn (.ba 32) (.cn .sc (.cn .sc (.cn .sc (.cn .sc (.nl))))))))))) := rfl
@[simp] theorem ti283_z : ti283.zero = (.st [(.st [(.ba (List.replicate 32 0))]), (.v (.int .u8 0)), (.v (.int .i64 0)), (.ba (List.replicate 32 0)), (.v (.slice none 0 0)), (.ba (List.replicate 32 0)), (.v (.int .i64 0)), (.v (.int .i64 0)), (.v (.int .i64 0)), (.v (.int .i64 0))]) := rfl
@[simp] theorem ti283_b : ti283.bytes = 168 := rfl
@[simp] theorem ti284_t : ti284.ty = (.cn (.cn (.ba 32) (.nl)) (.cn .sc (.cn .sc (.cn (.ba 32) (.cn .sc (.cn (.ba 32) (.cn .sc (.cn .sc (.cn .sc (.cn .sc (.nl))))))))))) := rfl
@[simp] theorem ti284_z : ti284.zero = (.st [(.st [(.ba (List.replicate 32 0))]), (.v (.int .u8 0)), (.v (.int .i64 0)), (.ba (List.replicate 32 0)), (.v (.slice none 0 0)), (.ba (List.replicate 32 0)), (.v (.int .i64 0)), (.v (.int .i64 0)), (.v (.int .i64 0)), (.v (.int .i64 0))]) := rfl
@[simp] theorem ti284_b : ti284.bytes = 168 := rfl
@[simp] theorem ti293_t : ti293.ty = .sc := rfl
@[simp] theorem ti293_z : ti293.zero = (.v (.pointer none)) := rfl
@[simp] theorem ti293_b : ti293.bytes = 8 := rfl
@[simp] theorem ti294_t : ti294.ty = (.cn .sc (.cn (.ba 32) (.cn .sc (.nl)))) := rfl
@[simp] theorem ti294_z : ti294.zero = (.st [(.v (.slice none 0 0)), (.ba (List.replicate 32 0)), (.v (.slice none 0 0))]) := rfl
@[simp] theorem ti294_b : ti294.bytes = 80 := rfl
@[simp] theorem ti295_t : ti295.ty = (.cn .sc (.cn (.ba 32) (.cn .sc (.nl)))) := rfl
@[simp] theorem ti295_z : ti295.zero = (.st [(.v (.slice none 0 0)), (.ba (List.replicate 32 0)), (.v (.slice none 0 0))]) := rfl
@[simp] theorem ti295_b : ti295.bytes = 80 := rfl
@[simp] theorem ti304_t : ti304.ty = (.cn .sc (.cn .sc (.cn .sc (.cn .sc (.cn .sc (.cn .sc (.cn .sc (.cn .sc (.cn .sc (.cn .sc (.cn .sc (.cn .sc (.cn .sc (.cn .sc (.cn .sc (.cn .sc (.cn .sc (.cn .sc (.cn .sc (.cn .sc (.cn .sc (.cn .sc (.cn .sc (.cn .sc (.cn .sc (.cn .sc (.cn .sc (.cn .sc (.cn .sc (.cn .sc (.cn .sc (.cn .sc (.cn .sc (.cn .sc (.cn .sc (.cn .sc (.cn .sc (.cn .sc (.cn .sc (.cn .sc (.cn .sc (.cn .sc (.cn .sc (.cn .sc (.cn .sc (.cn .sc (.cn .sc (.cn .sc (.cn .sc (.cn .sc (.cn .sc (.cn .sc (.cn .sc (.cn .sc (.cn .sc (.cn .sc (.cn .sc (.cn .sc (.cn .sc (.cn .sc (.cn .sc (.cn .sc (.cn .sc (.cn .sc (.nl))))))))))))))))))))))))))))))))))))))))))))))))))))))))))))))))) := rfl
@[simp] theorem ti304_z : ti304.zero = (.st [(.v (.int .u32 0)), (.v (.int .u32 0)), (.v (.int .u32 0)), (.v (.int .u32 0)), (.v (.int .u32 0)), (.v (.int .u32 0)), (.v (.int .u32 0)), (.v (.int .u32 0)), (.v (.int .u32 0)), (.v (.int .u32 0)), (.v (.int .u32 0)), (.v (.int .u32 0)), (.v (.int .u32 0)), (.v (.int .u32 0)), (.v (.int .u32 0)), (.v (.int .u32 0)), (.v (.int .u32 0)), (.v (.int .u32 0)), (.v (.int .u32 0)), (.v (.int .u32 0)), (.v (.int .u32 0)), (.v (.int .u32 0)), (.v (.int .u32 0)), (.v (.int .u32 0)), (.v (.int .u32 0)), (.v (.int .u32 0)), (.v (.int .u32 0)), (.v (.int .u32 0)), (.v (.int .u32 0)), (.v (.int .u32 0)), (.v (.int .u32 0)), (.v (.int .u32 0)), (.v (.int .u32 0)), (.v (.int .u32 0)), (.v (.int .u32 0)), (.v (.int .u32 0)), (.v (.int .u32 0)), (.v (.int .u32 0)), (.v (.int .u32 0)), (.v (.int .u32 0)), (.v (.int .u32 0)), (.v (.int .u32 0)), (.v (.int .u32 0)), (.v (.int .u32 0)), (.v (.int .u32 0)), (.v (.int .u32 0)), (.v (.int .u32 0)), (.v (.int .u32 0)), (.v (.int .u32 0)), (.v (.int .u32 0)), (.v (.int .u32 0)), (.v (.int .u32 0)), (.v (.int .u32 0)), (.v (.int .u32 0)), (.v (.int .u32 0)), (.v (.int .u32 0)), (.v (.int .u32 0)), (.v (.int .u32 0)), (.v (.int .u32 0)), (.v (.int .u32 0)), (.v (.int .u32 0)), (.v (.int .u32 0)), (.v (.int .u32 0)), (.v (.int .u32 0))]) := rfl
@[simp] theorem ti304_b : ti304.bytes = 256 := rfl
@[simp] theorem ti309_t : ti309.ty = .sc := rfl
@[simp] theorem ti309_z : ti309.zero = (.v (.slice none 0 0)) := rfl
@[simp] theorem ti309_b : ti309.bytes = 24 := rfl
@[simp] theorem ti324_t : ti324.ty = .sc := rfl
@[simp] theorem ti324_z : ti324.zero = (.v (.pointer none)) := rfl
@[simp] theorem ti324_b : ti324.bytes = 8 := rfl
@[simp] theorem ti325_t : ti325.ty = .sc := rfl
@[simp] theorem ti325_z : ti325.zero = (.v (.pointer none)) := rfl
@[simp] theorem ti325_b : ti325.bytes = 8 := rfl
@[simp] theorem ti327_t : ti327.ty = (.cn (.cn (.cn (.ba 32) (.nl)) (.cn .sc (.cn .sc (.cn (.ba 32) (.cn .sc (.cn (.ba 32) (.cn .sc (.cn .sc (.cn .sc (.cn .sc (.nl))))))))))) (.cn .sc (.nl))) := rfl
@[simp] theorem ti327_z : ti327.zero = (.st [(.st [(.st [(.ba (List.replicate 32 0))]), (.v (.int .u8 0)), (.v (.int .i64 0)), (.ba (List.replicate 32 0)), (.v (.slice none 0 0)), (.ba (List.replicate 32 0)), (.v (.int .i64 0)), (.v (.int .i64 0)), (.v (.int .i64 0)), (.v (.int .i64 0))]), (.v (.int .i64 0))]) := rfl
@[simp] theorem ti327_b : ti327.bytes = 176 := rfl
@[simp] theorem ti328_t : ti328.ty = (.cn (.cn (.cn (.ba 32) (.nl)) (.cn .sc (.cn .sc (.cn (.ba 32) (.cn .sc (.cn (.ba 32) (.cn .sc (.cn .sc (.cn .sc (.cn .sc (.nl))))))))))) (.cn .sc (.nl))) := rfl
@[simp] theorem ti328_z : ti328.zero = (.st [(.st [(.st [(.ba (List.replicate 32 0))]), (.v (.int .u8 0)), (.v (.int .i64 0)), (.ba (List.replicate 32 0)), (.v (.slice none 0 0)), (.ba (List.replicate 32 0)), (.v (.int .i64 0)), (.v (.int .i64 0)), (.v (.int .i64 0)), (.v (.int .i64 0))]), (.v (.int .i64 0))]) := rfl
@[simp] theorem ti328_b : ti328.bytes = 176 := rfl
@[simp] theorem ti329_t : ti329.ty = .sc := rfl
@[simp] theorem ti329_z : ti329.zero = (.v (.slice none 0 0)) := rfl
@[simp] theorem ti329_b : ti329.bytes = 24 := rfl
@[simp] theorem ti330_t : ti330.ty = (.cn .sc (.cn .sc (.cn .sc (.cn .sc (.nl))))) := rfl
@[simp] theorem ti330_z : ti330.zero = (.st [(.v (.slice none 0 0)), (.v (.slice none 0 0)), (.v (.int .i64 0)), (.v (.int .i64 0))]) := rfl
@[simp] theorem ti330_b : ti330.bytes = 64 := rfl
@[simp] theorem ti331_t : ti331.ty = (.cn .sc (.cn .sc (.cn .sc (.cn .sc (.nl))))) := rfl
@[simp] theorem ti331_z : ti331.zero = (.st [(.v (.slice none 0 0)), (.v (.slice none 0 0)), (.v (.int .i64 0)), (.v (.int .i64 0))]) := rfl
@[simp] theorem ti331_b : ti331.bytes = 64 := rfl
@[simp] theorem ti342_t : ti342.ty = .sc := rfl
@[simp] theorem ti342_z : ti342.zero = (.v (.pointer none)) := rfl
@[simp] theorem ti342_b : ti342.bytes = 8 := rfl
@[simp] theorem ti347_t : ti347.ty = .sc := rfl
@[simp] theorem ti347_z : ti347.zero = (.v (.pointer none)) := rfl
@[simp] theorem ti347_b : ti347.bytes = 8 := rfl
@[simp] theorem ti348_t : ti348.ty = (.cn .sc (.cn .sc (.cn .sc (.nl)))) := rfl
@[simp] theorem ti348_z : ti348.zero = (.st [(.v (.pointer none)), (.v (.pointer none)), (.v (.int .i64 0))]) := rfl
@[simp] theorem ti348_b : ti348.bytes = 24 := rfl
@[simp] theorem ti349_t : ti349.ty = (.cn .sc (.cn .sc (.cn .sc (.nl)))) := rfl
@[simp] theorem ti349_z : ti349.zero = (.st [(.v (.pointer none)), (.v (.pointer none)), (.v (.int .i64 0))]) := rfl
@[simp] theorem ti349_b : ti349.bytes = 24 := rfl
@[simp] theorem ti351_t : ti351.ty = .sc := rfl
@[simp] theorem ti351_z : ti351.zero = (.v (.pointer none)) := rfl
@[simp] theorem ti351_b : ti351.bytes = 8 := rfl
@[simp] theorem ti352_t : ti352.ty = (.cn .sc (.cn .sc (.cn .sc (.nl)))) := rfl
@[simp] theorem ti352_z : ti352.zero = (.st [(.v (.pointer none)), (.v (.pointer none)), (.v (.int .i64 0))]) := rfl
@[simp] theorem ti352_b : ti352.bytes = 24 := rfl
@[simp] theorem ti353_t : ti353.ty = (.cn .sc (.cn .sc (.cn .sc (.nl)))) := rfl
@[simp] theorem ti353_z : ti353.zero = (.st [(.v (.pointer none)), (.v (.pointer none)), (.v (.int .i64 0))]) := rfl
@[simp] theorem ti353_b : ti353.bytes = 24 := rfl
@[simp] theorem ti355_t : ti355.ty = .sc := rfl
@[simp] theorem ti355_z : ti355.zero = (.v (.pointer none)) := rfl
@[simp] theorem ti355_b : ti355.bytes = 8 := rfl
@[simp] theorem ti356_t : ti356.ty = (.cn .sc (.nl)) := rfl
@[simp] theorem ti356_z : ti356.zero = (.st [(.v (.pointer none))]) := rfl
@[simp] theorem ti356_b : ti356.bytes = 8 := rfl
@[simp] theorem ti357_t : ti357.ty = (.cn .sc (.nl)) := rfl
@[simp] theorem ti357_z : ti357.zero = (.st [(.v (.pointer none))]) := rfl
@[simp] theorem ti357_b : ti357.bytes = 8 := rfl
@[simp] theorem ti358_t : ti358.ty = (.cn (.cn .sc (.nl)) (.cn .sc (.cn .sc (.nl)))) := rfl
@[simp] theorem ti358_z : ti358.zero = (.st [(.st [(.v (.pointer none))]), (.v (.pointer none)), (.v (.int .i64 0))]) := rfl
@[simp] theorem ti358_b : ti358.bytes = 24 := rfl
@[simp] theorem ti359_t : ti359.ty = (.cn (.cn .sc (.nl)) (.cn .sc (.cn .sc (.nl)))) := rfl
@[simp] theorem ti359_z : ti359.zero = (.st [(.st [(.v (.pointer none))]), (.v (.pointer none)), (.v (.int .i64 0))]) := rfl
@[simp] theorem ti359_b : ti359.bytes = 24 := rfl
@[simp] theorem ti360_t : ti360.ty = .sc := rfl
@[simp] theorem ti360_z : ti360.zero = (.v (.slice none 0 0)) := rfl
@[simp] theorem ti360_b : ti360.bytes = 24 := rfl
@[simp] theorem ti361_t : ti361.ty = (.cn .sc (.cn .sc (.nl))) := rfl
@[simp] theorem ti361_z : ti361.zero = (.st [(.v (.slice none 0 0)), (.v (.slice none 0 0))]) := rfl
@[simp] theorem ti361_b : ti361.bytes = 48 := rfl
@[simp] theorem ti362_t : ti362.ty = (.cn .sc (.cn .sc (.nl))) := rfl
@[simp] theorem ti362_z : ti362.zero = (.st [(.v (.slice none 0 0)), (.v (.slice none 0 0))]) := rfl
@[simp] theorem ti362_b : ti362.bytes = 48 := rfl
@[simp] theorem ti363_t : ti363.ty = .sc := rfl
@[simp] theorem ti363_z : ti363.zero = (.v (.slice none 0 0)) := rfl
@[simp] theorem ti363_b : ti363.bytes = 24 := rfl
@[simp] theorem ti364_t : ti364.ty = (.cn .sc (.cn .sc (.cn (.cn .sc (.cn .sc (.nl))) (.cn .sc (.nl))))) := rfl
@[simp] theorem ti364_z : ti364.zero = (.st [(.v (.int .i64 0)), (.v (.int .i64 0)), (.st [(.v (.slice none 0 0)), (.v (.slice none 0 0))]), (.v (.slice none 0 0))]) := rfl
@[simp] theorem ti364_b : ti364.bytes = 88 := rfl
@[simp] theorem ti365_t : ti365.ty = (.cn .sc (.cn .sc (.cn (.cn .sc (.cn .sc (.nl))) (.cn .sc (.nl))))) := rfl
@[simp] theorem ti365_z : ti365.zero = (.st [(.v (.int .i64 0)), (.v (.int .i64 0)), (.st [(.v (.slice none 0 0)), (.v (.slice none 0 0))]), (.v (.slice none 0 0))]) := rfl
@[simp] theorem ti365_b : ti365.bytes = 88 := rfl
@[simp] theorem ti369_t : ti369.ty = (.cn .sc (.cn .sc (.nl))) := rfl
@[simp] theorem ti369_z : ti369.zero = (.st [(.v (.int .i64 0)), (.v (.slice none 0 0))]) := rfl
@[simp] theorem ti369_b : ti369.bytes = 32 := rfl
@[simp] theorem ti370_t : ti370.ty = (.cn .sc (.cn .sc (.nl))) := rfl
@[simp] theorem ti370_z : ti370.zero = (.st [(.v (.int .i64 0)), (.v (.slice none 0 0))]) := rfl
@[simp] theorem ti370_b : ti370.bytes = 32 := rfl
@[simp] theorem ti371_t : ti371.ty = (.cn .sc (.cn (.cn .sc (.cn .sc (.nl))) (.nl))) := rfl
@[simp] theorem ti371_z : ti371.zero = (.st [(.v (.int .i64 0)), (.st [(.v (.int .i64 0)), (.v (.slice none 0 0))])]) := rfl
@[simp] theorem ti371_b : ti371.bytes = 40 := rfl
@[simp] theorem ti372_t : ti372.ty = (.cn .sc (.cn (.cn .sc (.cn .sc (.nl))) (.nl))) := rfl
@[simp] theorem ti372_z : ti372.zero = (.st [(.v (.int .i64 0)), (.st [(.v (.int .i64 0)), (.v (.slice none 0 0))])]) := rfl
@[simp] theorem ti372_b : ti372.bytes = 40 := rfl
@[simp] theorem ti373_t : ti373.ty = (.cn .sc (.cn (.cn .sc (.cn .sc (.nl))) (.nl))) := rfl
@[simp] theorem ti373_z : ti373.zero = (.st [(.v (.string ⟨#[]⟩)), (.st [(.v (.slice none 0 0)), (.v (.slice none 0 0))])]) := rfl
@[simp] theorem ti373_b : ti373.bytes = 64 := rfl
@[simp] theorem ti374_t : ti374.ty = (.cn .sc (.cn (.cn .sc (.cn .sc (.nl))) (.nl))) := rfl
@[simp] theorem ti374_z : ti374.zero = (.st [(.v (.string ⟨#[]⟩)), (.st [(.v (.slice none 0 0)), (.v (.slice none 0 0))])]) := rfl
@[simp] theorem ti374_b : ti374.bytes = 64 := rfl
def tab : Tab := [(2, ti2), (3, ti3), (4, ti4), (5, ti5), (9, ti9), (21, ti21), (22, ti22), (23, ti23), (25, ti25), (26, ti26), (29, ti29), (32, ti32), (33, ti33), (34, ti34), (35, ti35), (36, ti36), (37, ti37), (38, ti38), (39, ti39), (48, ti48), (49, ti49), (50, ti50), (51, ti51), (52, ti52), (53, ti53), (71, ti71), (75, ti75), (76, ti76), (80, ti80), (81, ti81), (82, ti82), (92, ti92), (93, ti93), (94, ti94), (95, ti95), (96, ti96), (99, ti99), (102, ti102), (103, ti103), (121, ti121), (122, ti122), (124, ti124), (127, ti127), (128, ti128), (129, ti129), (130, ti130), (132, ti132), (140, ti140), (141, ti141), (151, ti151), (158, ti158), (165, ti165), (166, ti166), (177, ti177), (178, ti178), (179, ti179), (180, ti180), (181, ti181), (182, ti182), (191, ti191), (192, ti192), (197, ti197), (199, ti199), (200, ti200), (205, ti205), (227, ti227), (228, ti228), (229, ti229), (235, ti235), (239, ti239), (240, ti240), (241, ti241), (242, ti242), (243, ti243), (244, ti244), (252, ti252), (253, ti253), (254, ti254), (259, ti259), (260, ti260), (261, ti261), (264, ti264), (272, ti272), (273, ti273), (275, ti275), (281, ti281), (282, ti282), (283, ti283), (284, ti284), (293, ti293), (294, ti294), (295, ti295), (304, ti304), (309, ti309), (324, ti324), (325, ti325), (327, ti327), (328, ti328), (329, ti329), (330, ti330), (331, ti331), (342, ti342), (347, ti347), (348, ti348), (349, ti349), (351, ti351), (352, ti352), (353, ti353), (355, ti355), (356, ti356), (357, ti357), (358, ti358), (359, ti359), (360, ti360), (361, ti361), (362, ti362), (363, ti363), (364, ti364), (365, ti365), (369, ti369), (370, ti370), (371, ti371), (372, ti372), (373, ti373), (374, ti374)]
theorem tab_ok : tab.ok Try.prog := by
  refine List.forall_mem_cons.2 ⟨ti2_ok, List.forall_mem_cons.2 ⟨ti3_ok, List.forall_mem_cons.2 ⟨ti4_ok, List.forall_mem_cons.2 ⟨ti5_ok, List.forall_mem_cons.2 ⟨ti9_ok, List.forall_mem_cons.2 ⟨ti21_ok, List.forall_mem_cons.2 ⟨ti22_ok, List.forall_mem_cons.2 ⟨ti23_ok, List.forall_mem_cons.2 ⟨ti25_ok, List.forall_mem_cons.2 ⟨ti26_ok, List.forall_mem_cons.2 ⟨ti29_ok, List.forall_mem_cons.2 ⟨ti32_ok, List.forall_mem_cons.2 ⟨ti33_ok, List.forall_mem_cons.2 ⟨ti34_ok, List.forall_mem_cons.2 ⟨ti35_ok, List.forall_mem_cons.2 ⟨ti36_ok, List.forall_mem_cons.2 ⟨ti37_ok, List.forall_mem_cons.2 ⟨ti38_ok, List.forall_mem_cons.2 ⟨ti39_ok, List.forall_mem_cons.2 ⟨ti48_ok, List.forall_mem_cons.2 ⟨ti49_ok, List.forall_mem_cons.2 ⟨ti50_ok, List.forall_mem_cons.2 ⟨ti51_ok, List.forall_mem_cons.2 ⟨ti52_ok, List.forall_mem_cons.2 ⟨ti53_ok, List.forall_mem_cons.2 ⟨ti71_ok, List.forall_mem_cons.2 ⟨ti75_ok, List.forall_mem_cons.2 ⟨ti76_ok, List.forall_mem_cons.2 ⟨ti80_ok, List.forall_mem_cons.2 ⟨ti81_ok, List.forall_mem_cons.2 ⟨ti82_ok, List.forall_mem_cons.2 ⟨ti92_ok, List.forall_mem_cons.2 ⟨ti93_ok, List.forall_mem_cons.2 ⟨ti94_ok, List.forall_mem_cons.2 ⟨ti95_ok, List.forall_mem_cons.2 ⟨ti96_ok, List.forall_mem_cons.2 ⟨ti99_ok, List.forall_mem_cons.2 ⟨ti102_ok, List.forall_mem_cons.2 ⟨ti103_ok, List.forall_mem_cons.2 ⟨ti121_ok, List.forall_mem_cons.2 ⟨ti122_ok, List.forall_mem_cons.2 ⟨ti124_ok, List.forall_mem_cons.2 ⟨ti127_ok, List.forall_mem_cons.2 ⟨ti128_ok, List.forall_mem_cons.2 ⟨ti129_ok, List.forall_mem_cons.2 ⟨ti130_ok, List.forall_mem_cons.2 ⟨ti132_ok, List.forall_mem_cons.2 ⟨ti140_ok, List.forall_mem_cons.2 ⟨ti141_ok, List.forall_mem_cons.2 ⟨ti151_ok, List.forall_mem_cons.2 ⟨ti158_ok, List.forall_mem_cons.2 ⟨ti165_ok, List.forall_mem_cons.2 ⟨ti166_ok, List.forall_mem_cons.2 ⟨ti177_ok, List.forall_mem_cons.2 ⟨ti178_ok, List.forall_mem_cons.2 ⟨ti179_ok, List.forall_mem_cons.2 ⟨ti180_ok, List.forall_mem_cons.2 ⟨ti181_ok, List.forall_mem_cons.2 ⟨ti182_ok, List.forall_mem_cons.2 ⟨ti191_ok, List.forall_mem_cons.2 ⟨ti192_ok, List.forall_mem_cons.2 ⟨ti197_ok, List.forall_mem_cons.2 ⟨ti199_ok, List.forall_mem_cons.2 ⟨ti200_ok, List.forall_mem_cons.2 ⟨ti205_ok, List.forall_mem_cons.2 ⟨ti227_ok, List.forall_mem_cons.2 ⟨ti228_ok, List.forall_mem_cons.2 ⟨ti229_ok, List.forall_mem_cons.2 ⟨ti235_ok, List.forall_mem_cons.2 ⟨ti239_ok, List.forall_mem_cons.2 ⟨ti240_ok, List.forall_mem_cons.2 ⟨ti241_ok, List.forall_mem_cons.2 ⟨ti242_ok, List.forall_mem_cons.2 ⟨ti243_ok, List.forall_mem_cons.2 ⟨ti244_ok, List.forall_mem_cons.2 ⟨ti252_ok, List.forall_mem_cons.2 ⟨ti253_ok, List.forall_mem_cons.2 ⟨ti254_ok, List.forall_mem_cons.2 ⟨ti259_ok, List.forall_mem_cons.2 ⟨ti260_ok, List.forall_mem_cons.2 ⟨ti261_ok, List.forall_mem_cons.2 ⟨ti264_ok, List.forall_mem_cons.2 ⟨ti272_ok, List.forall_mem_cons.2 ⟨ti273_ok, List.forall_mem_cons.2 ⟨ti275_ok, List.forall_mem_cons.2 ⟨ti281_ok, List.forall_mem_cons.2 ⟨ti282_ok, List.forall_mem_cons.2 ⟨ti283_ok, List.forall_mem_cons.2 ⟨ti284_ok, List.forall_mem_cons.2 ⟨ti293_ok, List.forall_mem_cons.2 ⟨ti294_ok, List.forall_mem_cons.2 ⟨ti295_ok, List.forall_mem_cons.2 ⟨ti304_ok, List.forall_mem_cons.2 ⟨ti309_ok, List.forall_mem_cons.2 ⟨ti324_ok, List.forall_mem_cons.2 ⟨ti325_ok, List.forall_mem_cons.2 ⟨ti327_ok, List.forall_mem_cons.2 ⟨ti328_ok, List.forall_mem_cons.2 ⟨ti329_ok, List.forall_mem_cons.2 ⟨ti330_ok, List.forall_mem_cons.2 ⟨ti331_ok, List.forall_mem_cons.2 ⟨ti342_ok, List.forall_mem_cons.2 ⟨ti347_ok, List.forall_mem_cons.2 ⟨ti348_ok, List.forall_mem_cons.2 ⟨ti349_ok, List.forall_mem_cons.2 ⟨ti351_ok, List.forall_mem_cons.2 ⟨ti352_ok, List.forall_mem_cons.2 ⟨ti353_ok, List.forall_mem_cons.2 ⟨ti355_ok, List.forall_mem_cons.2 ⟨ti356_ok, List.forall_mem_cons.2 ⟨ti357_ok, List.forall_mem_cons.2 ⟨ti358_ok, List.forall_mem_cons.2 ⟨ti359_ok, List.forall_mem_cons.2 ⟨ti360_ok, List.forall_mem_cons.2 ⟨ti361_ok, List.forall_mem_cons.2 ⟨ti362_ok, List.forall_mem_cons.2 ⟨ti363_ok, List.forall_mem_cons.2 ⟨ti364_ok, List.forall_mem_cons.2 ⟨ti365_ok, List.forall_mem_cons.2 ⟨ti369_ok, List.forall_mem_cons.2 ⟨ti370_ok, List.forall_mem_cons.2 ⟨ti371_ok, List.forall_mem_cons.2 ⟨ti372_ok, List.forall_mem_cons.2 ⟨ti373_ok, List.forall_mem_cons.2 ⟨ti374_ok, fun p hp => by cases hp⟩⟩⟩⟩⟩⟩⟩⟩⟩⟩⟩⟩⟩⟩⟩⟩⟩⟩⟩⟩⟩⟩⟩⟩⟩⟩⟩⟩⟩⟩⟩⟩⟩⟩⟩⟩⟩⟩⟩⟩⟩⟩⟩⟩⟩⟩⟩⟩⟩⟩⟩⟩⟩⟩⟩⟩⟩⟩⟩⟩⟩⟩⟩⟩⟩⟩⟩⟩⟩⟩⟩⟩⟩⟩⟩⟩⟩⟩⟩⟩⟩⟩⟩⟩⟩⟩⟩⟩⟩⟩⟩⟩⟩⟩⟩⟩⟩⟩⟩⟩⟩⟩⟩⟩⟩⟩⟩⟩⟩⟩⟩⟩⟩⟩⟩⟩⟩⟩⟩⟩⟩⟩⟩⟩⟩
end Go.Proofs.Ytpeefeioccglcaa
/- A5: Con3 Draw Con4 Con5. -/
/- Tests, stretches with at least one step; rows that are none yet. -/
namespace Go.Proofs.Ytpeefeioccglcaa
open Go Go.RowKit
theorem wrapu8 (n : Int) : IntKind.u8.wrap n = n % 256 := by simp [IntKind.wrap, IntKind.bits, IntKind.signed]
theorem wrapu16 (n : Int) : IntKind.u16.wrap n = n % 65536 := by simp [IntKind.wrap, IntKind.bits, IntKind.signed]
theorem wrapu32 (n : Int) : IntKind.u32.wrap n = n % 4294967296 := by simp [IntKind.wrap, IntKind.bits, IntKind.signed]
theorem wrapu64 (n : Int) : IntKind.u64.wrap n = n % 18446744073709551616 := by simp [IntKind.wrap, IntKind.bits, IntKind.signed]
section
variable {α : Type} (x : α)
theorem rep1 : List.replicate 1 x = [x] := rfl
theorem rep2 : List.replicate 2 x = [x, x] := rfl
theorem rep3 : List.replicate 3 x = [x, x, x] := rfl
theorem rep4 : List.replicate 4 x = [x, x, x, x] := rfl
theorem rep5 : List.replicate 5 x = [x, x, x, x, x] := rfl
end
/-- bytes, each a slice -/
def bss (ls : List (List UInt8)) : List AV := ls.map fun l => .bs l none
section
variable {P : Program} {τ : Tab} {w0 w : World} {N : Gh} {g : Gh} {st st' st1 : St} {nt : Nat} {a : Act}
theorem v_cond {Q : Exit → Act → World → Prop} {c : Operand} {x y : Code} {b : Bool} (H : Rel P w0 N nt st a w) (hc : st.ev none c = .v (.bool b))
    (h1 : b = true → x.wp P Q a w) (h2 : b = false → y.wp P Q a w) : (Code.cond c x y).wp P Q a w := by
  obtain ⟨g, HI, hF⟩ := H
  have := ev_sound hF (c := none) trivial c
  rw [hc] at this
  exact wp_cond_split this.v_inv h1 h2
theorem hNq {q : Nat} (h : N.bx.length ≤ q) : ∀ k, some q = some k → N.bx.length ≤ k := fun k e => by injection e with e; subst e; exact h
theorem vrun_conds {md : Option Nat} {ops : Array Oper} : ∀ (l : List Oper) (st : St) (c : Prop), (vrun τ md nt ops l st c).2.1 → c := by
  intro l
  induction l with
  | nil => intro st c h; exact h
  | cons o l ih =>
    intro st c h
    unfold vrun at h
    split at h
    · exact (ih _ _ h).1
    · exact h
theorem v_more {ops : Array Oper} {Q : Exit → Act → World → Prop} {q : Nat} {o : Oper} {l l' : List Oper} {c1 c' : Prop} (hτ : τ.ok P) (hN : N.bx.length ≤ q) (H : Rel P w0 N nt st a w) (h0 : vstep τ (some q) nt ops o st = some (st1, c1)) (h : vrun τ (some q) nt ops l st1 c1 = (st', c', l')) (hc : c')
    (k : ∀ a w, Rel P w0 N nt st' a w → wpList P ops Q l' a w) : wpList P ops Q (o :: l) a w := by
  have hc1 : c1 := by have := vrun_conds (τ := τ) (nt := nt) (md := some q) (ops := ops) l st1 c1; rw [h] at this; exact this hc
  exact vstep_wpList hτ (hNq hN) h0 hc1 H fun a w H' => vrun_wpList hτ (hNq hN) l st1 c1 c' l' h hc a w H' k
theorem v_steps {ops : Array Oper} {Q : Exit → Act → World → Prop} {q : Nat} {l : List Oper} {c' : Prop} (n : Nat) (hτ : τ.ok P) (hN : N.bx.length ≤ q) (H : Rel P w0 N nt st a w) (h : vrun τ (some q) nt ops (l.take n) st True = (st', c', [])) (hc : c')
    (k : ∀ a w, Rel P w0 N nt st' a w → wpList P ops Q (l.drop n) a w) : wpList P ops Q l a w := by
  have key : ∀ (l1 l2 : List Oper) (st : St) (c : Prop), vrun τ (some q) nt ops l1 st c = (st', c', []) → c' → ∀ a w, Rel P w0 N nt st a w → (∀ a w, Rel P w0 N nt st' a w → wpList P ops Q l2 a w) → wpList P ops Q (l1 ++ l2) a w := by
    intro l1 l2
    induction l1 with
    | nil => intro st c h _ a w H k; simp only [vrun, Prod.mk.injEq] at h; obtain ⟨rfl, rfl, _⟩ := h; exact k _ _ H
    | cons o l1 ih =>
      intro st c h hc a w H k
      unfold vrun at h
      split at h
      · rename_i st1 cd1 hs
        have hc1 : cd1 := by have := vrun_conds (τ := τ) (nt := nt) (md := some q) (ops := ops) l1 st1 (c ∧ cd1); rw [h] at this; exact (this hc).2
        exact vstep_wpList hτ (hNq hN) hs hc1 H fun a w H' => ih st1 _ h hc a w H' k
      · simp at h
  have := key (l.take n) (l.drop n) st True h hc a w H k
  rwa [List.take_append_drop] at this
def nilT (d : Nat) (b : AV) : List (Nat × Gd × AV) → List (Nat × Gd × AV)
  | [] => []
  | (k, x) :: l => if k = d then (d, none, b) :: l else (k, x) :: nilT d b l
theorem nilT_mem {d : Nat} {b : AV} {p : Nat × Gd × AV} : ∀ {l : List (Nat × Gd × AV)}, p ∈ nilT d b l → p = (d, none, b) ∨ p ∈ l
  | q :: l, h => by
    unfold nilT at h
    split at h
    · rcases List.mem_cons.1 h with h | h
      · exact .inl h
      · exact .inr (List.mem_cons_of_mem _ h)
    · rcases List.mem_cons.1 h with h | h
      · exact .inr (by rw [h]; exact List.mem_cons_self)
      · rcases nilT_mem h with h | h
        · exact .inl h
        · exact .inr (List.mem_cons_of_mem _ h)
end
end Go.Proofs.Ytpeefeioccglcaa

/- Regions that draw their order, on what is known. -/
namespace Go.Proofs.Ytpeefeioccglcaa
open Go Go.RowKit
def hasAny : Nat → AV → Bool
  | _, .any => true
  | d + 1, .st fs => fs.any (hasAny d)
  | _, _ => false
def qopN (τ : Tab) (st : St) (c : Gd) (o : Op) : QR :=
  match qop2 τ st c o with
  | some (r, cd) => if hasAny 3 r then none else some (r, cd)
  | none => none
theorem qopN_some {τ : Tab} {st : St} {c : Gd} {o : Op} {x : AV × Prop} (h : qopN τ st c o = some x) : qop2 τ st c o = some x := by
  unfold qopN at h
  split at h
  · rename_i hq
    split at h
    · cases h
    · rw [hq]; exact h
  · cases h
def qopA (τ : Tab) (st : St) (c : Gd) (o : Op) : QR :=
  match o with
  | .build t ps => qopN τ st c (.build t ps)
  | o => qop2 τ st c o
theorem qopA_some {τ : Tab} {st : St} {c : Gd} {o : Op} {x : AV × Prop} (h : qopA τ st c o = some x) : qop2 τ st c o = some x := by
  unfold qopA at h
  split at h
  · exact qopN_some h
  · exact h
def St.lose (st : St) (dst : Option Tmp) : St :=
  match dst with
  | none => st
  | some d => { st with t := dropT d st.t }
def isSlc : Op → Bool
  | .slice _ _ _ _ _ => true
  | _ => false
def loudOk (md : Option Nat) (sq : St) (o : Op) : Bool := !isSto o || sq.bx.isEmpty
def stillE (τ : Tab) (md : Option Nat) (st : St) (c : Gd) (o : Op) : ER :=
  match (match o with
    | .slice t x lo hi none => (match md, isNoneG c with
      | some q0, true => frzE τ q0 st t (st.ev c x) (lo.map (st.ev c)) (hi.map (st.ev c))
      | _, _ => none)
    | _ => none) with
  | some r => some r
  | none => (match qop2 τ st c o with
    | some (r, cd) => some (st, r, cd)
    | none => none)
def vstepT (τ : Tab) (md : Option Nat) (nt : Nat) (ops : Array Oper) (L A : List Nat) (k : Nat) (o : Oper) (sq st : St) : Option (St × St × Prop) :=
  match gdOf ops o with
  | none => none
  | some c =>
    if okDst nt c o.dst then
      (if L.contains k then
        (if isNoneG c && loudOk md sq o.op then (match orE (eop τ none st c o.op) (if sq.bx.isEmpty then eopV τ st c o.op else none) with
          | some (st', r, cd) => some (sq.lose o.dst, st'.put o.dst c r, cd)
          | none => (match qop2 τ st c o.op with
            | some (r, cd) => some (sq.lose o.dst, st.put o.dst c r, gcond st c cd)
            | none => none)) else none)
      else
        (if A.contains k then (match qopA τ sq c o.op with
          | some (r, cd) => some (sq.put o.dst c r, st.put o.dst c r, gcond sq c cd)
          | none => (match (if memless o.op then qop2 τ st c o.op else none) with
            | some (r, cd) => some (sq.lose o.dst, st.put o.dst c r, gcond st c cd)
            | none => none))
        else (match stillE τ md st c o.op with
          | some (st', r, cd) => (match qopN τ sq c o.op with
            | some (r', cd') => (if md.isSome && isSlc o.op then some (sq.lose o.dst, st'.put o.dst c r, gcond st c cd) else some (sq.put o.dst c r', st.put o.dst c r', gcond sq c cd'))
            | none => some (sq.lose o.dst, st'.put o.dst c r, gcond st c cd))
          | none => none)))
    else none
def vrunT (τ : Tab) (md : Option Nat) (nt : Nat) (ops : Array Oper) (L A : List Nat) : List Oper → Nat → St → St → Prop → St × St × Prop × List Oper × Nat
  | [], k, sq, st, c => (sq, st, c, [], k)
  | o :: l, k, sq, st, c =>
    match vstepT τ md nt ops L A k o sq st with
    | some (sq', st', cd) => vrunT τ md nt ops L A l (k + 1) sq' st' (c ∧ cd)
    | none => (sq, st, c, o :: l, k)
section
variable {P : Program} {τ : Tab} {w0 w : World} {N : Gh} {g gS : Gh} {st st' sq sq' : St} {nt : Nat} {a : Act} {r : AV} {cd : Prop}
structure RelT (P : Program) (w0 : World) (N : Gh) (nt : Nat) (gS : Gh) (sq st : St) (a : Act) (w : World) : Prop where
  mem : Mem gS w
  rows : gS.rw = []
  fr : FR gS nt sq a
  br : BR gS sq.bx
  rel : ∃ g, Inv P w0 N g st.bx st.fz st.rw w ∧ FR g nt st a ∧ gS.le g ∧ Bs gS g
theorem RelT.still {H : RelT P w0 N nt gS sq st a w} : Mem gS w := H.mem
theorem MemS {w' : World} (h : Mem gS w) (hr : gS.rw = []) (HI : Inv P w0 N g st.bx st.fz st.rw w') (hl : gS.le g) (hb : Bs gS g) : Mem gS w' := by
  have no : ∀ {i : Nat} {x : Rw}, gS.rw[i]? = some x → False := fun {i x} h => by rw [hr] at h; simp at h
  exact ⟨fun b o u hu => HI.mem.ro _ _ _ (hl.ro _ _ _ hu), fun i x hx hxo => (by
      obtain ⟨y, h1, h2, h3, h4, h5, h6⟩ := hb i x hx
      have := HI.mem.bx i y h1 (h5.trans hxo)
      exact ⟨fun e => (by have h7 := this.c (h6.trans e); rw [h2, h3, h4] at h7; exact h7), fun m e => (by have h7 := this.m m (h6.trans e); rw [h2] at h7; exact h7)⟩), h.offc, h.mpc,
    fun i x h => (no h).elim, h.fro, h.bro, h.bb, h.rro, h.rwo, h.rb, h.rr⟩
theorem FR.lose {dst : Option Tmp} (hF : FR g nt st a) (v : Value) : FR g nt (st.lose dst) (a.put dst v) := by
  cases dst with
  | none => exact hF
  | some d =>
    refine ⟨by simp [Act.put, hF.sz], hF.df, fun p hp hgp => ?_, fun p hp hgp => ?_⟩
    rotate_left
    · obtain ⟨h1, h2, h3⟩ := dropT_mem hp
      rw [getD_put h2]
      refine hF.u p h1 fun hc => hgp ?_
      cases hq : p.2.1 with
      | none => trivial
      | some k => obtain ⟨j, b⟩ := k; rw [hq] at hc; show (a.put (some d) v).tmps.getD j undef = .bool b; rw [getD_put (h3 j b hq)]; exact hc
    obtain ⟨h1, h2, h3⟩ := dropT_mem hp
    rw [getD_put h2]
    refine hF.t p h1 ?_
    cases hc : p.2.1 with
    | none => trivial
    | some k =>
      obtain ⟨j, b⟩ := k
      rw [hc] at hgp
      have : (a.put (some d) v).tmps.getD j undef = .bool b := hgp
      rw [getD_put (h3 j b hc)] at this
      exact this
theorem lose_bx (st : St) (dst : Option Tmp) : (st.lose dst).bx = st.bx := by cases dst <;> rfl
theorem put_bx (st : St) (dst : Option Tmp) (c : Gd) (r : AV) : (st.put dst c r).bx = st.bx ∧ (st.put dst c r).fz = st.fz ∧ (st.put dst c r).rw = st.rw := by cases dst <;> exact ⟨rfl, rfl, rfl⟩
/-- What an operation that leaves the world comes to. -/
theorem stillE_sound (hτ : τ.ok P) {md : Option Nat} (hN : ∀ q, md = some q → N.bx.length ≤ q) (HI : Inv P w0 N g st.bx st.fz st.rw w) (hF : FR g nt st a) {c : Gd} (hg : gholds a c) {o : Oper} (h : stillE τ md st c o.op = some (st', r, cd)) (hc : cd) :
    ∃ g' z, g.lex g' ∧ Inv P w0 N g' st'.bx st'.fz st'.rw w ∧ st'.t = st.t ∧ (execOp a.eval o).run P w = .ok (.value z) w ∧ RV g' r z := by
  unfold stillE at h
  split at h
  · rename_i q hq
    injection h with h; subst h
    split at hq
    · rename_i t x lo hi ho
      split at hq
      · rename_i q0 _
        have E := fun x => ev_sound hF hg x
        have RO_ : ∀ x : Option Operand, RO g (x.map (st.ev c)) (x.map a.eval) := fun x => by cases x with | none => trivial | some x => exact E x
        have hq' : frzE τ q0 st t (st.ev c x) (lo.map (st.ev c)) (hi.map (st.ev c)) = some (st', r, cd) := hq
        obtain ⟨g', z, h1, h2, h3, h4, h5⟩ := frzE_still hτ HI (hN _ rfl) hq' hc (E x) (RO_ lo) (RO_ hi)
        exact ⟨g', z, h1, h2, h3, by unfold execOp; rw [ho]; simp [h4], h5⟩
      · cases hq
    · cases hq
  · split at h
    · rename_i r0 cd0 hq
      obtain ⟨rfl, rfl, rfl⟩ := ER.inj h
      obtain ⟨z, h1, h2⟩ := qop2_sound (P := P) hτ hF HI.br hg hq hc
      exact ⟨g, z, Gh.lex.refl g, HI, rfl, h2 w HI.mem, h1⟩
    · cases h
theorem stillE_st {md : Option Nat} {q : Nat × Bool} {o : Op} (h : stillE τ md st (some q) o = some (st', r, cd)) : st' = st := by
  unfold stillE at h
  split at h
  · rename_i x hx
    split at hx
    · simp [isNoneG] at hx
    · cases hx
  · split at h
    · exact (ER.inj h).1.symm
    · cases h
theorem qop2_memless (hτ : τ.ok P) (hF : FR g nt st a) (hB : BR g st.bx) {c : Gd} (hg : gholds a c) {o : Oper} (hm : memless o.op = true) (h : qop2 τ st c o.op = some (r, cd)) (hc : cd) :
    ∃ z, RV g r z ∧ ∀ w, (execOp a.eval o).run P w = .ok (.value z) w := by
  unfold qop2 at h
  split at h
  · rename_i t ps ho
    obtain ⟨z, h1, h2⟩ := buildq_sound (P := P) hτ hF hg h hc
    exact ⟨z, h1, fun w => by unfold execOp; rw [ho]; simp [h2 w]⟩
  · obtain ⟨z, h1, h2⟩ := qop_sound (P := P) hτ hF hB hg h hc
    exact ⟨z, h1, fun w => h2 w (.inl hm)⟩
theorem vstepT_wpT {ops : Array Oper} {Q : Exit → Act → World → Prop} {L A : List Nat} {rest : List Oper} {k : Nat} {o : Oper} {md : Option Nat} (hτ : τ.ok P) (hN : ∀ q, md = some q → N.bx.length ≤ q) (h : vstepT τ md nt ops L A k o sq st = some (sq', st', cd)) (hc : cd)
    (H : RelT P w0 N nt gS sq st a w) (kk : ∀ a w, RelT P w0 N nt gS sq' st' a w → wpT P ops Q (Mem gS) L A rest (k + 1) a w) : wpT P ops Q (Mem gS) L A (o :: rest) k a w := by
  obtain ⟨hM, hrw, hFq, hBq, g, HI, hF, hl, hbs⟩ := H
  unfold vstepT at h
  split at h
  · cases h
  · rename_i c hgd
    split at h
    · rename_i hdst
      unfold wpT
      split at h
      · rename_i hL
        split at h
        · rename_i hcond
          simp only [Bool.and_eq_true] at hcond
          obtain ⟨hng, hlo⟩ := hcond
          have hcn : c = none := by cases c with | none => rfl | some k => simp [isNoneG] at hng
          subst hcn
          have hw : Region.wanted o (yielded ops a.tmps) = true := (gdOf_wanted hgd).2 trivial
          rw [if_pos hw, if_pos hL]
          split at h
          · rename_i st1 r1 cd1 he
            injection h with h
            simp only [Prod.mk.injEq] at h
            obtain ⟨rfl, rfl, rfl⟩ := h
            have hem : sq.bx = [] → ∀ g', Bs gS g' := fun h g' i x hx => by
              have := hBq.len; rw [h] at this
              rw [List.length_eq_zero_iff.1 this] at hx; simp at hx
            obtain ⟨g', w', ⟨k1, hbs'⟩, k2, k3, k4⟩ : ∃ g' w', (g.le g' ∧ Bs gS g') ∧ Inv P w0 N g' st1.bx st1.fz st1.rw w' ∧ st1.t = st.t ∧ ((∃ z, (execOp a.eval o).run P w = .ok (.value z) w' ∧ RV g' r1 z) ∨ ((execOp a.eval o).run P w = .ok .skip w' ∧ r1 = .any)) := by
              rcases orE_some he with he | he
              · obtain ⟨g', w', k1, k⟩ := eop_sound hτ (md := none) (fun _ h => (by cases h)) HI hF (c := none) trivial he hc
                refine ⟨g', w', ⟨k1.1, ?_⟩, k⟩
                simp only [loudOk, Bool.or_eq_true, Bool.not_eq_true', List.isEmpty_iff] at hlo
                rcases hlo with h | h
                · exact hbs.trans (k1.2 h)
                · exact hem h g'
              · split at he
                · rename_i hz
                  obtain ⟨g', w', k1, k⟩ := eopV_sound hτ HI hF (c := none) trivial he hc
                  exact ⟨g', w', ⟨k1.1, hem (List.isEmpty_iff.1 hz) g'⟩, k⟩
                · cases he
            have hl' := hl.trans k1
            have fin : ∀ v, RV g' r1 v → RelT P w0 N nt gS (sq.lose o.dst) (st1.put o.dst none r1) (a.put o.dst v) w' := fun v hv =>
              ⟨MemS hM hrw k2 hl' hbs', hrw, hFq.lose v, by rw [lose_bx]; exact hBq, g', by rw [(put_bx _ _ _ _).1, (put_bx _ _ _ _).2.1, (put_bx _ _ _ _).2.2]; exact k2, (hF.mono k1).put hdst (fun _ => hv) k3 (fun h => absurd trivial h), hl', hbs'⟩
            unfold Oper.wp
            rcases k4 with ⟨z, h1, h2⟩ | ⟨h1, h2⟩
            · rw [h1, Oper.upon_value]; exact ⟨(fin z h2).mem, kk _ _ (fin z h2)⟩
            · rw [h1, Oper.upon_skip]; have := fin undef (by rw [h2]; trivial); exact ⟨this.mem, kk _ _ this⟩
          · split at h
            · rename_i r1 cd1 hq
              injection h with h
              simp only [Prod.mk.injEq] at h
              obtain ⟨rfl, rfl, rfl⟩ := h
              obtain ⟨z, h1, h2⟩ := qop2_sound (P := P) hτ hF HI.br (c := none) trivial hq (gcond_elim hF hc trivial)
              unfold Oper.wp
              rw [h2 w HI.mem, Oper.upon_value]
              exact ⟨hM, kk _ _ ⟨hM, hrw, hFq.lose z, by rw [lose_bx]; exact hBq, g, by rw [(put_bx _ _ _ _).1, (put_bx _ _ _ _).2.1, (put_bx _ _ _ _).2.2]; exact HI, hF.put hdst (fun _ => h1) rfl (fun h => absurd trivial h), hl, hbs⟩⟩
            · cases h
        · cases h
      · rename_i hL
        have hL' : L.contains k = false := by simpa using hL
        -- a quiet operation by what is known for ever
        have quiet : ∀ {r0 : AV} {cd0 : Prop}, qop2 τ sq c o.op = some (r0, cd0) → gcond sq c cd0 → (∀ a w, RelT P w0 N nt gS (sq.put o.dst c r0) (st.put o.dst c r0) a w → wpT P ops Q (Mem gS) L A rest (k + 1) a w) →
            (if Region.wanted o (yielded ops a.tmps) = true then (if L.contains k = true then o.wp P a w (fun a' w' => Mem gS w' ∧ wpT P ops Q (Mem gS) L A rest (k + 1) a' w') NoQ
              else ∃ v, Qr P o a w v ∧ (A.contains k = true → ∀ w', Mem gS w' → Vr P o a w' v) ∧ wpT P ops Q (Mem gS) L A rest (k + 1) (a.put o.dst v) w)
            else wpT P ops Q (Mem gS) L A rest (k + 1) (a.put o.dst undef) w) := by
          intro r0 cd0 hq hc0 kk
          by_cases hw : Region.wanted o (yielded ops a.tmps) = true
          · rw [if_pos hw, if_neg hL]
            obtain ⟨z, h1, h2⟩ := qop2_sound (P := P) hτ hFq hBq ((gdOf_wanted hgd).1 hw) hq (gcond_elim hFq hc0 ((gdOf_wanted hgd).1 hw))
            have hv : ∀ w', Mem gS w' → Vr P o a w' z := h2
            refine ⟨z, (hv w hM).qr, fun _ => hv, kk _ _ ⟨hM, hrw, hFq.put hdst (fun _ => h1) rfl (fun h => absurd ((gdOf_wanted hgd).1 hw) h), by rw [(put_bx _ _ _ _).1]; exact hBq, g, by rw [(put_bx _ _ _ _).1, (put_bx _ _ _ _).2.1, (put_bx _ _ _ _).2.2]; exact HI, hF.put hdst (fun _ => h1.mono hl) rfl (fun h => absurd ((gdOf_wanted hgd).1 hw) h), hl, hbs⟩⟩
          · rw [if_neg hw]
            exact kk _ _ ⟨hM, hrw, hFq.put hdst (fun hg => absurd ((gdOf_wanted hgd).2 hg) hw) rfl (fun _ => rfl), by rw [(put_bx _ _ _ _).1]; exact hBq, g, by rw [(put_bx _ _ _ _).1, (put_bx _ _ _ _).2.1, (put_bx _ _ _ _).2.2]; exact HI, hF.put hdst (fun hg => absurd ((gdOf_wanted hgd).2 hg) hw) rfl (fun _ => rfl), hl, hbs⟩
        split at h
        · split at h
          · rename_i r1 cd1 hq
            injection h with h
            simp only [Prod.mk.injEq] at h
            obtain ⟨rfl, rfl, rfl⟩ := h
            exact quiet (qopA_some hq) hc kk
          · split at h
            · rename_i r1 cd1 hq
              injection h with h
              simp only [Prod.mk.injEq] at h
              obtain ⟨rfl, rfl, rfl⟩ := h
              split at hq
              · rename_i hml
                by_cases hw : Region.wanted o (yielded ops a.tmps) = true
                · rw [if_pos hw, if_neg hL]
                  obtain ⟨z, h1, h2⟩ := qop2_memless (P := P) hτ hF HI.br ((gdOf_wanted hgd).1 hw) hml hq (gcond_elim hF hc ((gdOf_wanted hgd).1 hw))
                  have hv : ∀ w', Mem gS w' → Vr P o a w' z := fun w' _ => h2 w'
                  exact ⟨z, (hv w hM).qr, fun _ => hv, kk _ _ ⟨hM, hrw, hFq.lose z, by rw [lose_bx]; exact hBq, g, by rw [(put_bx _ _ _ _).1, (put_bx _ _ _ _).2.1, (put_bx _ _ _ _).2.2]; exact HI, hF.put hdst (fun _ => h1) rfl (fun h => absurd ((gdOf_wanted hgd).1 hw) h), hl, hbs⟩⟩
                · rw [if_neg hw]
                  exact kk _ _ ⟨hM, hrw, hFq.lose undef, by rw [lose_bx]; exact hBq, g, by rw [(put_bx _ _ _ _).1, (put_bx _ _ _ _).2.1, (put_bx _ _ _ _).2.2]; exact HI, hF.put hdst (fun hg => absurd ((gdOf_wanted hgd).2 hg) hw) rfl (fun _ => rfl), hl, hbs⟩
              · cases hq
            · cases h
        · rename_i hA
          have hA' : A.contains k = false := by simpa using hA
          split at h
          · rename_i st1 r1 cd1 he
            have still : gcond st c cd1 → (∀ a w, RelT P w0 N nt gS (sq.lose o.dst) (st1.put o.dst c r1) a w → wpT P ops Q (Mem gS) L A rest (k + 1) a w) →
                (if Region.wanted o (yielded ops a.tmps) = true then (if L.contains k = true then o.wp P a w (fun a' w' => Mem gS w' ∧ wpT P ops Q (Mem gS) L A rest (k + 1) a' w') NoQ
                  else ∃ v, Qr P o a w v ∧ (A.contains k = true → ∀ w', Mem gS w' → Vr P o a w' v) ∧ wpT P ops Q (Mem gS) L A rest (k + 1) (a.put o.dst v) w)
                else wpT P ops Q (Mem gS) L A rest (k + 1) (a.put o.dst undef) w) := by
              intro hc1 kk
              by_cases hw : Region.wanted o (yielded ops a.tmps) = true
              · rw [if_pos hw, if_neg hL]
                obtain ⟨g', z, k1, k2, k3, k4, k5⟩ := stillE_sound (P := P) hτ hN HI hF ((gdOf_wanted hgd).1 hw) he (gcond_elim hF hc1 ((gdOf_wanted hgd).1 hw))
                refine ⟨z, (show Vr P o a w z from k4).qr, fun h => (by rw [hA'] at h; cases h), kk _ _ ⟨hM, hrw, hFq.lose z, by rw [lose_bx]; exact hBq, g', by rw [(put_bx _ _ _ _).1, (put_bx _ _ _ _).2.1, (put_bx _ _ _ _).2.2]; exact k2, (hF.mono k1.1).put hdst (fun _ => k5) k3 (fun h => absurd ((gdOf_wanted hgd).1 hw) h), hl.trans k1.1, hbs.trans k1.2⟩⟩
              · rw [if_neg hw]
                have hst1 : st1 = st ∨ c = none := by
                  cases c with
                  | none => exact .inr rfl
                  | some q => exact .inl (stillE_st he)
                rcases hst1 with h1 | h1
                · subst h1
                  exact kk _ _ ⟨hM, hrw, hFq.lose undef, by rw [lose_bx]; exact hBq, g, by rw [(put_bx _ _ _ _).1, (put_bx _ _ _ _).2.1, (put_bx _ _ _ _).2.2]; exact HI, hF.put hdst (fun hg => absurd ((gdOf_wanted hgd).2 hg) hw) rfl (fun _ => rfl), hl, hbs⟩
                · subst h1; exact absurd ((gdOf_wanted hgd).2 trivial) hw
            split at h
            · rename_i r' cd' hq
              split at h
              · injection h with h
                simp only [Prod.mk.injEq] at h
                obtain ⟨rfl, rfl, rfl⟩ := h
                exact still hc kk
              · injection h with h
                simp only [Prod.mk.injEq] at h
                obtain ⟨rfl, rfl, rfl⟩ := h
                exact quiet (qopN_some hq) hc kk
            · injection h with h
              simp only [Prod.mk.injEq] at h
              obtain ⟨rfl, rfl, rfl⟩ := h
              exact still hc kk
          · cases h
    · cases h
theorem vrunT_conds {md : Option Nat} {ops : Array Oper} {L A : List Nat} : ∀ (l : List Oper) (k : Nat) (sq st : St) (c : Prop), (vrunT τ md nt ops L A l k sq st c).2.2.1 → c := by
  intro l
  induction l with
  | nil => intro k sq st c h; exact h
  | cons o l ih =>
    intro k sq st c h
    unfold vrunT at h
    split at h
    · exact (ih _ _ _ _ h).1
    · exact h
theorem vrunT_wpT {ops : Array Oper} {Q : Exit → Act → World → Prop} {L A : List Nat} {md : Option Nat} (hτ : τ.ok P) (hN : ∀ q, md = some q → N.bx.length ≤ q) : ∀ (l : List Oper) (k : Nat) (sq st : St) (c c' : Prop) (l' : List Oper) (k' : Nat), vrunT τ md nt ops L A l k sq st c = (sq', st', c', l', k') → c' →
    ∀ (a : Act) (w : World), RelT P w0 N nt gS sq st a w → (∀ a w, RelT P w0 N nt gS sq' st' a w → wpT P ops Q (Mem gS) L A l' k' a w) → wpT P ops Q (Mem gS) L A l k a w := by
  intro l
  induction l with
  | nil => intro k sq st c c' l' k' h _ a w H kk; simp only [vrunT, Prod.mk.injEq] at h; obtain ⟨rfl, rfl, rfl, rfl, rfl⟩ := h; exact kk _ _ H
  | cons o l ih =>
    intro k sq st c c' l' k' h hc a w H kk
    unfold vrunT at h
    split at h
    · rename_i sq1 st1 cd1 hs
      have hc1 : cd1 := by have := vrunT_conds (τ := τ) (nt := nt) (md := md) (ops := ops) (L := L) (A := A) l (k + 1) sq1 st1 (c ∧ cd1); rw [h] at this; exact (this hc).2
      exact vstepT_wpT hτ hN hs hc1 H fun a w H' => ih (k + 1) sq1 st1 _ c' l' k' h hc a w H' kk
    · simp only [Prod.mk.injEq] at h
      obtain ⟨rfl, rfl, rfl, rfl, rfl⟩ := h
      exact kk _ _ H
theorem Inv.loose {bx : List (Ty × AV)} {fz : List Nat} {rw_ : List (TypeId × Nat)} (h : Inv P w0 N g bx fz rw_ w) : Inv P { w with heap := #[] } ⟨fun _ _ => none, [], []⟩ g bx fz rw_ w :=
  ⟨h.mem, ⟨⟨rfl, rfl, rfl, Nat.zero_le _, fun k hk => absurd hk (Nat.not_lt_zero _)⟩, fun _ _ _ _ => .inl (Nat.zero_le _), fun _ _ _ _ _ => .inl (Nat.zero_le _), fun b hb => absurd hb (Nat.not_lt_zero _), ⟨fun _ _ _ h => (by cases h), fun _ _ h => (by cases h), fun _ _ h => (by cases h)⟩⟩, h.br, h.fz, h.wr, h.wz⟩
/-- A region that draws its order. -/
theorem v_draw {id : Nat} {Q : Exit → Act → World → Prop} {l : List Oper} (nb : Nat) (L A : List Nat) (hm : P.follows .mixedOrders = true) (hchk : chk l.toArray (Region.before l.toArray) L A = true) (H : Rel P w0 N nt st a w)
    (hb : (st.bx.take nb).all (fun x => low nb 0 4 x.2) = true)
    (k : ∀ gS, RelT P w0 N nt gS ⟨st.t.filter fun p => low nb 0 4 p.2.2, st.bx.take nb, st.fz, []⟩ st a w.drew → wpT P l.toArray Q (Mem gS) L A l 0 a w.drew) : (Code.region id l.toArray true).wp P Q a w := by
  obtain ⟨g, HI, hF⟩ := H
  have HI' := HI.drew
  have hc := HI'.loose.cut (nr := 0) (Nat.zero_le _) (Nat.zero_le _) hb
  have hgb : ∀ (i : Nat) x, (g.cut nb 0).bx[i]? = some x → g.bx[i]? = some x := fun i x hx => by
    have : (g.bx.take nb)[i]? = some x := hx
    rw [List.getElem?_take] at this
    split at this
    · exact this
    · cases this
  have hle : (g.cut nb 0).le g := ⟨fun _ _ _ h => h, fun i x hx => ⟨x, hgb i x hx, x.same⟩, fun i r hr => by simp [Gh.cut] at hr⟩
  have hbs : Bs (g.cut nb 0) g := fun i x hx => ⟨x, hgb i x hx, rfl, rfl, rfl, rfl, rfl⟩
  have HT : RelT P w0 N nt (g.cut nb 0) ⟨st.t.filter fun p => low nb 0 4 p.2.2, st.bx.take nb, st.fz, []⟩ st a w.drew :=
    ⟨hc.mem, by simp [Gh.cut], ⟨hF.sz, hF.df, fun p hp hg => by
      simp only [List.mem_filter] at hp
      exact (hF.t p hp.1 hg).low_ (d := 3) hp.2, fun p hp hg => hF.u p (List.mem_filter.1 hp).1 hg⟩, hc.br, g, HI', hF, hle, hbs⟩
  exact wp_region_T L A (Mem (g.cut nb 0)) hm hchk HT.mem (k _ HT)
theorem v_drawNil {ops : Array Oper} {Q : Exit → Act → World → Prop} {L A : List Nat} {k : Nat} (H : RelT P w0 N nt gS sq st a w) (h : Rel P w0 N nt st a w → Q .normal a w) : wpT P ops Q (Mem gS) L A [] k a w := by
  obtain ⟨_, _, _, _, g, HI, hF, _⟩ := H
  exact h ⟨g, HI, hF⟩
/-- A call in such a region. -/
theorem v_callT {ops : Array Oper} {Q : Exit → Act → World → Prop} {L A : List Nat} {k : Nat} {rest : List Oper} {o : Oper} {f : FuncId} {xs : List Operand} {ats : Array TypeId} {bxc bx' : List (Ty × AV)} {fzc fz' : List Nat} {rwc rw' : List (TypeId × Nat)} {args : List AV} {res : AV} (js ks : List Nat)
    (hc : VX P f bxc fzc rwc args bx' fz' rw' res) (H : RelT P w0 N nt gS sq st a w) (hL : L.contains k = true) (hjs : js.all (fun j => decide (sq.bx.length ≤ j)) = true)
    (hgd : o.guard = none) (ho : o.op = .call ⟨.value (.func f), xs.toArray, ats⟩) (hchk : (okSel js st.bx.length && okSel ks st.rw.length && usesB js st.bx && fzOk js st.fz fzc 0 && xs.all (fun x => argOk js (st.ev none x)) && uses some 4 res && bx'.all (fun x => uses some 4 x.2) && okDst nt none o.dst) = true)
    (hb : bxs (pickB js ks st.bx) bxc) (hr : ks.filterMap (st.rw[·]?) = rwc) (ha : allP (sub 4) (cargs st js ks xs) args)
    (kk : ∀ a w, RelT P w0 N nt gS (sq.lose o.dst) ((⟨st.t, mergeL st.bx js (renB js ks st.bx.length st.rw.length bx'), st.fz ++ fz'.map (nth js st.bx.length), mergeL st.rw ks rw'⟩ : St).put o.dst none (ren (fun k => some (nth js st.bx.length k)) (fun k => some (nth ks st.rw.length k)) 4 res)) a w → wpT P ops Q (Mem gS) L A rest (k + 1) a w) : wpT P ops Q (Mem gS) L A (o :: rest) k a w := by
  obtain ⟨hfok, hcall⟩ := hc
  obtain ⟨hM, hrw, hFq, hBq, g, HI, hF, hle, hbs⟩ := H
  simp only [Bool.and_eq_true] at hchk
  obtain ⟨⟨⟨⟨⟨⟨⟨c1, c2⟩, c3⟩, c4⟩, c5⟩, c6⟩, c7⟩, c8⟩ := hchk
  obtain ⟨hj, nj⟩ := okSel_ok c1
  obtain ⟨hk, nk⟩ := okSel_ok c2
  obtain ⟨h1, h2⟩ := cargs_ok HI hF hj hk c5 ha
  unfold wpT
  rw [if_pos (by simp [Region.wanted, hgd]), if_pos hL]
  unfold Oper.wp
  rw [run_callF hfok xs ats ho w, Oper.upon_enter]
  have HP : Inv P w (g.pick js ks) (g.pick js ks) bxc fzc rwc w := HI.pick js ks hj hk nj nk (usesB_ok c3) hb (fun i j hi hm => by simpa using fzOk_ok c4 i j hi hm) hr
    ⟨Kept.refl _ _, fun i x hx hxo => .inr ⟨x, hx, hxo, rfl⟩, fun i r k hr hrk => .inr ⟨r, hr, hrk⟩, fun _ _ _ _ => rfl, Gh.le.refl _⟩
  refine (hcall w (g.pick js ks) (xs.map a.eval) HP (by simp [h1]) h2).mono fun e w' hp => ?_
  obtain ⟨g1, v, rfl, HI1, hv⟩ := hp
  obtain ⟨k1, k2, k3, k4⟩ := HI.call HI1 hj hk nj nk (fun x hx => List.all_eq_true.1 c7 x hx)
  have hv' := hv.ren_ (g1 := g1) (g2 := ⟨g1.ro, mergeL g.bx js g1.bx, mergeL g.rw ks g1.rw⟩) (fb := fun k => some (nth js st.bx.length k)) (fr := fun k => some (nth ks st.rw.length k)) (d := 3) rfl (fun i j x hij hx => by injection hij with hij; subst hij; exact k3 i x hx) (fun i j x hij hx => by injection hij with hij; subst hij; exact k4 i x hx) (uses_some c6)
  have hbs' : Bs gS ⟨g1.ro, mergeL g.bx js g1.bx, mergeL g.rw ks g1.rw⟩ := fun i x hx => by
    obtain ⟨y, h3, h4⟩ := hbs i x hx
    refine ⟨y, merge_old (fun hm => ?_) h3, h4⟩
    have h5 := List.all_eq_true.1 hjs i hm
    simp only [decide_eq_true_eq] at h5
    have h6 := (List.getElem?_eq_some_iff.1 hx).1
    rw [hBq.len] at h6; omega
  have hM' := MemS (st := ⟨st.t, mergeL st.bx js (renB js ks st.bx.length st.rw.length bx'), st.fz ++ fz'.map (nth js st.bx.length), mergeL st.rw ks rw'⟩) hM hrw k2 (hle.trans k1) hbs'
  refine ⟨hM', kk _ _ ⟨hM', hrw, hFq.lose v, by rw [lose_bx]; exact hBq, _, ?_, (hF.mono k1).put c8 (fun _ => hv') rfl (fun h => absurd trivial h), hle.trans k1, hbs'⟩⟩
  rw [(put_bx _ _ _ _).1, (put_bx _ _ _ _).2.1, (put_bx _ _ _ _).2.2]
  exact k2
theorem v_moreT {ops : Array Oper} {Q : Exit → Act → World → Prop} {L A : List Nat} {q : Nat} {l l' : List Oper} {k k' : Nat} {c' : Prop} (hτ : τ.ok P) (hN : N.bx.length ≤ q) (H : RelT P w0 N nt gS sq st a w) (h : vrunT τ (some q) nt ops L A l k sq st True = (sq', st', c', l', k')) (hc : c')
    (kk : ∀ a w, RelT P w0 N nt gS sq' st' a w → wpT P ops Q (Mem gS) L A l' k' a w) : wpT P ops Q (Mem gS) L A l k a w :=
  vrunT_wpT hτ (hNq hN) l k sq st True c' l' k' h hc a w H kk
end
end Go.Proofs.Ytpeefeioccglcaa

/- Calls under a guard. -/
namespace Go.Proofs.Ytpeefeioccglcaa
open Go Go.RowKit
/-- What a known state is made plain by. -/

theorem pk : type_of% (And.intro @eq_self.{1} <| And.intro @Bool.not_true <| And.intro @Bool.not_false <| And.intro @cond_true.{1} <| And.intro @cond_false.{1} <| And.intro @List.cons_append.{0} <| And.intro @List.nil_append.{0} <| And.intro @List.append_nil.{0} <| And.intro @List.length_cons.{0} <| And.intro @List.length_nil.{0} <| And.intro @List.length_append.{0} <| And.intro @Nat.zero_add <| And.intro @Nat.add_zero <| And.intro @List.set_cons_zero.{0} <| And.intro @List.set_cons_succ.{0} <| And.intro @List.getElem?_cons_zero.{0} <| And.intro @List.getElem?_cons_succ.{0} <| And.intro @or_self <| And.intro @or_false <| And.intro @false_or <| And.intro @decide_true <| And.intro @decide_false <| And.intro @List.map_cons.{0, 0} <| And.intro @List.map_nil.{0, 0} <| And.intro @Int.toNat_natCast <| And.intro @Option.some.injEq.{0} <| And.intro @List.filter_cons.{0} <| And.intro @List.filter_nil.{0} <| And.intro @List.contains_cons.{0} <| And.intro @List.contains_nil.{0} <| And.intro @Bool.or_self <| And.intro @Bool.or_false <| And.intro @Bool.false_or <| And.intro @Bool.or_true <| And.intro @Bool.true_or <| And.intro @Bool.false_eq_true <| And.intro @List.take_succ_cons.{0} <| And.intro @List.take_zero.{0} <| And.intro @List.take_nil.{0} <| And.intro @rep1 <| And.intro @rep2 <| And.intro @rep3 <| And.intro @rep4 <| And.intro @rep5 <| And.intro @UInt8.ofNat_toNat <| And.intro @wrapu8 <| And.intro @wrapu16 <| And.intro @wrapu32 <| And.intro @wrapu64 <| And.intro @Nat.min_def <| And.intro @sub_refl <| And.intro @List.getD_nil.{0} <| And.intro @List.getD_cons_zero.{0} <| And.intro @List.getD_cons_succ.{0} <| And.intro @List.drop_succ_cons.{0} <| And.intro @List.drop_nil.{0} <| And.intro @Option.bind_some.{0, 0} <| And.intro @Option.bind_none.{0, 0} <| And.intro @Option.getD_some.{0} <| And.intro @Nat.sub_zero <| And.intro @Nat.sub_self <| And.intro @Nat.add_sub_cancel_left <| And.intro @Bool.and_self <| And.intro @Bool.and_true <| And.intro @Bool.true_and <| And.intro @List.all_cons.{0} <| And.intro @List.all_nil.{0} <| And.intro @Option.map_some.{0, 0} <| And.intro @Option.map_none.{0, 0} <| And.intro @Int.toNat_zero <| And.intro @List.drop_zero.{0} <| And.intro @List.take_length.{0} <| And.intro @and_self <| And.intro @and_true <| And.intro @true_and <| @implies_true.{0}) :=
  And.intro @eq_self.{1} <| And.intro @Bool.not_true <| And.intro @Bool.not_false <| And.intro @cond_true.{1} <| And.intro @cond_false.{1} <| And.intro @List.cons_append.{0} <| And.intro @List.nil_append.{0} <| And.intro @List.append_nil.{0} <| And.intro @List.length_cons.{0} <| And.intro @List.length_nil.{0} <| And.intro @List.length_append.{0} <| And.intro @Nat.zero_add <| And.intro @Nat.add_zero <| And.intro @List.set_cons_zero.{0} <| And.intro @List.set_cons_succ.{0} <| And.intro @List.getElem?_cons_zero.{0} <| And.intro @List.getElem?_cons_succ.{0} <| And.intro @or_self <| And.intro @or_false <| And.intro @false_or <| And.intro @decide_true <| And.intro @decide_false <| And.intro @List.map_cons.{0, 0} <| And.intro @List.map_nil.{0, 0} <| And.intro @Int.toNat_natCast <| And.intro @Option.some.injEq.{0} <| And.intro @List.filter_cons.{0} <| And.intro @List.filter_nil.{0} <| And.intro @List.contains_cons.{0} <| And.intro @List.contains_nil.{0} <| And.intro @Bool.or_self <| And.intro @Bool.or_false <| And.intro @Bool.false_or <| And.intro @Bool.or_true <| And.intro @Bool.true_or <| And.intro @Bool.false_eq_true <| And.intro @List.take_succ_cons.{0} <| And.intro @List.take_zero.{0} <| And.intro @List.take_nil.{0} <| And.intro @rep1 <| And.intro @rep2 <| And.intro @rep3 <| And.intro @rep4 <| And.intro @rep5 <| And.intro @UInt8.ofNat_toNat <| And.intro @wrapu8 <| And.intro @wrapu16 <| And.intro @wrapu32 <| And.intro @wrapu64 <| And.intro @Nat.min_def <| And.intro @sub_refl <| And.intro @List.getD_nil.{0} <| And.intro @List.getD_cons_zero.{0} <| And.intro @List.getD_cons_succ.{0} <| And.intro @List.drop_succ_cons.{0} <| And.intro @List.drop_nil.{0} <| And.intro @Option.bind_some.{0, 0} <| And.intro @Option.bind_none.{0, 0} <| And.intro @Option.getD_some.{0} <| And.intro @Nat.sub_zero <| And.intro @Nat.sub_self <| And.intro @Nat.add_sub_cancel_left <| And.intro @Bool.and_self <| And.intro @Bool.and_true <| And.intro @Bool.true_and <| And.intro @List.all_cons.{0} <| And.intro @List.all_nil.{0} <| And.intro @Option.map_some.{0, 0} <| And.intro @Option.map_none.{0, 0} <| And.intro @Int.toNat_zero <| And.intro @List.drop_zero.{0} <| And.intro @List.take_length.{0} <| And.intro @and_self <| And.intro @and_true <| And.intro @true_and <| @implies_true.{0}
theorem cd {c : Prop} (h : c := by ((repeat' (apply And.intro)) <;> first | exact True.intro | assumption | omega | (intro hg; simp at hg; omega) | (intro hg; simp at hg; (repeat' (apply And.intro)) <;> first | omega | (simp; omega)) | (simp; done) | (simp; omega) | (simp [ilo, ihi, IntKind.bits]; omega) | (simp [fit, AV.put]; done) | (simp [fit, AV.put]; omega))) : c := h
section
variable {P : Program} {τ : Tab} {w0 w : World} {N : Gh} {g gS : Gh} {st st' sq sq' : St} {nt : Nat} {a : Act}
def cargsG (st : St) (c : Gd) (js ks : List Nat) (xs : List Operand) : List AV := xs.map fun x => ren (idx? js) (idx? ks) 4 (st.ev c x)
theorem cargs_okG {c : Gd} (hg : gholds a c) (HI : Inv P w0 N g st.bx st.fz st.rw w) (hF : FR g nt st a) {js ks : List Nat} (hj : ∀ j ∈ js, j < st.bx.length) (hk : ∀ k ∈ ks, k < st.rw.length) {xs : List Operand} {args : List AV} (hx : xs.all (fun x => argOk js (st.ev c x)) = true) (ha : allP (sub 4) (cargsG st c js ks xs) args) :
    args.length = xs.length ∧ ∀ (i : Nat) x v, args[i]? = some x → (xs.map a.eval)[i]? = some v → RV (g.pick js ks) x v := by
  obtain ⟨h1, h2⟩ := allP_get ha
  refine ⟨by rw [← h1]; simp [cargsG], fun i x v hi hv => ?_⟩
  obtain ⟨y, hy, hs⟩ := h2 i x hi
  unfold cargsG at hy
  rw [List.getElem?_map] at hy hv
  obtain ⟨o, ho, rfl⟩ := Option.map_eq_some_iff.1 hy
  rw [ho] at hv
  simp only [Option.map_some, Option.some.injEq] at hv
  subst hv
  have hc := List.all_eq_true.1 hx o (List.mem_of_getElem? ho)
  simp only [argOk, Bool.and_eq_true, Bool.not_eq_true'] at hc
  have hr := ev_sound hF hg o
  have hlr : g.rw.length = st.rw.length := by rw [← HI.wr, List.length_map]
  have hp := hr.pick_ (js := js) (ks := ks) (d := 3) (fun j hm => by rw [HI.br.len]; exact hj j hm) (fun k hm => by rw [hlr]; exact hk k hm) hc.1.1
  have ht : ∀ az, st.ev c o ≠ .tup az := fun az e => by rw [e] at hc; simp at hc
  exact ((hp.rv1 (ren_any hc.1.2) (ren_tup ht)).sub_ hs).rv
/-- A call under a guard that leaves boxes and rows as they are. -/
theorem v_callG {ops : Array Oper} {Q : Exit → Act → World → Prop} {rest : List Oper} {o : Oper} {f : FuncId} {xs : List Operand} {ats : Array TypeId} {bxc bx' : List (Ty × AV)} {fzc fz' : List Nat} {rwc rw' : List (TypeId × Nat)} {args : List AV} {res : AV} {c : Gd} (js ks : List Nat)
    (hc : VX P f bxc fzc rwc args bx' fz' rw' res) (H : Rel P w0 N nt st a w)
    (hgd : gdOf ops o = some c) (ho : o.op = .call ⟨.value (.func f), xs.toArray, ats⟩) (hchk : (okSel js st.bx.length && okSel ks st.rw.length && usesB js st.bx && fzOk js st.fz fzc 0 && xs.all (fun x => argOk js (st.ev c x)) && uses some 4 res && bx'.all (fun x => uses some 4 x.2) && okDst nt c o.dst) = true)
    (hb : bxs (pickB js ks st.bx) bxc) (hr : ks.filterMap (st.rw[·]?) = rwc) (ha : allP (sub 4) (cargsG st c js ks xs) args)
    (hmb : mergeL st.bx js (renB js ks st.bx.length st.rw.length bx') = st.bx) (hmf : fz'.map (nth js st.bx.length) = []) (hmr : mergeL st.rw ks rw' = st.rw)
    (k : ∀ a w, Rel P w0 N nt (st.put o.dst c (ren (fun k => some (nth js st.bx.length k)) (fun k => some (nth ks st.rw.length k)) 4 res)) a w → wpList P ops Q rest a w) : wpList P ops Q (o :: rest) a w := by
  obtain ⟨hfok, hcall⟩ := hc
  obtain ⟨g, HI, hF⟩ := H
  simp only [Bool.and_eq_true] at hchk
  obtain ⟨⟨⟨⟨⟨⟨⟨c1, c2⟩, c3⟩, c4⟩, c5⟩, c6⟩, c7⟩, c8⟩ := hchk
  obtain ⟨hj, nj⟩ := okSel_ok c1
  obtain ⟨hk, nk⟩ := okSel_ok c2
  refine wpList_step fun K hK => ?_
  by_cases hw : Region.wanted o (yielded ops a.tmps) = true
  · rw [if_pos hw]
    obtain ⟨h1, h2⟩ := cargs_okG ((gdOf_wanted hgd).1 hw) HI hF hj hk c5 ha
    unfold Oper.wp
    rw [run_callF hfok xs ats ho w, Oper.upon_enter]
    have HP : Inv P w (g.pick js ks) (g.pick js ks) bxc fzc rwc w := HI.pick js ks hj hk nj nk (usesB_ok c3) hb (fun i j hi hm => by simpa using fzOk_ok c4 i j hi hm) hr
      ⟨Kept.refl _ _, fun i x hx hxo => .inr ⟨x, hx, hxo, rfl⟩, fun i r k hr hrk => .inr ⟨r, hr, hrk⟩, fun _ _ _ _ => rfl, Gh.le.refl _⟩
    refine (hcall w (g.pick js ks) (xs.map a.eval) HP (by simp [h1]) h2).mono fun e w' hp => ?_
    obtain ⟨g1, v, rfl, HI1, hv⟩ := hp
    obtain ⟨k1, k2, k3, k4⟩ := HI.call HI1 hj hk nj nk (fun x hx => List.all_eq_true.1 c7 x hx)
    have hv' := hv.ren_ (g1 := g1) (g2 := ⟨g1.ro, mergeL g.bx js g1.bx, mergeL g.rw ks g1.rw⟩) (fb := fun k => some (nth js st.bx.length k)) (fr := fun k => some (nth ks st.rw.length k)) (d := 3) rfl (fun i j x hij hx => by injection hij with hij; subst hij; exact k3 i x hx) (fun i j x hij hx => by injection hij with hij; subst hij; exact k4 i x hx) (uses_some c6)
    rw [hmb, hmf, hmr, List.append_nil] at k2
    refine hK _ _ (k _ _ ⟨_, ?_, (hF.mono k1).put c8 (fun _ => hv') rfl (fun h => absurd ((gdOf_wanted hgd).1 hw) h)⟩)
    cases o.dst <;> exact k2
  · rw [if_neg hw]
    refine hK _ _ (k _ _ ⟨g, ?_, hF.put c8 (fun hg => absurd ((gdOf_wanted hgd).2 hg) hw) rfl (fun _ => rfl)⟩)
    cases o.dst <;> exact HI
end
end Go.Proofs.Ytpeefeioccglcaa

/- Guards that are known to hold; pointers to what changes no more. -/
namespace Go.Proofs.Ytpeefeioccglcaa
open Go Go.RowKit
section
variable {P : Program} {τ : Tab} {w0 w : World} {N : Gh} {g gS : Gh} {st st' sq sq' : St} {nt : Nat} {a : Act}
theorem cd2 {c : Prop} (h : c := by ((repeat' (apply And.intro)) <;> (intros; first | omega | (simp at *; omega) | (simp_all; done) | (simp_all; omega)))) : c := h
/-- A box that changes no more: a pointer to it is one to what stays for ever. -/
theorem v_ref (H : Rel P w0 N nt st a w) (d i : Nat) {T : Ty} {x : AV} (hN : N.bx.length ≤ i) (hb : st.bx[i]? = some (T, x)) (hp : pure_ 4 x = true) (hd : find d st.t = some (none, .ptr i [])) (hTg : T.grows = false := by rfl) :
    Rel P w0 N nt ⟨nilT d (.ref T (strip 4 x)) st.t, st.bx, i :: st.fz, st.rw⟩ a w := by
  obtain ⟨g, HI, hF⟩ := H
  obtain ⟨y, hy, hT, hrc⟩ := HI.br.at_ i T x hb
  obtain ⟨hyo, hym, hrc⟩ := hrc.rc hTg
  obtain ⟨g1, l1, I1, ⟨y', hy', hblk, hcells, hty, _⟩, hro⟩ := HI.freeze hy hyo hym hN
  refine ⟨g1, I1, (hF.mono l1.1).sz, hF.df, fun p hp' hg => ?_, fun p hp hg => by rcases nilT_mem hp with h | h; (subst h; exact absurd trivial hg); exact hF.u p h hg⟩
  rcases nilT_mem hp' with h | h
  · subst h
    have h1 := (hF.t _ (find_mem hd) trivial).ptr_inv
    have hv : a.tmps.getD d undef = .pointer (some ⟨y.blk, 0, none⟩) := by
      generalize a.tmps.getD d undef = u at h1
      cases h1 with
      | ptr h ho =>
        rw [hy] at h
        injection h with h
        subst h
        rw [Ty.loc_nil (Ty.loc_grows ho)] at ho
        simp only [Option.some.injEq, Prod.mk.injEq] at ho
        rw [ho.1]
    have : RV g1 (.ref T (strip 4 x)) (a.tmps.getD d undef) := by
      rw [hv]
      exact (RC.ref (g := g1) y.cells ((hrc.mono l1.1).strip_ hp) (fun j u hu => by rw [Nat.zero_add]; exact hro j u hu)).rvp
    exact this
  · exact (hF.mono l1.1).t p h hg
/-- A few steps. -/
theorem v_some {ops : Array Oper} {Q : Exit → Act → World → Prop} {q : Nat} {o : Oper} {l : List Oper} {c' : Prop} (n : Nat) (hτ : τ.ok P) (hN : N.bx.length ≤ q) (H : Rel P w0 N nt st a w) (h : vrun τ (some q) nt ops ((o :: l).take n) st True = (st', c', [])) (hc : c')
    (k : ∀ a w, Rel P w0 N nt st' a w → wpList P ops Q ((o :: l).drop n) a w) : wpList P ops Q (o :: l) a w := v_steps n hτ hN H h hc k
theorem v_someT {ops : Array Oper} {Q : Exit → Act → World → Prop} {L A : List Nat} {q k k' : Nat} {o : Oper} {l : List Oper} {c' : Prop} (n : Nat) (hτ : τ.ok P) (hN : N.bx.length ≤ q) (H : RelT P w0 N nt gS sq st a w) (h : vrunT τ (some q) nt ops L A ((o :: l).take n) k sq st True = (sq', st', c', [], k')) (hc : c')
    (kk : ∀ a w, RelT P w0 N nt gS sq' st' a w → wpT P ops Q (Mem gS) L A ((o :: l).drop n) k' a w) : wpT P ops Q (Mem gS) L A (o :: l) k a w := by
  have key : ∀ (l1 l2 : List Oper) (k : Nat) (sq st : St) (c : Prop), vrunT τ (some q) nt ops L A l1 k sq st c = (sq', st', c', [], k') → c' → ∀ a w, RelT P w0 N nt gS sq st a w → (∀ a w, RelT P w0 N nt gS sq' st' a w → wpT P ops Q (Mem gS) L A l2 k' a w) → wpT P ops Q (Mem gS) L A (l1 ++ l2) k a w := by
    intro l1 l2
    induction l1 with
    | nil => intro k sq st c h _ a w H kk; simp only [vrunT, Prod.mk.injEq] at h; obtain ⟨rfl, rfl, _, _, rfl⟩ := h; exact kk _ _ H
    | cons o l1 ih =>
      intro k sq st c h hc a w H kk
      unfold vrunT at h
      split at h
      · rename_i sq1 st1 cd1 hs
        have hc1 : cd1 := by have := vrunT_conds (τ := τ) (nt := nt) (md := some q) (ops := ops) (L := L) (A := A) l1 (k + 1) sq1 st1 (c ∧ cd1); rw [h] at this; exact (this hc).2
        exact vstepT_wpT hτ (hNq hN) hs hc1 H fun a w H' => ih (k + 1) sq1 st1 _ h hc a w H' kk
      · simp at h
  have := key ((o :: l).take n) ((o :: l).drop n) k sq st True h hc a w H kk
  rwa [List.take_append_drop] at this
end
section
variable {P : Program} {τ : Tab} {w0 w : World} {N : Gh} {st : St} {nt : Nat} {a : Act}
end
/-- append onto a slice that is none, into what grows. -/
def appN (τ : Tab) (st : St) (t : Nat) (x y : AV) : ER :=
  match Tab.get t τ, x with
  | some i, .v (.slice none 0 0) =>
    (match i.d with
    | .slc e => (match Tab.get e τ with
      | some j => if 0 < j.ty.size then (if isByte τ e = true then appV τ { st with bx := st.bx ++ [(.vc e .sc, .vb 0 [])] } t (.vw st.bx.length 0 0) y
        else appV τ { st with bx := st.bx ++ [(.vc e j.ty, .vc 0 [])] } t (.vw st.bx.length 0 0) y) else none
      | none => none)
    | _ => none)
  | _, _ => none
section
variable {P : Program} {τ : Tab} {w0 w : World} {N : Gh} {g gS : Gh} {st st' sq sq' : St} {nt : Nat} {a : Act} {r : AV} {cd : Prop}
theorem appN_sound (hτ : τ.ok P) (H : Inv P w0 N g st.bx st.fz st.rw w) {t : Nat} {x y : AV} (h : appN τ st t x y = some (st', r, cd)) (hc : cd) {u v : Value} (hu : RV g x u) (hv : RV g y v) (ty : TypeId) :
    EOk true P w0 N g st st' r w (do pure (.value (← Builtin.append_ #[t, t] ty #[u, v]))) := by
  unfold appN at h
  split at h
  · rename_i i hi
    have hvu := hu.v_inv; subst hvu
    split at h
    · rename_i e hid
      split at h
      · rename_i j hj
        split at h
        · rename_i hs
          split at h
          · obtain ⟨g1, l1, I1, h1⟩ := H.boxG (x := ⟨0, e, .vc e .sc, [], false, 0, 0, true, none⟩) (a := .vb 0 []) (w' := w) rfl ⟨rfl, rfl, rfl, Nat.le_refl _, fun _ _ _ => rfl⟩ (fun e => by cases e) (fun _ => rfl) (fun e => by cases e)
              (.inr (.inr (.inl ⟨0, [], [], ⟨_, rfl, rfl⟩, rfl, rfl, rfl, ⟨Nat.zero_le _, fun _ => rfl⟩, rfl, rfl⟩)))
            obtain ⟨g', w', k1, k2, k3, k4⟩ := appV_sound (st := { st with bx := st.bx ++ [(.vc e .sc, .vb 0 [])] }) hτ I1 h hc (u := .slice none 0 0) (RC.vw h1 rfl (Nat.le_refl _) (Nat.le_refl _) (Nat.zero_le _) fun _ => ⟨rfl, .inl ⟨rfl, rfl⟩⟩).rv1 (hv.mono l1.1) ty
            exact ⟨g', w', ⟨l1.1.trans k1.1, fun e => by cases e⟩, k2, k3, k4⟩
          · obtain ⟨g1, l1, I1, h1⟩ := H.boxG (x := ⟨0, e, .vc e j.ty, [], false, 0, 0, true, none⟩) (a := .vc 0 []) (w' := w) rfl ⟨rfl, rfl, rfl, Nat.le_refl _, fun _ _ _ => rfl⟩ (fun e => by cases e) (fun _ => rfl) (fun e => by cases e)
              (.inr (.inl ⟨j.ty, 0, [], fun _ => [], [], ⟨_, rfl, rfl⟩, rfl, rfl, rfl, hs, ⟨Nat.zero_le _, fun _ => rfl⟩, rfl, (by show 0 = 0 * _; rw [Nat.zero_mul]), fun u hu => (by cases hu), fun k hk => absurd hk (by simp)⟩))
            obtain ⟨g', w', k1, k2, k3, k4⟩ := appV_sound (st := { st with bx := st.bx ++ [(.vc e j.ty, .vc 0 [])] }) hτ I1 h hc (u := .slice none 0 0) (RC.vw h1 rfl (Nat.le_refl _) (Nat.le_refl _) (Nat.zero_le _) fun _ => ⟨rfl, .inl ⟨rfl, rfl⟩⟩).rv1 (hv.mono l1.1) ty
            exact ⟨g', w', ⟨l1.1.trans k1.1, fun e => by cases e⟩, k2, k3, k4⟩
        · cases h
      · cases h
    · cases h
  · cases h
/-- The next operation appends onto a slice that is none: what comes of it grows. -/
theorem v_appN {ops : Array Oper} {Q : Exit → Act → World → Prop} {rest : List Oper} {o : Oper} {t : Nat} {x y : Operand} (hτ : τ.ok P) (H : Rel P w0 N nt st a w) (hgd : o.guard = none) (ho : o.op = .call ⟨.builtin .append, #[x, y], #[t, t]⟩) (hd : okDst nt none o.dst = true)
    (h : appN τ st t (st.ev none x) (st.ev none y) = some (st', r, cd)) (hc : cd) (k : ∀ a w, Rel P w0 N nt (st'.put o.dst none r) a w → wpList P ops Q rest a w) : wpList P ops Q (o :: rest) a w := by
  obtain ⟨g, HI, hF⟩ := H
  obtain ⟨g', w', k1, k2, k3, k4⟩ := appN_sound hτ HI h hc (ev_sound hF (c := none) trivial x) (ev_sound hF (c := none) trivial y) o.type
  refine wpList_plain hgd fun K hK => ?_
  unfold Oper.wp
  have he : (execOp a.eval o).run P w = (do pure (.value (← Builtin.append_ #[t, t] o.type #[a.eval x, a.eval y])) : Sem Next).run P w := by
    obtain ⟨dst, op, ty, pos, after, gd⟩ := o
    dsimp only at ho
    subst ho
    simp [execOp, resolve, invoke, builtin]
  rw [he]
  rcases k4 with ⟨z, h1, h2⟩ | ⟨h1, h2⟩
  · rw [h1, Oper.upon_value]
    refine hK _ _ (k _ _ ⟨g', ?_, (hF.mono k1.1).put hd (fun _ => h2) k3 (fun h => absurd trivial h)⟩)
    cases o.dst <;> exact k2
  · exfalso; simp only [Sem.run_bind] at h1
    cases hr : (Builtin.append_ #[t, t] o.type #[a.eval x, a.eval y]).run P w <;> rw [hr] at h1 <;> simp [Result.andThen] at h1
end
theorem cb {c : Prop} (h : c := by (simp [pickB, bxs, ren, idx?, sub_refl, sub, allP] <;> omega)) : c := h
theorem cw {c : Prop} (h : c := by (first | rfl | (simp <;> omega))) : c := h
theorem ca {c : Prop} (h : c := by (first | exact trivial | exact ⟨sub_refl _ _, trivial⟩ | exact ⟨sub_refl _ _, sub_refl _ _, trivial⟩ | exact ⟨sub_refl _ _, sub_refl _ _, sub_refl _ _, trivial⟩ | exact ⟨⟨rfl, sub_refl _ _, trivial⟩, sub_refl _ _, trivial⟩ | (simp [cargs, cargsG, St.ev, St.tmp, find, ren, idx?, sub_refl, sub, allP, resv, resC, bss] <;> omega))) : c := h
end Go.Proofs.Ytpeefeioccglcaa
