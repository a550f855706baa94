/- The types of the program, as they lie in memory. By program (gen_tab.py). -/
import Derived.Test.YtpeefeioccglcaaA4
set_option linter.unusedSimpArgs false
set_option linter.unusedVariables false
namespace Go.Proofs.Ytpeefeioccglcaa
open Go Go.RowKit
def ti2 : TI := ⟨.int .i64, .sc, (.v (.int .i64 0)), 8⟩
theorem ti2_ok : ti2.ok Try.prog 2 := ti_ok (zc := [(.int .i64 0)]) (by kernel_rfl) (by kernel_rfl) (fun _ => (.v rfl)) (fun k h => by cases h; rfl)
def ti3 : TI := ⟨.int .i64, .sc, (.v (.int .i64 0)), 8⟩
theorem ti3_ok : ti3.ok Try.prog 3 := ti_ok (zc := [(.int .i64 0)]) (by kernel_rfl) (by kernel_rfl) (fun _ => (.v rfl)) (fun k h => by cases h; rfl)
def ti4 : TI := ⟨.bool, .sc, (.v (.bool false)), 1⟩
theorem ti4_ok : ti4.ok Try.prog 4 := ti_ok (zc := [(.bool false)]) (by kernel_rfl) (by kernel_rfl) (fun _ => (.v rfl)) (fun k h => by cases h)
def ti5 : TI := ⟨.int .u8, .sc, (.v (.int .u8 0)), 1⟩
theorem ti5_ok : ti5.ok Try.prog 5 := ti_ok (zc := [(.int .u8 0)]) (by kernel_rfl) (by kernel_rfl) (fun _ => (.v rfl)) (fun k h => by cases h; rfl)
def ti9 : TI := ⟨.str, .sc, (.v (.string ⟨#[]⟩)), 16⟩
theorem ti9_ok : ti9.ok Try.prog 9 := ti_ok (zc := [(.string ⟨#[]⟩)]) (by kernel_rfl) (by kernel_rfl) (fun _ => (.v rfl)) (fun k h => by cases h)
def ti21 : TI := ⟨.int .i32, .sc, (.v (.int .i32 0)), 4⟩
theorem ti21_ok : ti21.ok Try.prog 21 := ti_ok (zc := [(.int .i32 0)]) (by kernel_rfl) (by kernel_rfl) (fun _ => (.v rfl)) (fun k h => by cases h; rfl)
def ti22 : TI := ⟨.slc 5, .sc, (.v (.slice none 0 0)), 24⟩
theorem ti22_ok : ti22.ok Try.prog 22 := ti_ok (zc := [(.slice none 0 0)]) (by kernel_rfl) (by kernel_rfl) (fun _ => (.v rfl)) (fun k h => by cases h)
def ti23 : TI := ⟨.slc 39, .sc, (.v (.slice none 0 0)), 24⟩
theorem ti23_ok : ti23.ok Try.prog 23 := ti_ok (zc := [(.slice none 0 0)]) (by kernel_rfl) (by kernel_rfl) (fun _ => (.v rfl)) (fun k h => by cases h)
def ti25 : TI := ⟨.ptr 180, .sc, (.v (.pointer none)), 8⟩
theorem ti25_ok : ti25.ok Try.prog 25 := ti_ok (zc := [(.pointer none)]) (by kernel_rfl) (by kernel_rfl) (fun _ => (.v rfl)) (fun k h => by cases h)
def ti26 : TI := ⟨.int .i64, .sc, (.v (.int .i64 0)), 8⟩
theorem ti26_ok : ti26.ok Try.prog 26 := ti_ok (zc := [(.int .i64 0)]) (by kernel_rfl) (by kernel_rfl) (fun _ => (.v rfl)) (fun k h => by cases h; rfl)
def ti29 : TI := ⟨.ptr 182, .sc, (.v (.pointer none)), 8⟩
theorem ti29_ok : ti29.ok Try.prog 29 := ti_ok (zc := [(.pointer none)]) (by kernel_rfl) (by kernel_rfl) (fun _ => (.v rfl)) (fun k h => by cases h)
def ti32 : TI := ⟨.ptr 36, .sc, (.v (.pointer none)), 8⟩
theorem ti32_ok : ti32.ok Try.prog 32 := ti_ok (zc := [(.pointer none)]) (by kernel_rfl) (by kernel_rfl) (fun _ => (.v rfl)) (fun k h => by cases h)
def ti33 : TI := ⟨.ptr 349, .sc, (.v (.pointer none)), 8⟩
theorem ti33_ok : ti33.ok Try.prog 33 := ti_ok (zc := [(.pointer none)]) (by kernel_rfl) (by kernel_rfl) (fun _ => (.v rfl)) (fun k h => by cases h)
def ti34 : TI := ⟨.ptr 353, .sc, (.v (.pointer none)), 8⟩
theorem ti34_ok : ti34.ok Try.prog 34 := ti_ok (zc := [(.pointer none)]) (by kernel_rfl) (by kernel_rfl) (fun _ => (.v rfl)) (fun k h => by cases h)
def ti35 : TI := ⟨.rcd [(0, 25), (1, 33), (2, 29), (3, 34), (4, 3)], (.cn .sc (.cn .sc (.cn .sc (.cn .sc (.cn .sc (.nl)))))), (.st [(.v (.pointer none)), (.v (.pointer none)), (.v (.pointer none)), (.v (.pointer none)), (.v (.int .i64 0))]), 40⟩
theorem ti35_ok : ti35.ok Try.prog 35 := ti_ok (zc := (([(.pointer none)]) ++ (([(.pointer none)]) ++ (([(.pointer none)]) ++ (([(.pointer none)]) ++ (([(.int .i64 0)]) ++ ([]))))))) (by kernel_rfl) (by kernel_rfl) (fun _ => (.cn (.v rfl) (.cn (.v rfl) (.cn (.v rfl) (.cn (.v rfl) (.cn (.v rfl) (.nl))))))) (fun k h => by cases h)
def ti36 : TI := ⟨.rcd [(0, 25), (1, 33), (2, 29), (3, 34), (4, 3)], (.cn .sc (.cn .sc (.cn .sc (.cn .sc (.cn .sc (.nl)))))), (.st [(.v (.pointer none)), (.v (.pointer none)), (.v (.pointer none)), (.v (.pointer none)), (.v (.int .i64 0))]), 40⟩
theorem ti36_ok : ti36.ok Try.prog 36 := ti_ok (zc := (([(.pointer none)]) ++ (([(.pointer none)]) ++ (([(.pointer none)]) ++ (([(.pointer none)]) ++ (([(.int .i64 0)]) ++ ([]))))))) (by kernel_rfl) (by kernel_rfl) (fun _ => (.cn (.v rfl) (.cn (.v rfl) (.cn (.v rfl) (.cn (.v rfl) (.cn (.v rfl) (.nl))))))) (fun k h => by cases h)
def ti37 : TI := ⟨.slc 178, .sc, (.v (.slice none 0 0)), 24⟩
theorem ti37_ok : ti37.ok Try.prog 37 := ti_ok (zc := [(.slice none 0 0)]) (by kernel_rfl) (by kernel_rfl) (fun _ => (.v rfl)) (fun k h => by cases h)
def ti38 : TI := ⟨.rcd [(0, 3), (1, 3), (2, 22), (3, 37)], (.cn .sc (.cn .sc (.cn .sc (.cn .sc (.nl))))), (.st [(.v (.int .i64 0)), (.v (.int .i64 0)), (.v (.slice none 0 0)), (.v (.slice none 0 0))]), 64⟩
theorem ti38_ok : ti38.ok Try.prog 38 := ti_ok (zc := (([(.int .i64 0)]) ++ (([(.int .i64 0)]) ++ (([(.slice none 0 0)]) ++ (([(.slice none 0 0)]) ++ ([])))))) (by kernel_rfl) (by kernel_rfl) (fun _ => (.cn (.v rfl) (.cn (.v rfl) (.cn (.v rfl) (.cn (.v rfl) (.nl)))))) (fun k h => by cases h)
def ti39 : TI := ⟨.rcd [(0, 3), (1, 3), (2, 22), (3, 37)], (.cn .sc (.cn .sc (.cn .sc (.cn .sc (.nl))))), (.st [(.v (.int .i64 0)), (.v (.int .i64 0)), (.v (.slice none 0 0)), (.v (.slice none 0 0))]), 64⟩
theorem ti39_ok : ti39.ok Try.prog 39 := ti_ok (zc := (([(.int .i64 0)]) ++ (([(.int .i64 0)]) ++ (([(.slice none 0 0)]) ++ (([(.slice none 0 0)]) ++ ([])))))) (by kernel_rfl) (by kernel_rfl) (fun _ => (.cn (.v rfl) (.cn (.v rfl) (.cn (.v rfl) (.cn (.v rfl) (.nl)))))) (fun k h => by cases h)
def ti48 : TI := ⟨.int .u8, .sc, (.v (.int .u8 0)), 1⟩
theorem ti48_ok : ti48.ok Try.prog 48 := ti_ok (zc := [(.int .u8 0)]) (by kernel_rfl) (by kernel_rfl) (fun _ => (.v rfl)) (fun k h => by cases h; rfl)
def ti49 : TI := ⟨.arr 32 5, (.ba 32), (.ba (List.replicate 32 0)), 32⟩
theorem ti49_ok : ti49.ok Try.prog 49 := ti_ok (zc := ((List.replicate 32 (0 : UInt8)).map B8)) (by kernel_rfl) (by kernel_rfl) (fun _ => (.ba rfl)) (fun k h => by cases h)
def ti50 : TI := ⟨.arr 32 5, (.ba 32), (.ba (List.replicate 32 0)), 32⟩
theorem ti50_ok : ti50.ok Try.prog 50 := ti_ok (zc := ((List.replicate 32 (0 : UInt8)).map B8)) (by kernel_rfl) (by kernel_rfl) (fun _ => (.ba rfl)) (fun k h => by cases h)
def ti51 : TI := ⟨.arr 32 5, (.ba 32), (.ba (List.replicate 32 0)), 32⟩
theorem ti51_ok : ti51.ok Try.prog 51 := ti_ok (zc := ((List.replicate 32 (0 : UInt8)).map B8)) (by kernel_rfl) (by kernel_rfl) (fun _ => (.ba rfl)) (fun k h => by cases h)
def ti52 : TI := ⟨.rcd [(0, 48), (1, 50), (33, 51), (65, 51), (97, 51)], (.cn .sc (.cn (.ba 32) (.cn (.ba 32) (.cn (.ba 32) (.cn (.ba 32) (.nl)))))), (.st [(.v (.int .u8 0)), (.ba (List.replicate 32 0)), (.ba (List.replicate 32 0)), (.ba (List.replicate 32 0)), (.ba (List.replicate 32 0))]), 129⟩
theorem ti52_ok : ti52.ok Try.prog 52 := ti_ok (zc := (([(.int .u8 0)]) ++ ((((List.replicate 32 (0 : UInt8)).map B8)) ++ ((((List.replicate 32 (0 : UInt8)).map B8)) ++ ((((List.replicate 32 (0 : UInt8)).map B8)) ++ ((((List.replicate 32 (0 : UInt8)).map B8)) ++ ([]))))))) (by kernel_rfl) (by kernel_rfl) (fun _ => (.cn (.v rfl) (.cn (.ba rfl) (.cn (.ba rfl) (.cn (.ba rfl) (.cn (.ba rfl) (.nl))))))) (fun k h => by cases h)
def ti53 : TI := ⟨.rcd [(0, 48), (1, 50), (33, 51), (65, 51), (97, 51)], (.cn .sc (.cn (.ba 32) (.cn (.ba 32) (.cn (.ba 32) (.cn (.ba 32) (.nl)))))), (.st [(.v (.int .u8 0)), (.ba (List.replicate 32 0)), (.ba (List.replicate 32 0)), (.ba (List.replicate 32 0)), (.ba (List.replicate 32 0))]), 129⟩
theorem ti53_ok : ti53.ok Try.prog 53 := ti_ok (zc := (([(.int .u8 0)]) ++ ((((List.replicate 32 (0 : UInt8)).map B8)) ++ ((((List.replicate 32 (0 : UInt8)).map B8)) ++ ((((List.replicate 32 (0 : UInt8)).map B8)) ++ ((((List.replicate 32 (0 : UInt8)).map B8)) ++ ([]))))))) (by kernel_rfl) (by kernel_rfl) (fun _ => (.cn (.v rfl) (.cn (.ba rfl) (.cn (.ba rfl) (.cn (.ba rfl) (.cn (.ba rfl) (.nl))))))) (fun k h => by cases h)
def ti71 : TI := ⟨.slc 22, .sc, (.v (.slice none 0 0)), 24⟩
theorem ti71_ok : ti71.ok Try.prog 71 := ti_ok (zc := [(.slice none 0 0)]) (by kernel_rfl) (by kernel_rfl) (fun _ => (.v rfl)) (fun k h => by cases h)
def ti75 : TI := ⟨.slc 50, .sc, (.v (.slice none 0 0)), 24⟩
theorem ti75_ok : ti75.ok Try.prog 75 := ti_ok (zc := [(.slice none 0 0)]) (by kernel_rfl) (by kernel_rfl) (fun _ => (.v rfl)) (fun k h => by cases h)
def ti76 : TI := ⟨.slc 51, .sc, (.v (.slice none 0 0)), 24⟩
theorem ti76_ok : ti76.ok Try.prog 76 := ti_ok (zc := [(.slice none 0 0)]) (by kernel_rfl) (by kernel_rfl) (fun _ => (.v rfl)) (fun k h => by cases h)
def ti80 : TI := ⟨.slc 128, .sc, (.v (.slice none 0 0)), 24⟩
theorem ti80_ok : ti80.ok Try.prog 80 := ti_ok (zc := [(.slice none 0 0)]) (by kernel_rfl) (by kernel_rfl) (fun _ => (.v rfl)) (fun k h => by cases h)
def ti81 : TI := ⟨.rcd [(0, 80), (1, 71)], (.cn .sc (.cn .sc (.nl))), (.st [(.v (.slice none 0 0)), (.v (.slice none 0 0))]), 48⟩
theorem ti81_ok : ti81.ok Try.prog 81 := ti_ok (zc := (([(.slice none 0 0)]) ++ (([(.slice none 0 0)]) ++ ([])))) (by kernel_rfl) (by kernel_rfl) (fun _ => (.cn (.v rfl) (.cn (.v rfl) (.nl)))) (fun k h => by cases h)
def ti82 : TI := ⟨.rcd [(0, 80), (1, 71)], (.cn .sc (.cn .sc (.nl))), (.st [(.v (.slice none 0 0)), (.v (.slice none 0 0))]), 48⟩
theorem ti82_ok : ti82.ok Try.prog 82 := ti_ok (zc := (([(.slice none 0 0)]) ++ (([(.slice none 0 0)]) ++ ([])))) (by kernel_rfl) (by kernel_rfl) (fun _ => (.cn (.v rfl) (.cn (.v rfl) (.nl)))) (fun k h => by cases h)
def ti92 : TI := ⟨.ptr 95, .sc, (.v (.pointer none)), 8⟩
theorem ti92_ok : ti92.ok Try.prog 92 := ti_ok (zc := [(.pointer none)]) (by kernel_rfl) (by kernel_rfl) (fun _ => (.v rfl)) (fun k h => by cases h)
def ti93 : TI := ⟨.ptr 331, .sc, (.v (.pointer none)), 8⟩
theorem ti93_ok : ti93.ok Try.prog 93 := ti_ok (zc := [(.pointer none)]) (by kernel_rfl) (by kernel_rfl) (fun _ => (.v rfl)) (fun k h => by cases h)
def ti94 : TI := ⟨.rcd [(0, 93)], (.cn .sc (.nl)), (.st [(.v (.pointer none))]), 8⟩
theorem ti94_ok : ti94.ok Try.prog 94 := ti_ok (zc := (([(.pointer none)]) ++ ([]))) (by kernel_rfl) (by kernel_rfl) (fun _ => (.cn (.v rfl) (.nl))) (fun k h => by cases h)
def ti95 : TI := ⟨.rcd [(0, 93)], (.cn .sc (.nl)), (.st [(.v (.pointer none))]), 8⟩
theorem ti95_ok : ti95.ok Try.prog 95 := ti_ok (zc := (([(.pointer none)]) ++ ([]))) (by kernel_rfl) (by kernel_rfl) (fun _ => (.cn (.v rfl) (.nl))) (fun k h => by cases h)
def ti96 : TI := ⟨.slc 92, .sc, (.v (.slice none 0 0)), 24⟩
theorem ti96_ok : ti96.ok Try.prog 96 := ti_ok (zc := [(.slice none 0 0)]) (by kernel_rfl) (by kernel_rfl) (fun _ => (.v rfl)) (fun k h => by cases h)
def ti99 : TI := ⟨.slc 3, .sc, (.v (.slice none 0 0)), 24⟩
theorem ti99_ok : ti99.ok Try.prog 99 := ti_ok (zc := [(.slice none 0 0)]) (by kernel_rfl) (by kernel_rfl) (fun _ => (.v rfl)) (fun k h => by cases h)
def ti102 : TI := ⟨.rcd [(0, 76), (1, 53)], (.cn .sc (.cn (.cn .sc (.cn (.ba 32) (.cn (.ba 32) (.cn (.ba 32) (.cn (.ba 32) (.nl)))))) (.nl))), (.st [(.v (.slice none 0 0)), (.st [(.v (.int .u8 0)), (.ba (List.replicate 32 0)), (.ba (List.replicate 32 0)), (.ba (List.replicate 32 0)), (.ba (List.replicate 32 0))])]), 160⟩
theorem ti102_ok : ti102.ok Try.prog 102 := ti_ok (zc := (([(.slice none 0 0)]) ++ (((([(.int .u8 0)]) ++ ((((List.replicate 32 (0 : UInt8)).map B8)) ++ ((((List.replicate 32 (0 : UInt8)).map B8)) ++ ((((List.replicate 32 (0 : UInt8)).map B8)) ++ ((((List.replicate 32 (0 : UInt8)).map B8)) ++ ([]))))))) ++ ([])))) (by kernel_rfl) (by kernel_rfl) (fun _ => (.cn (.v rfl) (.cn (.cn (.v rfl) (.cn (.ba rfl) (.cn (.ba rfl) (.cn (.ba rfl) (.cn (.ba rfl) (.nl)))))) (.nl)))) (fun k h => by cases h)
def ti103 : TI := ⟨.rcd [(0, 76), (1, 53)], (.cn .sc (.cn (.cn .sc (.cn (.ba 32) (.cn (.ba 32) (.cn (.ba 32) (.cn (.ba 32) (.nl)))))) (.nl))), (.st [(.v (.slice none 0 0)), (.st [(.v (.int .u8 0)), (.ba (List.replicate 32 0)), (.ba (List.replicate 32 0)), (.ba (List.replicate 32 0)), (.ba (List.replicate 32 0))])]), 160⟩
theorem ti103_ok : ti103.ok Try.prog 103 := ti_ok (zc := (([(.slice none 0 0)]) ++ (((([(.int .u8 0)]) ++ ((((List.replicate 32 (0 : UInt8)).map B8)) ++ ((((List.replicate 32 (0 : UInt8)).map B8)) ++ ((((List.replicate 32 (0 : UInt8)).map B8)) ++ ((((List.replicate 32 (0 : UInt8)).map B8)) ++ ([]))))))) ++ ([])))) (by kernel_rfl) (by kernel_rfl) (fun _ => (.cn (.v rfl) (.cn (.cn (.v rfl) (.cn (.ba rfl) (.cn (.ba rfl) (.cn (.ba rfl) (.cn (.ba rfl) (.nl)))))) (.nl)))) (fun k h => by cases h)
def ti121 : TI := ⟨.rcd [(0, 80)], (.cn .sc (.nl)), (.st [(.v (.slice none 0 0))]), 24⟩
theorem ti121_ok : ti121.ok Try.prog 121 := ti_ok (zc := (([(.slice none 0 0)]) ++ ([]))) (by kernel_rfl) (by kernel_rfl) (fun _ => (.cn (.v rfl) (.nl))) (fun k h => by cases h)
def ti122 : TI := ⟨.rcd [(0, 80)], (.cn .sc (.nl)), (.st [(.v (.slice none 0 0))]), 24⟩
theorem ti122_ok : ti122.ok Try.prog 122 := ti_ok (zc := (([(.slice none 0 0)]) ++ ([]))) (by kernel_rfl) (by kernel_rfl) (fun _ => (.cn (.v rfl) (.nl))) (fun k h => by cases h)
def ti124 : TI := ⟨.slc 130, .sc, (.v (.slice none 0 0)), 24⟩
theorem ti124_ok : ti124.ok Try.prog 124 := ti_ok (zc := [(.slice none 0 0)]) (by kernel_rfl) (by kernel_rfl) (fun _ => (.v rfl)) (fun k h => by cases h)
def ti127 : TI := ⟨.rcd [(0, 48), (1, 50), (33, 51), (65, 51)], (.cn .sc (.cn (.ba 32) (.cn (.ba 32) (.cn (.ba 32) (.nl))))), (.st [(.v (.int .u8 0)), (.ba (List.replicate 32 0)), (.ba (List.replicate 32 0)), (.ba (List.replicate 32 0))]), 97⟩
theorem ti127_ok : ti127.ok Try.prog 127 := ti_ok (zc := (([(.int .u8 0)]) ++ ((((List.replicate 32 (0 : UInt8)).map B8)) ++ ((((List.replicate 32 (0 : UInt8)).map B8)) ++ ((((List.replicate 32 (0 : UInt8)).map B8)) ++ ([])))))) (by kernel_rfl) (by kernel_rfl) (fun _ => (.cn (.v rfl) (.cn (.ba rfl) (.cn (.ba rfl) (.cn (.ba rfl) (.nl)))))) (fun k h => by cases h)
def ti128 : TI := ⟨.rcd [(0, 48), (1, 50), (33, 51), (65, 51)], (.cn .sc (.cn (.ba 32) (.cn (.ba 32) (.cn (.ba 32) (.nl))))), (.st [(.v (.int .u8 0)), (.ba (List.replicate 32 0)), (.ba (List.replicate 32 0)), (.ba (List.replicate 32 0))]), 97⟩
theorem ti128_ok : ti128.ok Try.prog 128 := ti_ok (zc := (([(.int .u8 0)]) ++ ((((List.replicate 32 (0 : UInt8)).map B8)) ++ ((((List.replicate 32 (0 : UInt8)).map B8)) ++ ((((List.replicate 32 (0 : UInt8)).map B8)) ++ ([])))))) (by kernel_rfl) (by kernel_rfl) (fun _ => (.cn (.v rfl) (.cn (.ba rfl) (.cn (.ba rfl) (.cn (.ba rfl) (.nl)))))) (fun k h => by cases h)
def ti129 : TI := ⟨.rcd [(0, 128), (97, 51), (129, 3), (130, 50), (162, 3)], (.cn (.cn .sc (.cn (.ba 32) (.cn (.ba 32) (.cn (.ba 32) (.nl))))) (.cn (.ba 32) (.cn .sc (.cn (.ba 32) (.cn .sc (.nl)))))), (.st [(.st [(.v (.int .u8 0)), (.ba (List.replicate 32 0)), (.ba (List.replicate 32 0)), (.ba (List.replicate 32 0))]), (.ba (List.replicate 32 0)), (.v (.int .i64 0)), (.ba (List.replicate 32 0)), (.v (.int .i64 0))]), 184⟩
theorem ti129_ok : ti129.ok Try.prog 129 := ti_ok (zc := (((([(.int .u8 0)]) ++ ((((List.replicate 32 (0 : UInt8)).map B8)) ++ ((((List.replicate 32 (0 : UInt8)).map B8)) ++ ((((List.replicate 32 (0 : UInt8)).map B8)) ++ ([])))))) ++ ((((List.replicate 32 (0 : UInt8)).map B8)) ++ (([(.int .i64 0)]) ++ ((((List.replicate 32 (0 : UInt8)).map B8)) ++ (([(.int .i64 0)]) ++ ([]))))))) (by kernel_rfl) (by kernel_rfl) (fun _ => (.cn (.cn (.v rfl) (.cn (.ba rfl) (.cn (.ba rfl) (.cn (.ba rfl) (.nl))))) (.cn (.ba rfl) (.cn (.v rfl) (.cn (.ba rfl) (.cn (.v rfl) (.nl))))))) (fun k h => by cases h)
def ti130 : TI := ⟨.rcd [(0, 128), (97, 51), (129, 3), (130, 50), (162, 3)], (.cn (.cn .sc (.cn (.ba 32) (.cn (.ba 32) (.cn (.ba 32) (.nl))))) (.cn (.ba 32) (.cn .sc (.cn (.ba 32) (.cn .sc (.nl)))))), (.st [(.st [(.v (.int .u8 0)), (.ba (List.replicate 32 0)), (.ba (List.replicate 32 0)), (.ba (List.replicate 32 0))]), (.ba (List.replicate 32 0)), (.v (.int .i64 0)), (.ba (List.replicate 32 0)), (.v (.int .i64 0))]), 184⟩
theorem ti130_ok : ti130.ok Try.prog 130 := ti_ok (zc := (((([(.int .u8 0)]) ++ ((((List.replicate 32 (0 : UInt8)).map B8)) ++ ((((List.replicate 32 (0 : UInt8)).map B8)) ++ ((((List.replicate 32 (0 : UInt8)).map B8)) ++ ([])))))) ++ ((((List.replicate 32 (0 : UInt8)).map B8)) ++ (([(.int .i64 0)]) ++ ((((List.replicate 32 (0 : UInt8)).map B8)) ++ (([(.int .i64 0)]) ++ ([]))))))) (by kernel_rfl) (by kernel_rfl) (fun _ => (.cn (.cn (.v rfl) (.cn (.ba rfl) (.cn (.ba rfl) (.cn (.ba rfl) (.nl))))) (.cn (.ba rfl) (.cn (.v rfl) (.cn (.ba rfl) (.cn (.v rfl) (.nl))))))) (fun k h => by cases h)
def ti132 : TI := ⟨.slc 141, .sc, (.v (.slice none 0 0)), 24⟩
theorem ti132_ok : ti132.ok Try.prog 132 := ti_ok (zc := [(.slice none 0 0)]) (by kernel_rfl) (by kernel_rfl) (fun _ => (.v rfl)) (fun k h => by cases h)
def ti140 : TI := ⟨.rcd [(0, 4), (1, 51)], (.cn .sc (.cn (.ba 32) (.nl))), (.st [(.v (.bool false)), (.ba (List.replicate 32 0))]), 33⟩
theorem ti140_ok : ti140.ok Try.prog 140 := ti_ok (zc := (([(.bool false)]) ++ ((((List.replicate 32 (0 : UInt8)).map B8)) ++ ([])))) (by kernel_rfl) (by kernel_rfl) (fun _ => (.cn (.v rfl) (.cn (.ba rfl) (.nl)))) (fun k h => by cases h)
def ti141 : TI := ⟨.rcd [(0, 4), (1, 51)], (.cn .sc (.cn (.ba 32) (.nl))), (.st [(.v (.bool false)), (.ba (List.replicate 32 0))]), 33⟩
theorem ti141_ok : ti141.ok Try.prog 141 := ti_ok (zc := (([(.bool false)]) ++ ((((List.replicate 32 (0 : UInt8)).map B8)) ++ ([])))) (by kernel_rfl) (by kernel_rfl) (fun _ => (.cn (.v rfl) (.cn (.ba rfl) (.nl)))) (fun k h => by cases h)
def ti151 : TI := ⟨.slc 244, .sc, (.v (.slice none 0 0)), 24⟩
theorem ti151_ok : ti151.ok Try.prog 151 := ti_ok (zc := [(.slice none 0 0)]) (by kernel_rfl) (by kernel_rfl) (fun _ => (.v rfl)) (fun k h => by cases h)
def ti158 : TI := ⟨.slc 151, .sc, (.v (.slice none 0 0)), 24⟩
theorem ti158_ok : ti158.ok Try.prog 158 := ti_ok (zc := [(.slice none 0 0)]) (by kernel_rfl) (by kernel_rfl) (fun _ => (.v rfl)) (fun k h => by cases h)
def ti165 : TI := ⟨.rcd [(0, 22), (1, 22)], (.cn .sc (.cn .sc (.nl))), (.st [(.v (.slice none 0 0)), (.v (.slice none 0 0))]), 48⟩
theorem ti165_ok : ti165.ok Try.prog 165 := ti_ok (zc := (([(.slice none 0 0)]) ++ (([(.slice none 0 0)]) ++ ([])))) (by kernel_rfl) (by kernel_rfl) (fun _ => (.cn (.v rfl) (.cn (.v rfl) (.nl)))) (fun k h => by cases h)
def ti166 : TI := ⟨.rcd [(0, 22), (1, 22)], (.cn .sc (.cn .sc (.nl))), (.st [(.v (.slice none 0 0)), (.v (.slice none 0 0))]), 48⟩
theorem ti166_ok : ti166.ok Try.prog 166 := ti_ok (zc := (([(.slice none 0 0)]) ++ (([(.slice none 0 0)]) ++ ([])))) (by kernel_rfl) (by kernel_rfl) (fun _ => (.cn (.v rfl) (.cn (.v rfl) (.nl)))) (fun k h => by cases h)
def ti177 : TI := ⟨.rcd [(0, 22), (1, 4), (2, 22)], (.cn .sc (.cn .sc (.cn .sc (.nl)))), (.st [(.v (.slice none 0 0)), (.v (.bool false)), (.v (.slice none 0 0))]), 56⟩
theorem ti177_ok : ti177.ok Try.prog 177 := ti_ok (zc := (([(.slice none 0 0)]) ++ (([(.bool false)]) ++ (([(.slice none 0 0)]) ++ ([]))))) (by kernel_rfl) (by kernel_rfl) (fun _ => (.cn (.v rfl) (.cn (.v rfl) (.cn (.v rfl) (.nl))))) (fun k h => by cases h)
def ti178 : TI := ⟨.rcd [(0, 22), (1, 4), (2, 22)], (.cn .sc (.cn .sc (.cn .sc (.nl)))), (.st [(.v (.slice none 0 0)), (.v (.bool false)), (.v (.slice none 0 0))]), 56⟩
theorem ti178_ok : ti178.ok Try.prog 178 := ti_ok (zc := (([(.slice none 0 0)]) ++ (([(.bool false)]) ++ (([(.slice none 0 0)]) ++ ([]))))) (by kernel_rfl) (by kernel_rfl) (fun _ => (.cn (.v rfl) (.cn (.v rfl) (.cn (.v rfl) (.nl))))) (fun k h => by cases h)
def ti179 : TI := ⟨.rcd [(0, 22), (1, 3), (2, 4)], (.cn .sc (.cn .sc (.cn .sc (.nl)))), (.st [(.v (.slice none 0 0)), (.v (.int .i64 0)), (.v (.bool false))]), 40⟩
theorem ti179_ok : ti179.ok Try.prog 179 := ti_ok (zc := (([(.slice none 0 0)]) ++ (([(.int .i64 0)]) ++ (([(.bool false)]) ++ ([]))))) (by kernel_rfl) (by kernel_rfl) (fun _ => (.cn (.v rfl) (.cn (.v rfl) (.cn (.v rfl) (.nl))))) (fun k h => by cases h)
def ti180 : TI := ⟨.rcd [(0, 22), (1, 3), (2, 4)], (.cn .sc (.cn .sc (.cn .sc (.nl)))), (.st [(.v (.slice none 0 0)), (.v (.int .i64 0)), (.v (.bool false))]), 40⟩
theorem ti180_ok : ti180.ok Try.prog 180 := ti_ok (zc := (([(.slice none 0 0)]) ++ (([(.int .i64 0)]) ++ (([(.bool false)]) ++ ([]))))) (by kernel_rfl) (by kernel_rfl) (fun _ => (.cn (.v rfl) (.cn (.v rfl) (.cn (.v rfl) (.nl))))) (fun k h => by cases h)
def ti181 : TI := ⟨.rcd [(0, 22), (1, 3)], (.cn .sc (.cn .sc (.nl))), (.st [(.v (.slice none 0 0)), (.v (.int .i64 0))]), 32⟩
theorem ti181_ok : ti181.ok Try.prog 181 := ti_ok (zc := (([(.slice none 0 0)]) ++ (([(.int .i64 0)]) ++ ([])))) (by kernel_rfl) (by kernel_rfl) (fun _ => (.cn (.v rfl) (.cn (.v rfl) (.nl)))) (fun k h => by cases h)
def ti182 : TI := ⟨.rcd [(0, 22), (1, 3)], (.cn .sc (.cn .sc (.nl))), (.st [(.v (.slice none 0 0)), (.v (.int .i64 0))]), 32⟩
theorem ti182_ok : ti182.ok Try.prog 182 := ti_ok (zc := (([(.slice none 0 0)]) ++ (([(.int .i64 0)]) ++ ([])))) (by kernel_rfl) (by kernel_rfl) (fun _ => (.cn (.v rfl) (.cn (.v rfl) (.nl)))) (fun k h => by cases h)
def ti191 : TI := ⟨.slc 9, .sc, (.v (.slice none 0 0)), 24⟩
theorem ti191_ok : ti191.ok Try.prog 191 := ti_ok (zc := [(.slice none 0 0)]) (by kernel_rfl) (by kernel_rfl) (fun _ => (.v rfl)) (fun k h => by cases h)
def ti192 : TI := ⟨.ptr 261, .sc, (.v (.pointer none)), 8⟩
theorem ti192_ok : ti192.ok Try.prog 192 := ti_ok (zc := [(.pointer none)]) (by kernel_rfl) (by kernel_rfl) (fun _ => (.v rfl)) (fun k h => by cases h)
def ti197 : TI := ⟨.slc 200, .sc, (.v (.slice none 0 0)), 24⟩
theorem ti197_ok : ti197.ok Try.prog 197 := ti_ok (zc := [(.slice none 0 0)]) (by kernel_rfl) (by kernel_rfl) (fun _ => (.v rfl)) (fun k h => by cases h)
def ti199 : TI := ⟨.rcd [(0, 50), (32, 51)], (.cn (.ba 32) (.cn (.ba 32) (.nl))), (.st [(.ba (List.replicate 32 0)), (.ba (List.replicate 32 0))]), 64⟩
theorem ti199_ok : ti199.ok Try.prog 199 := ti_ok (zc := ((((List.replicate 32 (0 : UInt8)).map B8)) ++ ((((List.replicate 32 (0 : UInt8)).map B8)) ++ ([])))) (by kernel_rfl) (by kernel_rfl) (fun _ => (.cn (.ba rfl) (.cn (.ba rfl) (.nl)))) (fun k h => by cases h)
def ti200 : TI := ⟨.rcd [(0, 50), (32, 51)], (.cn (.ba 32) (.cn (.ba 32) (.nl))), (.st [(.ba (List.replicate 32 0)), (.ba (List.replicate 32 0))]), 64⟩
theorem ti200_ok : ti200.ok Try.prog 200 := ti_ok (zc := ((((List.replicate 32 (0 : UInt8)).map B8)) ++ ((((List.replicate 32 (0 : UInt8)).map B8)) ++ ([])))) (by kernel_rfl) (by kernel_rfl) (fun _ => (.cn (.ba rfl) (.cn (.ba rfl) (.nl)))) (fun k h => by cases h)
def ti205 : TI := ⟨.ptr 273, .sc, (.v (.pointer none)), 8⟩
theorem ti205_ok : ti205.ok Try.prog 205 := ti_ok (zc := [(.pointer none)]) (by kernel_rfl) (by kernel_rfl) (fun _ => (.v rfl)) (fun k h => by cases h)
def ti227 : TI := ⟨.rcd [(0, 75), (1, 4), (2, 50), (34, 50)], (.cn .sc (.cn .sc (.cn (.ba 32) (.cn (.ba 32) (.nl))))), (.st [(.v (.slice none 0 0)), (.v (.bool false)), (.ba (List.replicate 32 0)), (.ba (List.replicate 32 0))]), 96⟩
theorem ti227_ok : ti227.ok Try.prog 227 := ti_ok (zc := (([(.slice none 0 0)]) ++ (([(.bool false)]) ++ ((((List.replicate 32 (0 : UInt8)).map B8)) ++ ((((List.replicate 32 (0 : UInt8)).map B8)) ++ ([])))))) (by kernel_rfl) (by kernel_rfl) (fun _ => (.cn (.v rfl) (.cn (.v rfl) (.cn (.ba rfl) (.cn (.ba rfl) (.nl)))))) (fun k h => by cases h)
def ti228 : TI := ⟨.rcd [(0, 75), (1, 4), (2, 50), (34, 50)], (.cn .sc (.cn .sc (.cn (.ba 32) (.cn (.ba 32) (.nl))))), (.st [(.v (.slice none 0 0)), (.v (.bool false)), (.ba (List.replicate 32 0)), (.ba (List.replicate 32 0))]), 96⟩
theorem ti228_ok : ti228.ok Try.prog 228 := ti_ok (zc := (([(.slice none 0 0)]) ++ (([(.bool false)]) ++ ((((List.replicate 32 (0 : UInt8)).map B8)) ++ ((((List.replicate 32 (0 : UInt8)).map B8)) ++ ([])))))) (by kernel_rfl) (by kernel_rfl) (fun _ => (.cn (.v rfl) (.cn (.v rfl) (.cn (.ba rfl) (.cn (.ba rfl) (.nl)))))) (fun k h => by cases h)
def ti229 : TI := ⟨.slc 103, .sc, (.v (.slice none 0 0)), 24⟩
theorem ti229_ok : ti229.ok Try.prog 229 := ti_ok (zc := [(.slice none 0 0)]) (by kernel_rfl) (by kernel_rfl) (fun _ => (.v rfl)) (fun k h => by cases h)
def ti235 : TI := ⟨.ptr 242, .sc, (.v (.pointer none)), 8⟩
theorem ti235_ok : ti235.ok Try.prog 235 := ti_ok (zc := [(.pointer none)]) (by kernel_rfl) (by kernel_rfl) (fun _ => (.v rfl)) (fun k h => by cases h)
def ti239 : TI := ⟨.rcd [(0, 50), (32, 50)], (.cn (.ba 32) (.cn (.ba 32) (.nl))), (.st [(.ba (List.replicate 32 0)), (.ba (List.replicate 32 0))]), 64⟩
theorem ti239_ok : ti239.ok Try.prog 239 := ti_ok (zc := ((((List.replicate 32 (0 : UInt8)).map B8)) ++ ((((List.replicate 32 (0 : UInt8)).map B8)) ++ ([])))) (by kernel_rfl) (by kernel_rfl) (fun _ => (.cn (.ba rfl) (.cn (.ba rfl) (.nl)))) (fun k h => by cases h)
def ti240 : TI := ⟨.rcd [(0, 50), (32, 50)], (.cn (.ba 32) (.cn (.ba 32) (.nl))), (.st [(.ba (List.replicate 32 0)), (.ba (List.replicate 32 0))]), 64⟩
theorem ti240_ok : ti240.ok Try.prog 240 := ti_ok (zc := ((((List.replicate 32 (0 : UInt8)).map B8)) ++ ((((List.replicate 32 (0 : UInt8)).map B8)) ++ ([])))) (by kernel_rfl) (by kernel_rfl) (fun _ => (.cn (.ba rfl) (.cn (.ba rfl) (.nl)))) (fun k h => by cases h)
def ti241 : TI := ⟨.rcd [(0, 240), (64, 80), (65, 51), (97, 75), (98, 76), (99, 50), (131, 103)], (.cn (.cn (.ba 32) (.cn (.ba 32) (.nl))) (.cn .sc (.cn (.ba 32) (.cn .sc (.cn .sc (.cn (.ba 32) (.cn (.cn .sc (.cn (.cn .sc (.cn (.ba 32) (.cn (.ba 32) (.cn (.ba 32) (.cn (.ba 32) (.nl)))))) (.nl))) (.nl)))))))), (.st [(.st [(.ba (List.replicate 32 0)), (.ba (List.replicate 32 0))]), (.v (.slice none 0 0)), (.ba (List.replicate 32 0)), (.v (.slice none 0 0)), (.v (.slice none 0 0)), (.ba (List.replicate 32 0)), (.st [(.v (.slice none 0 0)), (.st [(.v (.int .u8 0)), (.ba (List.replicate 32 0)), (.ba (List.replicate 32 0)), (.ba (List.replicate 32 0)), (.ba (List.replicate 32 0))])])]), 360⟩
theorem ti241_ok : ti241.ok Try.prog 241 := ti_ok (zc := ((((((List.replicate 32 (0 : UInt8)).map B8)) ++ ((((List.replicate 32 (0 : UInt8)).map B8)) ++ ([])))) ++ (([(.slice none 0 0)]) ++ ((((List.replicate 32 (0 : UInt8)).map B8)) ++ (([(.slice none 0 0)]) ++ (([(.slice none 0 0)]) ++ ((((List.replicate 32 (0 : UInt8)).map B8)) ++ (((([(.slice none 0 0)]) ++ (((([(.int .u8 0)]) ++ ((((List.replicate 32 (0 : UInt8)).map B8)) ++ ((((List.replicate 32 (0 : UInt8)).map B8)) ++ ((((List.replicate 32 (0 : UInt8)).map B8)) ++ ((((List.replicate 32 (0 : UInt8)).map B8)) ++ ([]))))))) ++ ([])))) ++ ([]))))))))) (by kernel_rfl) (by kernel_rfl) (fun _ => (.cn (.cn (.ba rfl) (.cn (.ba rfl) (.nl))) (.cn (.v rfl) (.cn (.ba rfl) (.cn (.v rfl) (.cn (.v rfl) (.cn (.ba rfl) (.cn (.cn (.v rfl) (.cn (.cn (.v rfl) (.cn (.ba rfl) (.cn (.ba rfl) (.cn (.ba rfl) (.cn (.ba rfl) (.nl)))))) (.nl))) (.nl))))))))) (fun k h => by cases h)
def ti242 : TI := ⟨.rcd [(0, 240), (64, 80), (65, 51), (97, 75), (98, 76), (99, 50), (131, 103)], (.cn (.cn (.ba 32) (.cn (.ba 32) (.nl))) (.cn .sc (.cn (.ba 32) (.cn .sc (.cn .sc (.cn (.ba 32) (.cn (.cn .sc (.cn (.cn .sc (.cn (.ba 32) (.cn (.ba 32) (.cn (.ba 32) (.cn (.ba 32) (.nl)))))) (.nl))) (.nl)))))))), (.st [(.st [(.ba (List.replicate 32 0)), (.ba (List.replicate 32 0))]), (.v (.slice none 0 0)), (.ba (List.replicate 32 0)), (.v (.slice none 0 0)), (.v (.slice none 0 0)), (.ba (List.replicate 32 0)), (.st [(.v (.slice none 0 0)), (.st [(.v (.int .u8 0)), (.ba (List.replicate 32 0)), (.ba (List.replicate 32 0)), (.ba (List.replicate 32 0)), (.ba (List.replicate 32 0))])])]), 360⟩
theorem ti242_ok : ti242.ok Try.prog 242 := ti_ok (zc := ((((((List.replicate 32 (0 : UInt8)).map B8)) ++ ((((List.replicate 32 (0 : UInt8)).map B8)) ++ ([])))) ++ (([(.slice none 0 0)]) ++ ((((List.replicate 32 (0 : UInt8)).map B8)) ++ (([(.slice none 0 0)]) ++ (([(.slice none 0 0)]) ++ ((((List.replicate 32 (0 : UInt8)).map B8)) ++ (((([(.slice none 0 0)]) ++ (((([(.int .u8 0)]) ++ ((((List.replicate 32 (0 : UInt8)).map B8)) ++ ((((List.replicate 32 (0 : UInt8)).map B8)) ++ ((((List.replicate 32 (0 : UInt8)).map B8)) ++ ((((List.replicate 32 (0 : UInt8)).map B8)) ++ ([]))))))) ++ ([])))) ++ ([]))))))))) (by kernel_rfl) (by kernel_rfl) (fun _ => (.cn (.cn (.ba rfl) (.cn (.ba rfl) (.nl))) (.cn (.v rfl) (.cn (.ba rfl) (.cn (.v rfl) (.cn (.v rfl) (.cn (.ba rfl) (.cn (.cn (.v rfl) (.cn (.cn (.v rfl) (.cn (.ba rfl) (.cn (.ba rfl) (.cn (.ba rfl) (.cn (.ba rfl) (.nl)))))) (.nl))) (.nl))))))))) (fun k h => by cases h)
def ti243 : TI := ⟨.rcd [(0, 50), (32, 22)], (.cn (.ba 32) (.cn .sc (.nl))), (.st [(.ba (List.replicate 32 0)), (.v (.slice none 0 0))]), 56⟩
theorem ti243_ok : ti243.ok Try.prog 243 := ti_ok (zc := ((((List.replicate 32 (0 : UInt8)).map B8)) ++ (([(.slice none 0 0)]) ++ ([])))) (by kernel_rfl) (by kernel_rfl) (fun _ => (.cn (.ba rfl) (.cn (.v rfl) (.nl)))) (fun k h => by cases h)
def ti244 : TI := ⟨.rcd [(0, 50), (32, 22)], (.cn (.ba 32) (.cn .sc (.nl))), (.st [(.ba (List.replicate 32 0)), (.v (.slice none 0 0))]), 56⟩
theorem ti244_ok : ti244.ok Try.prog 244 := ti_ok (zc := ((((List.replicate 32 (0 : UInt8)).map B8)) ++ (([(.slice none 0 0)]) ++ ([])))) (by kernel_rfl) (by kernel_rfl) (fun _ => (.cn (.ba rfl) (.cn (.v rfl) (.nl)))) (fun k h => by cases h)
def ti252 : TI := ⟨.int .u64, .sc, (.v (.int .u64 0)), 8⟩
theorem ti252_ok : ti252.ok Try.prog 252 := ti_ok (zc := [(.int .u64 0)]) (by kernel_rfl) (by kernel_rfl) (fun _ => (.v rfl)) (fun k h => by cases h; rfl)
def ti253 : TI := ⟨.int .u32, .sc, (.v (.int .u32 0)), 4⟩
theorem ti253_ok : ti253.ok Try.prog 253 := ti_ok (zc := [(.int .u32 0)]) (by kernel_rfl) (by kernel_rfl) (fun _ => (.v rfl)) (fun k h => by cases h; rfl)
def ti254 : TI := ⟨.arr 8 253, (.cn .sc (.cn .sc (.cn .sc (.cn .sc (.cn .sc (.cn .sc (.cn .sc (.cn .sc (.nl))))))))), (.st [(.v (.int .u32 0)), (.v (.int .u32 0)), (.v (.int .u32 0)), (.v (.int .u32 0)), (.v (.int .u32 0)), (.v (.int .u32 0)), (.v (.int .u32 0)), (.v (.int .u32 0))]), 32⟩
theorem ti254_ok : ti254.ok Try.prog 254 := ti_ok (zc := (([(.int .u32 0)]) ++ (([(.int .u32 0)]) ++ (([(.int .u32 0)]) ++ (([(.int .u32 0)]) ++ (([(.int .u32 0)]) ++ (([(.int .u32 0)]) ++ (([(.int .u32 0)]) ++ (([(.int .u32 0)]) ++ ([])))))))))) (by kernel_rfl) (by kernel_rfl) (fun _ => (.cn (.v rfl) (.cn (.v rfl) (.cn (.v rfl) (.cn (.v rfl) (.cn (.v rfl) (.cn (.v rfl) (.cn (.v rfl) (.cn (.v rfl) (.nl)))))))))) (fun k h => by cases h)
def ti259 : TI := ⟨.arr 64 5, (.ba 64), (.ba (List.replicate 64 0)), 64⟩
theorem ti259_ok : ti259.ok Try.prog 259 := ti_ok (zc := ((List.replicate 64 (0 : UInt8)).map B8)) (by kernel_rfl) (by kernel_rfl) (fun _ => (.ba rfl)) (fun k h => by cases h)
def ti260 : TI := ⟨.rcd [(0, 4), (1, 254), (9, 259), (73, 3), (74, 3)], (.cn .sc (.cn (.cn .sc (.cn .sc (.cn .sc (.cn .sc (.cn .sc (.cn .sc (.cn .sc (.cn .sc (.nl))))))))) (.cn (.ba 64) (.cn .sc (.cn .sc (.nl)))))), (.st [(.v (.bool false)), (.st [(.v (.int .u32 0)), (.v (.int .u32 0)), (.v (.int .u32 0)), (.v (.int .u32 0)), (.v (.int .u32 0)), (.v (.int .u32 0)), (.v (.int .u32 0)), (.v (.int .u32 0))]), (.ba (List.replicate 64 0)), (.v (.int .i64 0)), (.v (.int .i64 0))]), 120⟩
theorem ti260_ok : ti260.ok Try.prog 260 := ti_ok (zc := (([(.bool false)]) ++ (((([(.int .u32 0)]) ++ (([(.int .u32 0)]) ++ (([(.int .u32 0)]) ++ (([(.int .u32 0)]) ++ (([(.int .u32 0)]) ++ (([(.int .u32 0)]) ++ (([(.int .u32 0)]) ++ (([(.int .u32 0)]) ++ ([])))))))))) ++ ((((List.replicate 64 (0 : UInt8)).map B8)) ++ (([(.int .i64 0)]) ++ (([(.int .i64 0)]) ++ ([]))))))) (by kernel_rfl) (by kernel_rfl) (fun _ => (.cn (.v rfl) (.cn (.cn (.v rfl) (.cn (.v rfl) (.cn (.v rfl) (.cn (.v rfl) (.cn (.v rfl) (.cn (.v rfl) (.cn (.v rfl) (.cn (.v rfl) (.nl))))))))) (.cn (.ba rfl) (.cn (.v rfl) (.cn (.v rfl) (.nl))))))) (fun k h => by cases h)
def ti261 : TI := ⟨.rcd [(0, 4), (1, 254), (9, 259), (73, 3), (74, 3)], (.cn .sc (.cn (.cn .sc (.cn .sc (.cn .sc (.cn .sc (.cn .sc (.cn .sc (.cn .sc (.cn .sc (.nl))))))))) (.cn (.ba 64) (.cn .sc (.cn .sc (.nl)))))), (.st [(.v (.bool false)), (.st [(.v (.int .u32 0)), (.v (.int .u32 0)), (.v (.int .u32 0)), (.v (.int .u32 0)), (.v (.int .u32 0)), (.v (.int .u32 0)), (.v (.int .u32 0)), (.v (.int .u32 0))]), (.ba (List.replicate 64 0)), (.v (.int .i64 0)), (.v (.int .i64 0))]), 120⟩
theorem ti261_ok : ti261.ok Try.prog 261 := ti_ok (zc := (([(.bool false)]) ++ (((([(.int .u32 0)]) ++ (([(.int .u32 0)]) ++ (([(.int .u32 0)]) ++ (([(.int .u32 0)]) ++ (([(.int .u32 0)]) ++ (([(.int .u32 0)]) ++ (([(.int .u32 0)]) ++ (([(.int .u32 0)]) ++ ([])))))))))) ++ ((((List.replicate 64 (0 : UInt8)).map B8)) ++ (([(.int .i64 0)]) ++ (([(.int .i64 0)]) ++ ([]))))))) (by kernel_rfl) (by kernel_rfl) (fun _ => (.cn (.v rfl) (.cn (.cn (.v rfl) (.cn (.v rfl) (.cn (.v rfl) (.cn (.v rfl) (.cn (.v rfl) (.cn (.v rfl) (.cn (.v rfl) (.cn (.v rfl) (.nl))))))))) (.cn (.ba rfl) (.cn (.v rfl) (.cn (.v rfl) (.nl))))))) (fun k h => by cases h)
def ti264 : TI := ⟨.int .u64, .sc, (.v (.int .u64 0)), 8⟩
theorem ti264_ok : ti264.ok Try.prog 264 := ti_ok (zc := [(.int .u64 0)]) (by kernel_rfl) (by kernel_rfl) (fun _ => (.v rfl)) (fun k h => by cases h; rfl)
def ti272 : TI := ⟨.rcd [(0, 4), (1, 4), (2, 22)], (.cn .sc (.cn .sc (.cn .sc (.nl)))), (.st [(.v (.bool false)), (.v (.bool false)), (.v (.slice none 0 0))]), 32⟩
theorem ti272_ok : ti272.ok Try.prog 272 := ti_ok (zc := (([(.bool false)]) ++ (([(.bool false)]) ++ (([(.slice none 0 0)]) ++ ([]))))) (by kernel_rfl) (by kernel_rfl) (fun _ => (.cn (.v rfl) (.cn (.v rfl) (.cn (.v rfl) (.nl))))) (fun k h => by cases h)
def ti273 : TI := ⟨.rcd [(0, 4), (1, 4), (2, 22)], (.cn .sc (.cn .sc (.cn .sc (.nl)))), (.st [(.v (.bool false)), (.v (.bool false)), (.v (.slice none 0 0))]), 32⟩
theorem ti273_ok : ti273.ok Try.prog 273 := ti_ok (zc := (([(.bool false)]) ++ (([(.bool false)]) ++ (([(.slice none 0 0)]) ++ ([]))))) (by kernel_rfl) (by kernel_rfl) (fun _ => (.cn (.v rfl) (.cn (.v rfl) (.cn (.v rfl) (.nl))))) (fun k h => by cases h)
def ti275 : TI := ⟨.slc 48, .sc, (.v (.slice none 0 0)), 24⟩
theorem ti275_ok : ti275.ok Try.prog 275 := ti_ok (zc := [(.slice none 0 0)]) (by kernel_rfl) (by kernel_rfl) (fun _ => (.v rfl)) (fun k h => by cases h)
def ti281 : TI := ⟨.rcd [(0, 51)], (.cn (.ba 32) (.nl)), (.st [(.ba (List.replicate 32 0))]), 32⟩
theorem ti281_ok : ti281.ok Try.prog 281 := ti_ok (zc := ((((List.replicate 32 (0 : UInt8)).map B8)) ++ ([]))) (by kernel_rfl) (by kernel_rfl) (fun _ => (.cn (.ba rfl) (.nl))) (fun k h => by cases h)
def ti282 : TI := ⟨.rcd [(0, 51)], (.cn (.ba 32) (.nl)), (.st [(.ba (List.replicate 32 0))]), 32⟩
theorem ti282_ok : ti282.ok Try.prog 282 := ti_ok (zc := ((((List.replicate 32 (0 : UInt8)).map B8)) ++ ([]))) (by kernel_rfl) (by kernel_rfl) (fun _ => (.cn (.ba rfl) (.nl))) (fun k h => by cases h)
def ti283 : TI := ⟨.rcd [(0, 282), (32, 48), (33, 3), (34, 50), (66, 22), (67, 51), (99, 3), (100, 3), (101, 3), (102, 3)], (.cn (.cn (.ba 32) (.nl)) (.cn .sc (.cn .sc (.cn (.ba 32) (.cn .sc (.cn (.ba 32) (.cn .sc (.cn .sc (.cn .sc (.cn .sc (.nl))))))))))), (.st [(.st [(.ba (List.replicate 32 0))]), (.v (.int .u8 0)), (.v (.int .i64 0)), (.ba (List.replicate 32 0)), (.v (.slice none 0 0)), (.ba (List.replicate 32 0)), (.v (.int .i64 0)), (.v (.int .i64 0)), (.v (.int .i64 0)), (.v (.int .i64 0))]), 168⟩
theorem ti283_ok : ti283.ok Try.prog 283 := ti_ok (zc := ((((((List.replicate 32 (0 : UInt8)).map B8)) ++ ([]))) ++ (([(.int .u8 0)]) ++ (([(.int .i64 0)]) ++ ((((List.replicate 32 (0 : UInt8)).map B8)) ++ (([(.slice none 0 0)]) ++ ((((List.replicate 32 (0 : UInt8)).map B8)) ++ (([(.int .i64 0)]) ++ (([(.int .i64 0)]) ++ (([(.int .i64 0)]) ++ (([(.int .i64 0)]) ++ ([])))))))))))) (by kernel_rfl) (by kernel_rfl) (fun _ => (.cn (.cn (.ba rfl) (.nl)) (.cn (.v rfl) (.cn (.v rfl) (.cn (.ba rfl) (.cn (.v rfl) (.cn (.ba rfl) (.cn (.v rfl) (.cn (.v rfl) (.cn (.v rfl) (.cn (.v rfl) (.nl)))))))))))) (fun k h => by cases h)
def ti284 : TI := ⟨.rcd [(0, 282), (32, 48), (33, 3), (34, 50), (66, 22), (67, 51), (99, 3), (100, 3), (101, 3), (102, 3)], (.cn (.cn (.ba 32) (.nl)) (.cn .sc (.cn .sc (.cn (.ba 32) (.cn .sc (.cn (.ba 32) (.cn .sc (.cn .sc (.cn .sc (.cn .sc (.nl))))))))))), (.st [(.st [(.ba (List.replicate 32 0))]), (.v (.int .u8 0)), (.v (.int .i64 0)), (.ba (List.replicate 32 0)), (.v (.slice none 0 0)), (.ba (List.replicate 32 0)), (.v (.int .i64 0)), (.v (.int .i64 0)), (.v (.int .i64 0)), (.v (.int .i64 0))]), 168⟩
theorem ti284_ok : ti284.ok Try.prog 284 := ti_ok (zc := ((((((List.replicate 32 (0 : UInt8)).map B8)) ++ ([]))) ++ (([(.int .u8 0)]) ++ (([(.int .i64 0)]) ++ ((((List.replicate 32 (0 : UInt8)).map B8)) ++ (([(.slice none 0 0)]) ++ ((((List.replicate 32 (0 : UInt8)).map B8)) ++ (([(.int .i64 0)]) ++ (([(.int .i64 0)]) ++ (([(.int .i64 0)]) ++ (([(.int .i64 0)]) ++ ([])))))))))))) (by kernel_rfl) (by kernel_rfl) (fun _ => (.cn (.cn (.ba rfl) (.nl)) (.cn (.v rfl) (.cn (.v rfl) (.cn (.ba rfl) (.cn (.v rfl) (.cn (.ba rfl) (.cn (.v rfl) (.cn (.v rfl) (.cn (.v rfl) (.cn (.v rfl) (.nl)))))))))))) (fun k h => by cases h)
def ti293 : TI := ⟨.ptr 295, .sc, (.v (.pointer none)), 8⟩
theorem ti293_ok : ti293.ok Try.prog 293 := ti_ok (zc := [(.pointer none)]) (by kernel_rfl) (by kernel_rfl) (fun _ => (.v rfl)) (fun k h => by cases h)
def ti294 : TI := ⟨.rcd [(0, 80), (1, 51), (33, 229)], (.cn .sc (.cn (.ba 32) (.cn .sc (.nl)))), (.st [(.v (.slice none 0 0)), (.ba (List.replicate 32 0)), (.v (.slice none 0 0))]), 80⟩
theorem ti294_ok : ti294.ok Try.prog 294 := ti_ok (zc := (([(.slice none 0 0)]) ++ ((((List.replicate 32 (0 : UInt8)).map B8)) ++ (([(.slice none 0 0)]) ++ ([]))))) (by kernel_rfl) (by kernel_rfl) (fun _ => (.cn (.v rfl) (.cn (.ba rfl) (.cn (.v rfl) (.nl))))) (fun k h => by cases h)
def ti295 : TI := ⟨.rcd [(0, 80), (1, 51), (33, 229)], (.cn .sc (.cn (.ba 32) (.cn .sc (.nl)))), (.st [(.v (.slice none 0 0)), (.ba (List.replicate 32 0)), (.v (.slice none 0 0))]), 80⟩
theorem ti295_ok : ti295.ok Try.prog 295 := ti_ok (zc := (([(.slice none 0 0)]) ++ ((((List.replicate 32 (0 : UInt8)).map B8)) ++ (([(.slice none 0 0)]) ++ ([]))))) (by kernel_rfl) (by kernel_rfl) (fun _ => (.cn (.v rfl) (.cn (.ba rfl) (.cn (.v rfl) (.nl))))) (fun k h => by cases h)
def ti304 : TI := ⟨.arr 64 253, (.cn .sc (.cn .sc (.cn .sc (.cn .sc (.cn .sc (.cn .sc (.cn .sc (.cn .sc (.cn .sc (.cn .sc (.cn .sc (.cn .sc (.cn .sc (.cn .sc (.cn .sc (.cn .sc (.cn .sc (.cn .sc (.cn .sc (.cn .sc (.cn .sc (.cn .sc (.cn .sc (.cn .sc (.cn .sc (.cn .sc (.cn .sc (.cn .sc (.cn .sc (.cn .sc (.cn .sc (.cn .sc (.cn .sc (.cn .sc (.cn .sc (.cn .sc (.cn .sc (.cn .sc (.cn .sc (.cn .sc (.cn .sc (.cn .sc (.cn .sc (.cn .sc (.cn .sc (.cn .sc (.cn .sc (.cn .sc (.cn .sc (.cn .sc (.cn .sc (.cn .sc (.cn .sc (.cn .sc (.cn .sc (.cn .sc (.cn .sc (.cn .sc (.cn .sc (.cn .sc (.cn .sc (.cn .sc (.cn .sc (.cn .sc (.nl))))))))))))))))))))))))))))))))))))))))))))))))))))))))))))))))), (.st [(.v (.int .u32 0)), (.v (.int .u32 0)), (.v (.int .u32 0)), (.v (.int .u32 0)), (.v (.int .u32 0)), (.v (.int .u32 0)), (.v (.int .u32 0)), (.v (.int .u32 0)), (.v (.int .u32 0)), (.v (.int .u32 0)), (.v (.int .u32 0)), (.v (.int .u32 0)), (.v (.int .u32 0)), (.v (.int .u32 0)), (.v (.int .u32 0)), (.v (.int .u32 0)), (.v (.int .u32 0)), (.v (.int .u32 0)), (.v (.int .u32 0)), (.v (.int .u32 0)), (.v (.int .u32 0)), (.v (.int .u32 0)), (.v (.int .u32 0)), (.v (.int .u32 0)), (.v (.int .u32 0)), (.v (.int .u32 0)), (.v (.int .u32 0)), (.v (.int .u32 0)), (.v (.int .u32 0)), (.v (.int .u32 0)), (.v (.int .u32 0)), (.v (.int .u32 0)), (.v (.int .u32 0)), (.v (.int .u32 0)), (.v (.int .u32 0)), (.v (.int .u32 0)), (.v (.int .u32 0)), (.v (.int .u32 0)), (.v (.int .u32 0)), (.v (.int .u32 0)), (.v (.int .u32 0)), (.v (.int .u32 0)), (.v (.int .u32 0)), (.v (.int .u32 0)), (.v (.int .u32 0)), (.v (.int .u32 0)), (.v (.int .u32 0)), (.v (.int .u32 0)), (.v (.int .u32 0)), (.v (.int .u32 0)), (.v (.int .u32 0)), (.v (.int .u32 0)), (.v (.int .u32 0)), (.v (.int .u32 0)), (.v (.int .u32 0)), (.v (.int .u32 0)), (.v (.int .u32 0)), (.v (.int .u32 0)), (.v (.int .u32 0)), (.v (.int .u32 0)), (.v (.int .u32 0)), (.v (.int .u32 0)), (.v (.int .u32 0)), (.v (.int .u32 0))]), 256⟩
theorem ti304_ok : ti304.ok Try.prog 304 := ti_ok (zc := (([(.int .u32 0)]) ++ (([(.int .u32 0)]) ++ (([(.int .u32 0)]) ++ (([(.int .u32 0)]) ++ (([(.int .u32 0)]) ++ (([(.int .u32 0)]) ++ (([(.int .u32 0)]) ++ (([(.int .u32 0)]) ++ (([(.int .u32 0)]) ++ (([(.int .u32 0)]) ++ (([(.int .u32 0)]) ++ (([(.int .u32 0)]) ++ (([(.int .u32 0)]) ++ (([(.int .u32 0)]) ++ (([(.int .u32 0)]) ++ (([(.int .u32 0)]) ++ (([(.int .u32 0)]) ++ (([(.int .u32 0)]) ++ (([(.int .u32 0)]) ++ (([(.int .u32 0)]) ++ (([(.int .u32 0)]) ++ (([(.int .u32 0)]) ++ (([(.int .u32 0)]) ++ (([(.int .u32 0)]) ++ (([(.int .u32 0)]) ++ (([(.int .u32 0)]) ++ (([(.int .u32 0)]) ++ (([(.int .u32 0)]) ++ (([(.int .u32 0)]) ++ (([(.int .u32 0)]) ++ (([(.int .u32 0)]) ++ (([(.int .u32 0)]) ++ (([(.int .u32 0)]) ++ (([(.int .u32 0)]) ++ (([(.int .u32 0)]) ++ (([(.int .u32 0)]) ++ (([(.int .u32 0)]) ++ (([(.int .u32 0)]) ++ (([(.int .u32 0)]) ++ (([(.int .u32 0)]) ++ (([(.int .u32 0)]) ++ (([(.int .u32 0)]) ++ (([(.int .u32 0)]) ++ (([(.int .u32 0)]) ++ (([(.int .u32 0)]) ++ (([(.int .u32 0)]) ++ (([(.int .u32 0)]) ++ (([(.int .u32 0)]) ++ (([(.int .u32 0)]) ++ (([(.int .u32 0)]) ++ (([(.int .u32 0)]) ++ (([(.int .u32 0)]) ++ (([(.int .u32 0)]) ++ (([(.int .u32 0)]) ++ (([(.int .u32 0)]) ++ (([(.int .u32 0)]) ++ (([(.int .u32 0)]) ++ (([(.int .u32 0)]) ++ (([(.int .u32 0)]) ++ (([(.int .u32 0)]) ++ (([(.int .u32 0)]) ++ (([(.int .u32 0)]) ++ (([(.int .u32 0)]) ++ (([(.int .u32 0)]) ++ ([])))))))))))))))))))))))))))))))))))))))))))))))))))))))))))))))))) (by kernel_rfl) (by kernel_rfl) (fun _ => (.cn (.v rfl) (.cn (.v rfl) (.cn (.v rfl) (.cn (.v rfl) (.cn (.v rfl) (.cn (.v rfl) (.cn (.v rfl) (.cn (.v rfl) (.cn (.v rfl) (.cn (.v rfl) (.cn (.v rfl) (.cn (.v rfl) (.cn (.v rfl) (.cn (.v rfl) (.cn (.v rfl) (.cn (.v rfl) (.cn (.v rfl) (.cn (.v rfl) (.cn (.v rfl) (.cn (.v rfl) (.cn (.v rfl) (.cn (.v rfl) (.cn (.v rfl) (.cn (.v rfl) (.cn (.v rfl) (.cn (.v rfl) (.cn (.v rfl) (.cn (.v rfl) (.cn (.v rfl) (.cn (.v rfl) (.cn (.v rfl) (.cn (.v rfl) (.cn (.v rfl) (.cn (.v rfl) (.cn (.v rfl) (.cn (.v rfl) (.cn (.v rfl) (.cn (.v rfl) (.cn (.v rfl) (.cn (.v rfl) (.cn (.v rfl) (.cn (.v rfl) (.cn (.v rfl) (.cn (.v rfl) (.cn (.v rfl) (.cn (.v rfl) (.cn (.v rfl) (.cn (.v rfl) (.cn (.v rfl) (.cn (.v rfl) (.cn (.v rfl) (.cn (.v rfl) (.cn (.v rfl) (.cn (.v rfl) (.cn (.v rfl) (.cn (.v rfl) (.cn (.v rfl) (.cn (.v rfl) (.cn (.v rfl) (.cn (.v rfl) (.cn (.v rfl) (.cn (.v rfl) (.cn (.v rfl) (.cn (.v rfl) (.nl)))))))))))))))))))))))))))))))))))))))))))))))))))))))))))))))))) (fun k h => by cases h)
def ti309 : TI := ⟨.slc 3, .sc, (.v (.slice none 0 0)), 24⟩
theorem ti309_ok : ti309.ok Try.prog 309 := ti_ok (zc := [(.slice none 0 0)]) (by kernel_rfl) (by kernel_rfl) (fun _ => (.v rfl)) (fun k h => by cases h)
def ti324 : TI := ⟨.ptr 309, .sc, (.v (.pointer none)), 8⟩
theorem ti324_ok : ti324.ok Try.prog 324 := ti_ok (zc := [(.pointer none)]) (by kernel_rfl) (by kernel_rfl) (fun _ => (.v rfl)) (fun k h => by cases h)
def ti325 : TI := ⟨.ptr 328, .sc, (.v (.pointer none)), 8⟩
theorem ti325_ok : ti325.ok Try.prog 325 := ti_ok (zc := [(.pointer none)]) (by kernel_rfl) (by kernel_rfl) (fun _ => (.v rfl)) (fun k h => by cases h)
def ti327 : TI := ⟨.rcd [(0, 284), (103, 3)], (.cn (.cn (.cn (.ba 32) (.nl)) (.cn .sc (.cn .sc (.cn (.ba 32) (.cn .sc (.cn (.ba 32) (.cn .sc (.cn .sc (.cn .sc (.cn .sc (.nl))))))))))) (.cn .sc (.nl))), (.st [(.st [(.st [(.ba (List.replicate 32 0))]), (.v (.int .u8 0)), (.v (.int .i64 0)), (.ba (List.replicate 32 0)), (.v (.slice none 0 0)), (.ba (List.replicate 32 0)), (.v (.int .i64 0)), (.v (.int .i64 0)), (.v (.int .i64 0)), (.v (.int .i64 0))]), (.v (.int .i64 0))]), 176⟩
theorem ti327_ok : ti327.ok Try.prog 327 := ti_ok (zc := ((((((((List.replicate 32 (0 : UInt8)).map B8)) ++ ([]))) ++ (([(.int .u8 0)]) ++ (([(.int .i64 0)]) ++ ((((List.replicate 32 (0 : UInt8)).map B8)) ++ (([(.slice none 0 0)]) ++ ((((List.replicate 32 (0 : UInt8)).map B8)) ++ (([(.int .i64 0)]) ++ (([(.int .i64 0)]) ++ (([(.int .i64 0)]) ++ (([(.int .i64 0)]) ++ ([])))))))))))) ++ (([(.int .i64 0)]) ++ ([])))) (by kernel_rfl) (by kernel_rfl) (fun _ => (.cn (.cn (.cn (.ba rfl) (.nl)) (.cn (.v rfl) (.cn (.v rfl) (.cn (.ba rfl) (.cn (.v rfl) (.cn (.ba rfl) (.cn (.v rfl) (.cn (.v rfl) (.cn (.v rfl) (.cn (.v rfl) (.nl))))))))))) (.cn (.v rfl) (.nl)))) (fun k h => by cases h)
def ti328 : TI := ⟨.rcd [(0, 284), (103, 3)], (.cn (.cn (.cn (.ba 32) (.nl)) (.cn .sc (.cn .sc (.cn (.ba 32) (.cn .sc (.cn (.ba 32) (.cn .sc (.cn .sc (.cn .sc (.cn .sc (.nl))))))))))) (.cn .sc (.nl))), (.st [(.st [(.st [(.ba (List.replicate 32 0))]), (.v (.int .u8 0)), (.v (.int .i64 0)), (.ba (List.replicate 32 0)), (.v (.slice none 0 0)), (.ba (List.replicate 32 0)), (.v (.int .i64 0)), (.v (.int .i64 0)), (.v (.int .i64 0)), (.v (.int .i64 0))]), (.v (.int .i64 0))]), 176⟩
theorem ti328_ok : ti328.ok Try.prog 328 := ti_ok (zc := ((((((((List.replicate 32 (0 : UInt8)).map B8)) ++ ([]))) ++ (([(.int .u8 0)]) ++ (([(.int .i64 0)]) ++ ((((List.replicate 32 (0 : UInt8)).map B8)) ++ (([(.slice none 0 0)]) ++ ((((List.replicate 32 (0 : UInt8)).map B8)) ++ (([(.int .i64 0)]) ++ (([(.int .i64 0)]) ++ (([(.int .i64 0)]) ++ (([(.int .i64 0)]) ++ ([])))))))))))) ++ (([(.int .i64 0)]) ++ ([])))) (by kernel_rfl) (by kernel_rfl) (fun _ => (.cn (.cn (.cn (.ba rfl) (.nl)) (.cn (.v rfl) (.cn (.v rfl) (.cn (.ba rfl) (.cn (.v rfl) (.cn (.ba rfl) (.cn (.v rfl) (.cn (.v rfl) (.cn (.v rfl) (.cn (.v rfl) (.nl))))))))))) (.cn (.v rfl) (.nl)))) (fun k h => by cases h)
def ti329 : TI := ⟨.slc 328, .sc, (.v (.slice none 0 0)), 24⟩
theorem ti329_ok : ti329.ok Try.prog 329 := ti_ok (zc := [(.slice none 0 0)]) (by kernel_rfl) (by kernel_rfl) (fun _ => (.v rfl)) (fun k h => by cases h)
def ti330 : TI := ⟨.rcd [(0, 329), (1, 99), (2, 3), (3, 3)], (.cn .sc (.cn .sc (.cn .sc (.cn .sc (.nl))))), (.st [(.v (.slice none 0 0)), (.v (.slice none 0 0)), (.v (.int .i64 0)), (.v (.int .i64 0))]), 64⟩
theorem ti330_ok : ti330.ok Try.prog 330 := ti_ok (zc := (([(.slice none 0 0)]) ++ (([(.slice none 0 0)]) ++ (([(.int .i64 0)]) ++ (([(.int .i64 0)]) ++ ([])))))) (by kernel_rfl) (by kernel_rfl) (fun _ => (.cn (.v rfl) (.cn (.v rfl) (.cn (.v rfl) (.cn (.v rfl) (.nl)))))) (fun k h => by cases h)
def ti331 : TI := ⟨.rcd [(0, 329), (1, 99), (2, 3), (3, 3)], (.cn .sc (.cn .sc (.cn .sc (.cn .sc (.nl))))), (.st [(.v (.slice none 0 0)), (.v (.slice none 0 0)), (.v (.int .i64 0)), (.v (.int .i64 0))]), 64⟩
theorem ti331_ok : ti331.ok Try.prog 331 := ti_ok (zc := (([(.slice none 0 0)]) ++ (([(.slice none 0 0)]) ++ (([(.int .i64 0)]) ++ (([(.int .i64 0)]) ++ ([])))))) (by kernel_rfl) (by kernel_rfl) (fun _ => (.cn (.v rfl) (.cn (.v rfl) (.cn (.v rfl) (.cn (.v rfl) (.nl)))))) (fun k h => by cases h)
def ti342 : TI := ⟨.ptr 5, .sc, (.v (.pointer none)), 8⟩
theorem ti342_ok : ti342.ok Try.prog 342 := ti_ok (zc := [(.pointer none)]) (by kernel_rfl) (by kernel_rfl) (fun _ => (.v rfl)) (fun k h => by cases h)
def ti347 : TI := ⟨.ptr 359, .sc, (.v (.pointer none)), 8⟩
theorem ti347_ok : ti347.ok Try.prog 347 := ti_ok (zc := [(.pointer none)]) (by kernel_rfl) (by kernel_rfl) (fun _ => (.v rfl)) (fun k h => by cases h)
def ti348 : TI := ⟨.rcd [(0, 25), (1, 347), (2, 3)], (.cn .sc (.cn .sc (.cn .sc (.nl)))), (.st [(.v (.pointer none)), (.v (.pointer none)), (.v (.int .i64 0))]), 24⟩
theorem ti348_ok : ti348.ok Try.prog 348 := ti_ok (zc := (([(.pointer none)]) ++ (([(.pointer none)]) ++ (([(.int .i64 0)]) ++ ([]))))) (by kernel_rfl) (by kernel_rfl) (fun _ => (.cn (.v rfl) (.cn (.v rfl) (.cn (.v rfl) (.nl))))) (fun k h => by cases h)
def ti349 : TI := ⟨.rcd [(0, 25), (1, 347), (2, 3)], (.cn .sc (.cn .sc (.cn .sc (.nl)))), (.st [(.v (.pointer none)), (.v (.pointer none)), (.v (.int .i64 0))]), 24⟩
theorem ti349_ok : ti349.ok Try.prog 349 := ti_ok (zc := (([(.pointer none)]) ++ (([(.pointer none)]) ++ (([(.int .i64 0)]) ++ ([]))))) (by kernel_rfl) (by kernel_rfl) (fun _ => (.cn (.v rfl) (.cn (.v rfl) (.cn (.v rfl) (.nl))))) (fun k h => by cases h)
def ti351 : TI := ⟨.ptr 365, .sc, (.v (.pointer none)), 8⟩
theorem ti351_ok : ti351.ok Try.prog 351 := ti_ok (zc := [(.pointer none)]) (by kernel_rfl) (by kernel_rfl) (fun _ => (.v rfl)) (fun k h => by cases h)
def ti352 : TI := ⟨.rcd [(0, 29), (1, 351), (2, 3)], (.cn .sc (.cn .sc (.cn .sc (.nl)))), (.st [(.v (.pointer none)), (.v (.pointer none)), (.v (.int .i64 0))]), 24⟩
theorem ti352_ok : ti352.ok Try.prog 352 := ti_ok (zc := (([(.pointer none)]) ++ (([(.pointer none)]) ++ (([(.int .i64 0)]) ++ ([]))))) (by kernel_rfl) (by kernel_rfl) (fun _ => (.cn (.v rfl) (.cn (.v rfl) (.cn (.v rfl) (.nl))))) (fun k h => by cases h)
def ti353 : TI := ⟨.rcd [(0, 29), (1, 351), (2, 3)], (.cn .sc (.cn .sc (.cn .sc (.nl)))), (.st [(.v (.pointer none)), (.v (.pointer none)), (.v (.int .i64 0))]), 24⟩
theorem ti353_ok : ti353.ok Try.prog 353 := ti_ok (zc := (([(.pointer none)]) ++ (([(.pointer none)]) ++ (([(.int .i64 0)]) ++ ([]))))) (by kernel_rfl) (by kernel_rfl) (fun _ => (.cn (.v rfl) (.cn (.v rfl) (.cn (.v rfl) (.nl))))) (fun k h => by cases h)
def ti355 : TI := ⟨.ptr 368, .sc, (.v (.pointer none)), 8⟩
theorem ti355_ok : ti355.ok Try.prog 355 := ti_ok (zc := [(.pointer none)]) (by kernel_rfl) (by kernel_rfl) (fun _ => (.v rfl)) (fun k h => by cases h)
def ti356 : TI := ⟨.rcd [(0, 355)], (.cn .sc (.nl)), (.st [(.v (.pointer none))]), 8⟩
theorem ti356_ok : ti356.ok Try.prog 356 := ti_ok (zc := (([(.pointer none)]) ++ ([]))) (by kernel_rfl) (by kernel_rfl) (fun _ => (.cn (.v rfl) (.nl))) (fun k h => by cases h)
def ti357 : TI := ⟨.rcd [(0, 355)], (.cn .sc (.nl)), (.st [(.v (.pointer none))]), 8⟩
theorem ti357_ok : ti357.ok Try.prog 357 := ti_ok (zc := (([(.pointer none)]) ++ ([]))) (by kernel_rfl) (by kernel_rfl) (fun _ => (.cn (.v rfl) (.nl))) (fun k h => by cases h)
def ti358 : TI := ⟨.rcd [(0, 357), (1, 92), (2, 3)], (.cn (.cn .sc (.nl)) (.cn .sc (.cn .sc (.nl)))), (.st [(.st [(.v (.pointer none))]), (.v (.pointer none)), (.v (.int .i64 0))]), 24⟩
theorem ti358_ok : ti358.ok Try.prog 358 := ti_ok (zc := (((([(.pointer none)]) ++ ([]))) ++ (([(.pointer none)]) ++ (([(.int .i64 0)]) ++ ([]))))) (by kernel_rfl) (by kernel_rfl) (fun _ => (.cn (.cn (.v rfl) (.nl)) (.cn (.v rfl) (.cn (.v rfl) (.nl))))) (fun k h => by cases h)
def ti359 : TI := ⟨.rcd [(0, 357), (1, 92), (2, 3)], (.cn (.cn .sc (.nl)) (.cn .sc (.cn .sc (.nl)))), (.st [(.st [(.v (.pointer none))]), (.v (.pointer none)), (.v (.int .i64 0))]), 24⟩
theorem ti359_ok : ti359.ok Try.prog 359 := ti_ok (zc := (((([(.pointer none)]) ++ ([]))) ++ (([(.pointer none)]) ++ (([(.int .i64 0)]) ++ ([]))))) (by kernel_rfl) (by kernel_rfl) (fun _ => (.cn (.cn (.v rfl) (.nl)) (.cn (.v rfl) (.cn (.v rfl) (.nl))))) (fun k h => by cases h)
def ti360 : TI := ⟨.slc 372, .sc, (.v (.slice none 0 0)), 24⟩
theorem ti360_ok : ti360.ok Try.prog 360 := ti_ok (zc := [(.slice none 0 0)]) (by kernel_rfl) (by kernel_rfl) (fun _ => (.v rfl)) (fun k h => by cases h)
def ti361 : TI := ⟨.rcd [(0, 151), (1, 360)], (.cn .sc (.cn .sc (.nl))), (.st [(.v (.slice none 0 0)), (.v (.slice none 0 0))]), 48⟩
theorem ti361_ok : ti361.ok Try.prog 361 := ti_ok (zc := (([(.slice none 0 0)]) ++ (([(.slice none 0 0)]) ++ ([])))) (by kernel_rfl) (by kernel_rfl) (fun _ => (.cn (.v rfl) (.cn (.v rfl) (.nl)))) (fun k h => by cases h)
def ti362 : TI := ⟨.rcd [(0, 151), (1, 360)], (.cn .sc (.cn .sc (.nl))), (.st [(.v (.slice none 0 0)), (.v (.slice none 0 0))]), 48⟩
theorem ti362_ok : ti362.ok Try.prog 362 := ti_ok (zc := (([(.slice none 0 0)]) ++ (([(.slice none 0 0)]) ++ ([])))) (by kernel_rfl) (by kernel_rfl) (fun _ => (.cn (.v rfl) (.cn (.v rfl) (.nl)))) (fun k h => by cases h)
def ti363 : TI := ⟨.slc 374, .sc, (.v (.slice none 0 0)), 24⟩
theorem ti363_ok : ti363.ok Try.prog 363 := ti_ok (zc := [(.slice none 0 0)]) (by kernel_rfl) (by kernel_rfl) (fun _ => (.v rfl)) (fun k h => by cases h)
def ti364 : TI := ⟨.rcd [(0, 3), (1, 3), (2, 362), (4, 363)], (.cn .sc (.cn .sc (.cn (.cn .sc (.cn .sc (.nl))) (.cn .sc (.nl))))), (.st [(.v (.int .i64 0)), (.v (.int .i64 0)), (.st [(.v (.slice none 0 0)), (.v (.slice none 0 0))]), (.v (.slice none 0 0))]), 88⟩
theorem ti364_ok : ti364.ok Try.prog 364 := ti_ok (zc := (([(.int .i64 0)]) ++ (([(.int .i64 0)]) ++ (((([(.slice none 0 0)]) ++ (([(.slice none 0 0)]) ++ ([])))) ++ (([(.slice none 0 0)]) ++ ([])))))) (by kernel_rfl) (by kernel_rfl) (fun _ => (.cn (.v rfl) (.cn (.v rfl) (.cn (.cn (.v rfl) (.cn (.v rfl) (.nl))) (.cn (.v rfl) (.nl)))))) (fun k h => by cases h)
def ti365 : TI := ⟨.rcd [(0, 3), (1, 3), (2, 362), (4, 363)], (.cn .sc (.cn .sc (.cn (.cn .sc (.cn .sc (.nl))) (.cn .sc (.nl))))), (.st [(.v (.int .i64 0)), (.v (.int .i64 0)), (.st [(.v (.slice none 0 0)), (.v (.slice none 0 0))]), (.v (.slice none 0 0))]), 88⟩
theorem ti365_ok : ti365.ok Try.prog 365 := ti_ok (zc := (([(.int .i64 0)]) ++ (([(.int .i64 0)]) ++ (((([(.slice none 0 0)]) ++ (([(.slice none 0 0)]) ++ ([])))) ++ (([(.slice none 0 0)]) ++ ([])))))) (by kernel_rfl) (by kernel_rfl) (fun _ => (.cn (.v rfl) (.cn (.v rfl) (.cn (.cn (.v rfl) (.cn (.v rfl) (.nl))) (.cn (.v rfl) (.nl)))))) (fun k h => by cases h)
def ti369 : TI := ⟨.rcd [(0, 3), (1, 151)], (.cn .sc (.cn .sc (.nl))), (.st [(.v (.int .i64 0)), (.v (.slice none 0 0))]), 32⟩
theorem ti369_ok : ti369.ok Try.prog 369 := ti_ok (zc := (([(.int .i64 0)]) ++ (([(.slice none 0 0)]) ++ ([])))) (by kernel_rfl) (by kernel_rfl) (fun _ => (.cn (.v rfl) (.cn (.v rfl) (.nl)))) (fun k h => by cases h)
def ti370 : TI := ⟨.rcd [(0, 3), (1, 151)], (.cn .sc (.cn .sc (.nl))), (.st [(.v (.int .i64 0)), (.v (.slice none 0 0))]), 32⟩
theorem ti370_ok : ti370.ok Try.prog 370 := ti_ok (zc := (([(.int .i64 0)]) ++ (([(.slice none 0 0)]) ++ ([])))) (by kernel_rfl) (by kernel_rfl) (fun _ => (.cn (.v rfl) (.cn (.v rfl) (.nl)))) (fun k h => by cases h)
def ti371 : TI := ⟨.rcd [(0, 3), (1, 370)], (.cn .sc (.cn (.cn .sc (.cn .sc (.nl))) (.nl))), (.st [(.v (.int .i64 0)), (.st [(.v (.int .i64 0)), (.v (.slice none 0 0))])]), 40⟩
theorem ti371_ok : ti371.ok Try.prog 371 := ti_ok (zc := (([(.int .i64 0)]) ++ (((([(.int .i64 0)]) ++ (([(.slice none 0 0)]) ++ ([])))) ++ ([])))) (by kernel_rfl) (by kernel_rfl) (fun _ => (.cn (.v rfl) (.cn (.cn (.v rfl) (.cn (.v rfl) (.nl))) (.nl)))) (fun k h => by cases h)
def ti372 : TI := ⟨.rcd [(0, 3), (1, 370)], (.cn .sc (.cn (.cn .sc (.cn .sc (.nl))) (.nl))), (.st [(.v (.int .i64 0)), (.st [(.v (.int .i64 0)), (.v (.slice none 0 0))])]), 40⟩
theorem ti372_ok : ti372.ok Try.prog 372 := ti_ok (zc := (([(.int .i64 0)]) ++ (((([(.int .i64 0)]) ++ (([(.slice none 0 0)]) ++ ([])))) ++ ([])))) (by kernel_rfl) (by kernel_rfl) (fun _ => (.cn (.v rfl) (.cn (.cn (.v rfl) (.cn (.v rfl) (.nl))) (.nl)))) (fun k h => by cases h)
def ti373 : TI := ⟨.rcd [(0, 9), (1, 362)], (.cn .sc (.cn (.cn .sc (.cn .sc (.nl))) (.nl))), (.st [(.v (.string ⟨#[]⟩)), (.st [(.v (.slice none 0 0)), (.v (.slice none 0 0))])]), 64⟩
theorem ti373_ok : ti373.ok Try.prog 373 := ti_ok (zc := (([(.string ⟨#[]⟩)]) ++ (((([(.slice none 0 0)]) ++ (([(.slice none 0 0)]) ++ ([])))) ++ ([])))) (by kernel_rfl) (by kernel_rfl) (fun _ => (.cn (.v rfl) (.cn (.cn (.v rfl) (.cn (.v rfl) (.nl))) (.nl)))) (fun k h => by cases h)
def ti374 : TI := ⟨.rcd [(0, 9), (1, 362)], (.cn .sc (.cn (.cn .sc (.cn .sc (.nl))) (.nl))), (.st [(.v (.string ⟨#[]⟩)), (.st [(.v (.slice none 0 0)), (.v (.slice none 0 0))])]), 64⟩
theorem ti374_ok : ti374.ok Try.prog 374 := ti_ok (zc := (([(.string ⟨#[]⟩)]) ++ (((([(.slice none 0 0)]) ++ (([(.slice none 0 0)]) ++ ([])))) ++ ([])))) (by kernel_rfl) (by kernel_rfl) (fun _ => (.cn (.v rfl) (.cn (.cn (.v rfl) (.cn (.v rfl) (.nl))) (.nl)))) (fun k h => by cases h)
@[simp] theorem ti2_t : ti2.ty = .sc := rfl
@[simp] theorem ti2_z : ti2.zero = (.v (.int .i64 0)) := rfl
@[simp] theorem ti2_b : ti2.bytes = 8 := rfl
@[simp] theorem ti3_t : ti3.ty = .sc := rfl
@[simp] theorem ti3_z : ti3.zero = (.v (.int .i64 0)) := rfl
@[simp] theorem ti3_b : ti3.bytes = 8 := rfl
@[simp] theorem ti4_t : ti4.ty = .sc := rfl
@[simp] theorem ti4_z : ti4.zero = (.v (.bool false)) := rfl
@[simp] theorem ti4_b : ti4.bytes = 1 := rfl
@[simp] theorem ti5_t : ti5.ty = .sc := rfl
@[simp] theorem ti5_z : ti5.zero = (.v (.int .u8 0)) := rfl
@[simp] theorem ti5_b : ti5.bytes = 1 := rfl
@[simp] theorem ti9_t : ti9.ty = .sc := rfl
@[simp] theorem ti9_z : ti9.zero = (.v (.string ⟨#[]⟩)) := rfl
@[simp] theorem ti9_b : ti9.bytes = 16 := rfl
@[simp] theorem ti21_t : ti21.ty = .sc := rfl
@[simp] theorem ti21_z : ti21.zero = (.v (.int .i32 0)) := rfl
@[simp] theorem ti21_b : ti21.bytes = 4 := rfl
@[simp] theorem ti22_t : ti22.ty = .sc := rfl
@[simp] theorem ti22_z : ti22.zero = (.v (.slice none 0 0)) := rfl
@[simp] theorem ti22_b : ti22.bytes = 24 := rfl
@[simp] theorem ti23_t : ti23.ty = .sc := rfl
@[simp] theorem ti23_z : ti23.zero = (.v (.slice none 0 0)) := rfl
@[simp] theorem ti23_b : ti23.bytes = 24 := rfl
@[simp] theorem ti25_t : ti25.ty = .sc := rfl
@[simp] theorem ti25_z : ti25.zero = (.v (.pointer none)) := rfl
@[simp] theorem ti25_b : ti25.bytes = 8 := rfl
@[simp] theorem ti26_t : ti26.ty = .sc := rfl
@[simp] theorem ti26_z : ti26.zero = (.v (.int .i64 0)) := rfl
@[simp] theorem ti26_b : ti26.bytes = 8 := rfl
@[simp] theorem ti29_t : ti29.ty = .sc := rfl
@[simp] theorem ti29_z : ti29.zero = (.v (.pointer none)) := rfl
@[simp] theorem ti29_b : ti29.bytes = 8 := rfl
@[simp] theorem ti32_t : ti32.ty = .sc := rfl
@[simp] theorem ti32_z : ti32.zero = (.v (.pointer none)) := rfl
@[simp] theorem ti32_b : ti32.bytes = 8 := rfl
@[simp] theorem ti33_t : ti33.ty = .sc := rfl
@[simp] theorem ti33_z : ti33.zero = (.v (.pointer none)) := rfl
@[simp] theorem ti33_b : ti33.bytes = 8 := rfl
@[simp] theorem ti34_t : ti34.ty = .sc := rfl
@[simp] theorem ti34_z : ti34.zero = (.v (.pointer none)) := rfl
@[simp] theorem ti34_b : ti34.bytes = 8 := rfl
@[simp] theorem ti35_t : ti35.ty = (.cn .sc (.cn .sc (.cn .sc (.cn .sc (.cn .sc (.nl)))))) := rfl
@[simp] theorem ti35_z : ti35.zero = (.st [(.v (.pointer none)), (.v (.pointer none)), (.v (.pointer none)), (.v (.pointer none)), (.v (.int .i64 0))]) := rfl
@[simp] theorem ti35_b : ti35.bytes = 40 := rfl
@[simp] theorem ti36_t : ti36.ty = (.cn .sc (.cn .sc (.cn .sc (.cn .sc (.cn .sc (.nl)))))) := rfl
@[simp] theorem ti36_z : ti36.zero = (.st [(.v (.pointer none)), (.v (.pointer none)), (.v (.pointer none)), (.v (.pointer none)), (.v (.int .i64 0))]) := rfl
@[simp] theorem ti36_b : ti36.bytes = 40 := rfl
@[simp] theorem ti37_t : ti37.ty = .sc := rfl
@[simp] theorem ti37_z : ti37.zero = (.v (.slice none 0 0)) := rfl
@[simp] theorem ti37_b : ti37.bytes = 24 := rfl
@[simp] theorem ti38_t : ti38.ty = (.cn .sc (.cn .sc (.cn .sc (.cn .sc (.nl))))) := rfl
@[simp] theorem ti38_z : ti38.zero = (.st [(.v (.int .i64 0)), (.v (.int .i64 0)), (.v (.slice none 0 0)), (.v (.slice none 0 0))]) := rfl
@[simp] theorem ti38_b : ti38.bytes = 64 := rfl
@[simp] theorem ti39_t : ti39.ty = (.cn .sc (.cn .sc (.cn .sc (.cn .sc (.nl))))) := rfl
@[simp] theorem ti39_z : ti39.zero = (.st [(.v (.int .i64 0)), (.v (.int .i64 0)), (.v (.slice none 0 0)), (.v (.slice none 0 0))]) := rfl
@[simp] theorem ti39_b : ti39.bytes = 64 := rfl
@[simp] theorem ti48_t : ti48.ty = .sc := rfl
@[simp] theorem ti48_z : ti48.zero = (.v (.int .u8 0)) := rfl
@[simp] theorem ti48_b : ti48.bytes = 1 := rfl
@[simp] theorem ti49_t : ti49.ty = (.ba 32) := rfl
@[simp] theorem ti49_z : ti49.zero = (.ba (List.replicate 32 0)) := rfl
@[simp] theorem ti49_b : ti49.bytes = 32 := rfl
@[simp] theorem ti50_t : ti50.ty = (.ba 32) := rfl
@[simp] theorem ti50_z : ti50.zero = (.ba (List.replicate 32 0)) := rfl
@[simp] theorem ti50_b : ti50.bytes = 32 := rfl
@[simp] theorem ti51_t : ti51.ty = (.ba 32) := rfl
@[simp] theorem ti51_z : ti51.zero = (.ba (List.replicate 32 0)) := rfl
@[simp] theorem ti51_b : ti51.bytes = 32 := rfl
@[simp] theorem ti52_t : ti52.ty = (.cn .sc (.cn (.ba 32) (.cn (.ba 32) (.cn (.ba 32) (.cn (.ba 32) (.nl)))))) := rfl
@[simp] theorem ti52_z : ti52.zero = (.st [(.v (.int .u8 0)), (.ba (List.replicate 32 0)), (.ba (List.replicate 32 0)), (.ba (List.replicate 32 0)), (.ba (List.replicate 32 0))]) := rfl
@[simp] theorem ti52_b : ti52.bytes = 129 := rfl
@[simp] theorem ti53_t : ti53.ty = (.cn .sc (.cn (.ba 32) (.cn (.ba 32) (.cn (.ba 32) (.cn (.ba 32) (.nl)))))) := rfl
@[simp] theorem ti53_z : ti53.zero = (.st [(.v (.int .u8 0)), (.ba (List.replicate 32 0)), (.ba (List.replicate 32 0)), (.ba (List.replicate 32 0)), (.ba (List.replicate 32 0))]) := rfl
@[simp] theorem ti53_b : ti53.bytes = 129 := rfl
@[simp] theorem ti71_t : ti71.ty = .sc := rfl
@[simp] theorem ti71_z : ti71.zero = (.v (.slice none 0 0)) := rfl
@[simp] theorem ti71_b : ti71.bytes = 24 := rfl
@[simp] theorem ti75_t : ti75.ty = .sc := rfl
@[simp] theorem ti75_z : ti75.zero = (.v (.slice none 0 0)) := rfl
@[simp] theorem ti75_b : ti75.bytes = 24 := rfl
@[simp] theorem ti76_t : ti76.ty = .sc := rfl
@[simp] theorem ti76_z : ti76.zero = (.v (.slice none 0 0)) := rfl
@[simp] theorem ti76_b : ti76.bytes = 24 := rfl
@[simp] theorem ti80_t : ti80.ty = .sc := rfl
@[simp] theorem ti80_z : ti80.zero = (.v (.slice none 0 0)) := rfl
@[simp] theorem ti80_b : ti80.bytes = 24 := rfl
@[simp] theorem ti81_t : ti81.ty = (.cn .sc (.cn .sc (.nl))) := rfl
@[simp] theorem ti81_z : ti81.zero = (.st [(.v (.slice none 0 0)), (.v (.slice none 0 0))]) := rfl
@[simp] theorem ti81_b : ti81.bytes = 48 := rfl
@[simp] theorem ti82_t : ti82.ty = (.cn .sc (.cn .sc (.nl))) := rfl
@[simp] theorem ti82_z : ti82.zero = (.st [(.v (.slice none 0 0)), (.v (.slice none 0 0))]) := rfl
@[simp] theorem ti82_b : ti82.bytes = 48 := rfl
@[simp] theorem ti92_t : ti92.ty = .sc := rfl
@[simp] theorem ti92_z : ti92.zero = (.v (.pointer none)) := rfl
@[simp] theorem ti92_b : ti92.bytes = 8 := rfl
@[simp] theorem ti93_t : ti93.ty = .sc := rfl
@[simp] theorem ti93_z : ti93.zero = (.v (.pointer none)) := rfl
@[simp] theorem ti93_b : ti93.bytes = 8 := rfl
@[simp] theorem ti94_t : ti94.ty = (.cn .sc (.nl)) := rfl
@[simp] theorem ti94_z : ti94.zero = (.st [(.v (.pointer none))]) := rfl
@[simp] theorem ti94_b : ti94.bytes = 8 := rfl
@[simp] theorem ti95_t : ti95.ty = (.cn .sc (.nl)) := rfl
@[simp] theorem ti95_z : ti95.zero = (.st [(.v (.pointer none))]) := rfl
@[simp] theorem ti95_b : ti95.bytes = 8 := rfl
@[simp] theorem ti96_t : ti96.ty = .sc := rfl
@[simp] theorem ti96_z : ti96.zero = (.v (.slice none 0 0)) := rfl
@[simp] theorem ti96_b : ti96.bytes = 24 := rfl
@[simp] theorem ti99_t : ti99.ty = .sc := rfl
@[simp] theorem ti99_z : ti99.zero = (.v (.slice none 0 0)) := rfl
@[simp] theorem ti99_b : ti99.bytes = 24 := rfl
@[simp] theorem ti102_t : ti102.ty = (.cn .sc (.cn (.cn .sc (.cn (.ba 32) (.cn (.ba 32) (.cn (.ba 32) (.cn (.ba 32) (.nl)))))) (.nl))) := rfl
@[simp] theorem ti102_z : ti102.zero = (.st [(.v (.slice none 0 0)), (.st [(.v (.int .u8 0)), (.ba (List.replicate 32 0)), (.ba (List.replicate 32 0)), (.ba (List.replicate 32 0)), (.ba (List.replicate 32 0))])]) := rfl
@[simp] theorem ti102_b : ti102.bytes = 160 := rfl
@[simp] theorem ti103_t : ti103.ty = (.cn .sc (.cn (.cn .sc (.cn (.ba 32) (.cn (.ba 32) (.cn (.ba 32) (.cn (.ba 32) (.nl)))))) (.nl))) := rfl
@[simp] theorem ti103_z : ti103.zero = (.st [(.v (.slice none 0 0)), (.st [(.v (.int .u8 0)), (.ba (List.replicate 32 0)), (.ba (List.replicate 32 0)), (.ba (List.replicate 32 0)), (.ba (List.replicate 32 0))])]) := rfl
@[simp] theorem ti103_b : ti103.bytes = 160 := rfl
@[simp] theorem ti121_t : ti121.ty = (.cn .sc (.nl)) := rfl
@[simp] theorem ti121_z : ti121.zero = (.st [(.v (.slice none 0 0))]) := rfl
@[simp] theorem ti121_b : ti121.bytes = 24 := rfl
@[simp] theorem ti122_t : ti122.ty = (.cn .sc (.nl)) := rfl
@[simp] theorem ti122_z : ti122.zero = (.st [(.v (.slice none 0 0))]) := rfl
@[simp] theorem ti122_b : ti122.bytes = 24 := rfl
@[simp] theorem ti124_t : ti124.ty = .sc := rfl
@[simp] theorem ti124_z : ti124.zero = (.v (.slice none 0 0)) := rfl
@[simp] theorem ti124_b : ti124.bytes = 24 := rfl
@[simp] theorem ti127_t : ti127.ty = (.cn .sc (.cn (.ba 32) (.cn (.ba 32) (.cn (.ba 32) (.nl))))) := rfl
@[simp] theorem ti127_z : ti127.zero = (.st [(.v (.int .u8 0)), (.ba (List.replicate 32 0)), (.ba (List.replicate 32 0)), (.ba (List.replicate 32 0))]) := rfl
@[simp] theorem ti127_b : ti127.bytes = 97 := rfl
@[simp] theorem ti128_t : ti128.ty = (.cn .sc (.cn (.ba 32) (.cn (.ba 32) (.cn (.ba 32) (.nl))))) := rfl
@[simp] theorem ti128_z : ti128.zero = (.st [(.v (.int .u8 0)), (.ba (List.replicate 32 0)), (.ba (List.replicate 32 0)), (.ba (List.replicate 32 0))]) := rfl
@[simp] theorem ti128_b : ti128.bytes = 97 := rfl
@[simp] theorem ti132_t : ti132.ty = .sc := rfl
@[simp] theorem ti132_z : ti132.zero = (.v (.slice none 0 0)) := rfl
@[simp] theorem ti132_b : ti132.bytes = 24 := rfl
@[simp] theorem ti140_t : ti140.ty = (.cn .sc (.cn (.ba 32) (.nl))) := rfl
@[simp] theorem ti140_z : ti140.zero = (.st [(.v (.bool false)), (.ba (List.replicate 32 0))]) := rfl
@[simp] theorem ti140_b : ti140.bytes = 33 := rfl
@[simp] theorem ti141_t : ti141.ty = (.cn .sc (.cn (.ba 32) (.nl))) := rfl
@[simp] theorem ti141_z : ti141.zero = (.st [(.v (.bool false)), (.ba (List.replicate 32 0))]) := rfl
@[simp] theorem ti141_b : ti141.bytes = 33 := rfl
@[simp] theorem ti151_t : ti151.ty = .sc := rfl
@[simp] theorem ti151_z : ti151.zero = (.v (.slice none 0 0)) := rfl
@[simp] theorem ti151_b : ti151.bytes = 24 := rfl
@[simp] theorem ti158_t : ti158.ty = .sc := rfl
@[simp] theorem ti158_z : ti158.zero = (.v (.slice none 0 0)) := rfl
@[simp] theorem ti158_b : ti158.bytes = 24 := rfl
@[simp] theorem ti165_t : ti165.ty = (.cn .sc (.cn .sc (.nl))) := rfl
@[simp] theorem ti165_z : ti165.zero = (.st [(.v (.slice none 0 0)), (.v (.slice none 0 0))]) := rfl
@[simp] theorem ti165_b : ti165.bytes = 48 := rfl
@[simp] theorem ti166_t : ti166.ty = (.cn .sc (.cn .sc (.nl))) := rfl
@[simp] theorem ti166_z : ti166.zero = (.st [(.v (.slice none 0 0)), (.v (.slice none 0 0))]) := rfl
@[simp] theorem ti166_b : ti166.bytes = 48 := rfl
@[simp] theorem ti177_t : ti177.ty = (.cn .sc (.cn .sc (.cn .sc (.nl)))) := rfl
@[simp] theorem ti177_z : ti177.zero = (.st [(.v (.slice none 0 0)), (.v (.bool false)), (.v (.slice none 0 0))]) := rfl
@[simp] theorem ti177_b : ti177.bytes = 56 := rfl
@[simp] theorem ti178_t : ti178.ty = (.cn .sc (.cn .sc (.cn .sc (.nl)))) := rfl
@[simp] theorem ti178_z : ti178.zero = (.st [(.v (.slice none 0 0)), (.v (.bool false)), (.v (.slice none 0 0))]) := rfl
@[simp] theorem ti178_b : ti178.bytes = 56 := rfl
@[simp] theorem ti179_t : ti179.ty = (.cn .sc (.cn .sc (.cn .sc (.nl)))) := rfl
@[simp] theorem ti179_z : ti179.zero = (.st [(.v (.slice none 0 0)), (.v (.int .i64 0)), (.v (.bool false))]) := rfl
@[simp] theorem ti179_b : ti179.bytes = 40 := rfl
@[simp] theorem ti180_t : ti180.ty = (.cn .sc (.cn .sc (.cn .sc (.nl)))) := rfl
@[simp] theorem ti180_z : ti180.zero = (.st [(.v (.slice none 0 0)), (.v (.int .i64 0)), (.v (.bool false))]) := rfl
@[simp] theorem ti180_b : ti180.bytes = 40 := rfl
@[simp] theorem ti181_t : ti181.ty = (.cn .sc (.cn .sc (.nl))) := rfl
@[simp] theorem ti181_z : ti181.zero = (.st [(.v (.slice none 0 0)), (.v (.int .i64 0))]) := rfl
@[simp] theorem ti181_b : ti181.bytes = 32 := rfl
@[simp] theorem ti182_t : ti182.ty = (.cn .sc (.cn .sc (.nl))) := rfl
@[simp] theorem ti182_z : ti182.zero = (.st [(.v (.slice none 0 0)), (.v (.int .i64 0))]) := rfl
@[simp] theorem ti182_b : ti182.bytes = 32 := rfl
@[simp] theorem ti191_t : ti191.ty = .sc := rfl
@[simp] theorem ti191_z : ti191.zero = (.v (.slice none 0 0)) := rfl
@[simp] theorem ti191_b : ti191.bytes = 24 := rfl
@[simp] theorem ti192_t : ti192.ty = .sc := rfl
@[simp] theorem ti192_z : ti192.zero = (.v (.pointer none)) := rfl
@[simp] theorem ti192_b : ti192.bytes = 8 := rfl
@[simp] theorem ti197_t : ti197.ty = .sc := rfl
@[simp] theorem ti197_z : ti197.zero = (.v (.slice none 0 0)) := rfl
@[simp] theorem ti197_b : ti197.bytes = 24 := rfl
@[simp] theorem ti199_t : ti199.ty = (.cn (.ba 32) (.cn (.ba 32) (.nl))) := rfl
@[simp] theorem ti199_z : ti199.zero = (.st [(.ba (List.replicate 32 0)), (.ba (List.replicate 32 0))]) := rfl
@[simp] theorem ti199_b : ti199.bytes = 64 := rfl
@[simp] theorem ti200_t : ti200.ty = (.cn (.ba 32) (.cn (.ba 32) (.nl))) := rfl
@[simp] theorem ti200_z : ti200.zero = (.st [(.ba (List.replicate 32 0)), (.ba (List.replicate 32 0))]) := rfl
@[simp] theorem ti200_b : ti200.bytes = 64 := rfl
@[simp] theorem ti205_t : ti205.ty = .sc := rfl
@[simp] theorem ti205_z : ti205.zero = (.v (.pointer none)) := rfl
@[simp] theorem ti205_b : ti205.bytes = 8 := rfl
@[simp] theorem ti227_t : ti227.ty = (.cn .sc (.cn .sc (.cn (.ba 32) (.cn (.ba 32) (.nl))))) := rfl
@[simp] theorem ti227_z : ti227.zero = (.st [(.v (.slice none 0 0)), (.v (.bool false)), (.ba (List.replicate 32 0)), (.ba (List.replicate 32 0))]) := rfl
@[simp] theorem ti227_b : ti227.bytes = 96 := rfl
@[simp] theorem ti228_t : ti228.ty = (.cn .sc (.cn .sc (.cn (.ba 32) (.cn (.ba 32) (.nl))))) := rfl
@[simp] theorem ti228_z : ti228.zero = (.st [(.v (.slice none 0 0)), (.v (.bool false)), (.ba (List.replicate 32 0)), (.ba (List.replicate 32 0))]) := rfl
@[simp] theorem ti228_b : ti228.bytes = 96 := rfl
@[simp] theorem ti229_t : ti229.ty = .sc := rfl
@[simp] theorem ti229_z : ti229.zero = (.v (.slice none 0 0)) := rfl
@[simp] theorem ti229_b : ti229.bytes = 24 := rfl
@[simp] theorem ti235_t : ti235.ty = .sc := rfl
@[simp] theorem ti235_z : ti235.zero = (.v (.pointer none)) := rfl
@[simp] theorem ti235_b : ti235.bytes = 8 := rfl
@[simp] theorem ti239_t : ti239.ty = (.cn (.ba 32) (.cn (.ba 32) (.nl))) := rfl
@[simp] theorem ti239_z : ti239.zero = (.st [(.ba (List.replicate 32 0)), (.ba (List.replicate 32 0))]) := rfl
@[simp] theorem ti239_b : ti239.bytes = 64 := rfl
@[simp] theorem ti240_t : ti240.ty = (.cn (.ba 32) (.cn (.ba 32) (.nl))) := rfl
@[simp] theorem ti240_z : ti240.zero = (.st [(.ba (List.replicate 32 0)), (.ba (List.replicate 32 0))]) := rfl
@[simp] theorem ti240_b : ti240.bytes = 64 := rfl
@[simp] theorem ti243_t : ti243.ty = (.cn (.ba 32) (.cn .sc (.nl))) := rfl
@[simp] theorem ti243_z : ti243.zero = (.st [(.ba (List.replicate 32 0)), (.v (.slice none 0 0))]) := rfl
@[simp] theorem ti243_b : ti243.bytes = 56 := rfl
@[simp] theorem ti244_t : ti244.ty = (.cn (.ba 32) (.cn .sc (.nl))) := rfl
@[simp] theorem ti244_z : ti244.zero = (.st [(.ba (List.replicate 32 0)), (.v (.slice none 0 0))]) := rfl
@[simp] theorem ti244_b : ti244.bytes = 56 := rfl
@[simp] theorem ti252_t : ti252.ty = .sc := rfl
@[simp] theorem ti252_z : ti252.zero = (.v (.int .u64 0)) := rfl
@[simp] theorem ti252_b : ti252.bytes = 8 := rfl
@[simp] theorem ti253_t : ti253.ty = .sc := rfl
@[simp] theorem ti253_z : ti253.zero = (.v (.int .u32 0)) := rfl
@[simp] theorem ti253_b : ti253.bytes = 4 := rfl
@[simp] theorem ti254_t : ti254.ty = (.cn .sc (.cn .sc (.cn .sc (.cn .sc (.cn .sc (.cn .sc (.cn .sc (.cn .sc (.nl))))))))) := rfl
@[simp] theorem ti254_z : ti254.zero = (.st [(.v (.int .u32 0)), (.v (.int .u32 0)), (.v (.int .u32 0)), (.v (.int .u32 0)), (.v (.int .u32 0)), (.v (.int .u32 0)), (.v (.int .u32 0)), (.v (.int .u32 0))]) := rfl
@[simp] theorem ti254_b : ti254.bytes = 32 := rfl
@[simp] theorem ti259_t : ti259.ty = (.ba 64) := rfl
@[simp] theorem ti259_z : ti259.zero = (.ba (List.replicate 64 0)) := rfl
@[simp] theorem ti259_b : ti259.bytes = 64 := rfl
@[simp] theorem ti260_t : ti260.ty = (.cn .sc (.cn (.cn .sc (.cn .sc (.cn .sc (.cn .sc (.cn .sc (.cn .sc (.cn .sc (.cn .sc (.nl))))))))) (.cn (.ba 64) (.cn .sc (.cn .sc (.nl)))))) := rfl
@[simp] theorem ti260_z : ti260.zero = (.st [(.v (.bool false)), (.st [(.v (.int .u32 0)), (.v (.int .u32 0)), (.v (.int .u32 0)), (.v (.int .u32 0)), (.v (.int .u32 0)), (.v (.int .u32 0)), (.v (.int .u32 0)), (.v (.int .u32 0))]), (.ba (List.replicate 64 0)), (.v (.int .i64 0)), (.v (.int .i64 0))]) := rfl
@[simp] theorem ti260_b : ti260.bytes = 120 := rfl
@[simp] theorem ti261_t : ti261.ty = (.cn .sc (.cn (.cn .sc (.cn .sc (.cn .sc (.cn .sc (.cn .sc (.cn .sc (.cn .sc (.cn .sc (.nl))))))))) (.cn (.ba 64) (.cn .sc (.cn .sc (.nl)))))) := rfl
@[simp] theorem ti261_z : ti261.zero = (.st [(.v (.bool false)), (.st [(.v (.int .u32 0)), (.v (.int .u32 0)), (.v (.int .u32 0)), (.v (.int .u32 0)), (.v (.int .u32 0)), (.v (.int .u32 0)), (.v (.int .u32 0)), (.v (.int .u32 0))]), (.ba (List.replicate 64 0)), (.v (.int .i64 0)), (.v (.int .i64 0))]) := rfl
@[simp] theorem ti261_b : ti261.bytes = 120 := rfl
@[simp] theorem ti264_t : ti264.ty = .sc := rfl
@[simp] theorem ti264_z : ti264.zero = (.v (.int .u64 0)) := rfl
@[simp] theorem ti264_b : ti264.bytes = 8 := rfl
@[simp] theorem ti272_t : ti272.ty = (.cn .sc (.cn .sc (.cn .sc (.nl)))) := rfl
@[simp] theorem ti272_z : ti272.zero = (.st [(.v (.bool false)), (.v (.bool false)), (.v (.slice none 0 0))]) := rfl
@[simp] theorem ti272_b : ti272.bytes = 32 := rfl
@[simp] theorem ti273_t : ti273.ty = (.cn .sc (.cn .sc (.cn .sc (.nl)))) := rfl
@[simp] theorem ti273_z : ti273.zero = (.st [(.v (.bool false)), (.v (.bool false)), (.v (.slice none 0 0))]) := rfl
@[simp] theorem ti273_b : ti273.bytes = 32 := rfl
@[simp] theorem ti275_t : ti275.ty = .sc := rfl
@[simp] theorem ti275_z : ti275.zero = (.v (.slice none 0 0)) := rfl
@[simp] theorem ti275_b : ti275.bytes = 24 := rfl
@[simp] theorem ti281_t : ti281.ty = (.cn (.ba 32) (.nl)) := rfl
@[simp] theorem ti281_z : ti281.zero = (.st [(.ba (List.replicate 32 0))]) := rfl
@[simp] theorem ti281_b : ti281.bytes = 32 := rfl
@[simp] theorem ti282_t : ti282.ty = (.cn (.ba 32) (.nl)) := rfl
@[simp] theorem ti282_z : ti282.zero = (.st [(.ba (List.replicate 32 0))]) := rfl
@[simp] theorem ti282_b : ti282.bytes = 32 := rfl
@[simp] theorem ti283_t : ti283.ty = (.cn (.cn (.ba 32) (.nl)) (.cn .sc (.cn .sc (.cn (.ba 32) (.cn .sc (.cn (.ba 32) (.cn .sc (.cn .sc (.cn .sc (.cn .sc (.nl))))))))))) := rfl
@[simp] theorem ti283_z : ti283.zero = (.st [(.st [(.ba (List.replicate 32 0))]), (.v (.int .u8 0)), (.v (.int .i64 0)), (.ba (List.replicate 32 0)), (.v (.slice none 0 0)), (.ba (List.replicate 32 0)), (.v (.int .i64 0)), (.v (.int .i64 0)), (.v (.int .i64 0)), (.v (.int .i64 0))]) := rfl
@[simp] theorem ti283_b : ti283.bytes = 168 := rfl
@[simp] theorem ti284_t : ti284.ty = (.cn (.cn (.ba 32) (.nl)) (.cn .sc (.cn .sc (.cn (.ba 32) (.cn .sc (.cn (.ba 32) (.cn .sc (.cn .sc (.cn .sc (.cn .sc (.nl))))))))))) := rfl
@[simp] theorem ti284_z : ti284.zero = (.st [(.st [(.ba (List.replicate 32 0))]), (.v (.int .u8 0)), (.v (.int .i64 0)), (.ba (List.replicate 32 0)), (.v (.slice none 0 0)), (.ba (List.replicate 32 0)), (.v (.int .i64 0)), (.v (.int .i64 0)), (.v (.int .i64 0)), (.v (.int .i64 0))]) := rfl
@[simp] theorem ti284_b : ti284.bytes = 168 := rfl
@[simp] theorem ti293_t : ti293.ty = .sc := rfl
@[simp] theorem ti293_z : ti293.zero = (.v (.pointer none)) := rfl
@[simp] theorem ti293_b : ti293.bytes = 8 := rfl
@[simp] theorem ti294_t : ti294.ty = (.cn .sc (.cn (.ba 32) (.cn .sc (.nl)))) := rfl
@[simp] theorem ti294_z : ti294.zero = (.st [(.v (.slice none 0 0)), (.ba (List.replicate 32 0)), (.v (.slice none 0 0))]) := rfl
@[simp] theorem ti294_b : ti294.bytes = 80 := rfl
@[simp] theorem ti295_t : ti295.ty = (.cn .sc (.cn (.ba 32) (.cn .sc (.nl)))) := rfl
@[simp] theorem ti295_z : ti295.zero = (.st [(.v (.slice none 0 0)), (.ba (List.replicate 32 0)), (.v (.slice none 0 0))]) := rfl
@[simp] theorem ti295_b : ti295.bytes = 80 := rfl
@[simp] theorem ti304_t : ti304.ty = (.cn .sc (.cn .sc (.cn .sc (.cn .sc (.cn .sc (.cn .sc (.cn .sc (.cn .sc (.cn .sc (.cn .sc (.cn .sc (.cn .sc (.cn .sc (.cn .sc (.cn .sc (.cn .sc (.cn .sc (.cn .sc (.cn .sc (.cn .sc (.cn .sc (.cn .sc (.cn .sc (.cn .sc (.cn .sc (.cn .sc (.cn .sc (.cn .sc (.cn .sc (.cn .sc (.cn .sc (.cn .sc (.cn .sc (.cn .sc (.cn .sc (.cn .sc (.cn .sc (.cn .sc (.cn .sc (.cn .sc (.cn .sc (.cn .sc (.cn .sc (.cn .sc (.cn .sc (.cn .sc (.cn .sc (.cn .sc (.cn .sc (.cn .sc (.cn .sc (.cn .sc (.cn .sc (.cn .sc (.cn .sc (.cn .sc (.cn .sc (.cn .sc (.cn .sc (.cn .sc (.cn .sc (.cn .sc (.cn .sc (.cn .sc (.nl))))))))))))))))))))))))))))))))))))))))))))))))))))))))))))))))) := rfl
@[simp] theorem ti304_z : ti304.zero = (.st [(.v (.int .u32 0)), (.v (.int .u32 0)), (.v (.int .u32 0)), (.v (.int .u32 0)), (.v (.int .u32 0)), (.v (.int .u32 0)), (.v (.int .u32 0)), (.v (.int .u32 0)), (.v (.int .u32 0)), (.v (.int .u32 0)), (.v (.int .u32 0)), (.v (.int .u32 0)), (.v (.int .u32 0)), (.v (.int .u32 0)), (.v (.int .u32 0)), (.v (.int .u32 0)), (.v (.int .u32 0)), (.v (.int .u32 0)), (.v (.int .u32 0)), (.v (.int .u32 0)), (.v (.int .u32 0)), (.v (.int .u32 0)), (.v (.int .u32 0)), (.v (.int .u32 0)), (.v (.int .u32 0)), (.v (.int .u32 0)), (.v (.int .u32 0)), (.v (.int .u32 0)), (.v (.int .u32 0)), (.v (.int .u32 0)), (.v (.int .u32 0)), (.v (.int .u32 0)), (.v (.int .u32 0)), (.v (.int .u32 0)), (.v (.int .u32 0)), (.v (.int .u32 0)), (.v (.int .u32 0)), (.v (.int .u32 0)), (.v (.int .u32 0)), (.v (.int .u32 0)), (.v (.int .u32 0)), (.v (.int .u32 0)), (.v (.int .u32 0)), (.v (.int .u32 0)), (.v (.int .u32 0)), (.v (.int .u32 0)), (.v (.int .u32 0)), (.v (.int .u32 0)), (.v (.int .u32 0)), (.v (.int .u32 0)), (.v (.int .u32 0)), (.v (.int .u32 0)), (.v (.int .u32 0)), (.v (.int .u32 0)), (.v (.int .u32 0)), (.v (.int .u32 0)), (.v (.int .u32 0)), (.v (.int .u32 0)), (.v (.int .u32 0)), (.v (.int .u32 0)), (.v (.int .u32 0)), (.v (.int .u32 0)), (.v (.int .u32 0)), (.v (.int .u32 0))]) := rfl
@[simp] theorem ti304_b : ti304.bytes = 256 := rfl
@[simp] theorem ti309_t : ti309.ty = .sc := rfl
@[simp] theorem ti309_z : ti309.zero = (.v (.slice none 0 0)) := rfl
@[simp] theorem ti309_b : ti309.bytes = 24 := rfl
@[simp] theorem ti324_t : ti324.ty = .sc := rfl
@[simp] theorem ti324_z : ti324.zero = (.v (.pointer none)) := rfl
@[simp] theorem ti324_b : ti324.bytes = 8 := rfl
@[simp] theorem ti325_t : ti325.ty = .sc := rfl
@[simp] theorem ti325_z : ti325.zero = (.v (.pointer none)) := rfl
@[simp] theorem ti325_b : ti325.bytes = 8 := rfl
@[simp] theorem ti327_t : ti327.ty = (.cn (.cn (.cn (.ba 32) (.nl)) (.cn .sc (.cn .sc (.cn (.ba 32) (.cn .sc (.cn (.ba 32) (.cn .sc (.cn .sc (.cn .sc (.cn .sc (.nl))))))))))) (.cn .sc (.nl))) := rfl
@[simp] theorem ti327_z : ti327.zero = (.st [(.st [(.st [(.ba (List.replicate 32 0))]), (.v (.int .u8 0)), (.v (.int .i64 0)), (.ba (List.replicate 32 0)), (.v (.slice none 0 0)), (.ba (List.replicate 32 0)), (.v (.int .i64 0)), (.v (.int .i64 0)), (.v (.int .i64 0)), (.v (.int .i64 0))]), (.v (.int .i64 0))]) := rfl
@[simp] theorem ti327_b : ti327.bytes = 176 := rfl
@[simp] theorem ti328_t : ti328.ty = (.cn (.cn (.cn (.ba 32) (.nl)) (.cn .sc (.cn .sc (.cn (.ba 32) (.cn .sc (.cn (.ba 32) (.cn .sc (.cn .sc (.cn .sc (.cn .sc (.nl))))))))))) (.cn .sc (.nl))) := rfl
@[simp] theorem ti328_z : ti328.zero = (.st [(.st [(.st [(.ba (List.replicate 32 0))]), (.v (.int .u8 0)), (.v (.int .i64 0)), (.ba (List.replicate 32 0)), (.v (.slice none 0 0)), (.ba (List.replicate 32 0)), (.v (.int .i64 0)), (.v (.int .i64 0)), (.v (.int .i64 0)), (.v (.int .i64 0))]), (.v (.int .i64 0))]) := rfl
@[simp] theorem ti328_b : ti328.bytes = 176 := rfl
@[simp] theorem ti329_t : ti329.ty = .sc := rfl
@[simp] theorem ti329_z : ti329.zero = (.v (.slice none 0 0)) := rfl
@[simp] theorem ti329_b : ti329.bytes = 24 := rfl
@[simp] theorem ti330_t : ti330.ty = (.cn .sc (.cn .sc (.cn .sc (.cn .sc (.nl))))) := rfl
@[simp] theorem ti330_z : ti330.zero = (.st [(.v (.slice none 0 0)), (.v (.slice none 0 0)), (.v (.int .i64 0)), (.v (.int .i64 0))]) := rfl
@[simp] theorem ti330_b : ti330.bytes = 64 := rfl
@[simp] theorem ti331_t : ti331.ty = (.cn .sc (.cn .sc (.cn .sc (.cn .sc (.nl))))) := rfl
@[simp] theorem ti331_z : ti331.zero = (.st [(.v (.slice none 0 0)), (.v (.slice none 0 0)), (.v (.int .i64 0)), (.v (.int .i64 0))]) := rfl
@[simp] theorem ti331_b : ti331.bytes = 64 := rfl
@[simp] theorem ti342_t : ti342.ty = .sc := rfl
@[simp] theorem ti342_z : ti342.zero = (.v (.pointer none)) := rfl
@[simp] theorem ti342_b : ti342.bytes = 8 := rfl
@[simp] theorem ti347_t : ti347.ty = .sc := rfl
@[simp] theorem ti347_z : ti347.zero = (.v (.pointer none)) := rfl
@[simp] theorem ti347_b : ti347.bytes = 8 := rfl
@[simp] theorem ti348_t : ti348.ty = (.cn .sc (.cn .sc (.cn .sc (.nl)))) := rfl
@[simp] theorem ti348_z : ti348.zero = (.st [(.v (.pointer none)), (.v (.pointer none)), (.v (.int .i64 0))]) := rfl
@[simp] theorem ti348_b : ti348.bytes = 24 := rfl
@[simp] theorem ti349_t : ti349.ty = (.cn .sc (.cn .sc (.cn .sc (.nl)))) := rfl
@[simp] theorem ti349_z : ti349.zero = (.st [(.v (.pointer none)), (.v (.pointer none)), (.v (.int .i64 0))]) := rfl
@[simp] theorem ti349_b : ti349.bytes = 24 := rfl
@[simp] theorem ti351_t : ti351.ty = .sc := rfl
@[simp] theorem ti351_z : ti351.zero = (.v (.pointer none)) := rfl
@[simp] theorem ti351_b : ti351.bytes = 8 := rfl
@[simp] theorem ti352_t : ti352.ty = (.cn .sc (.cn .sc (.cn .sc (.nl)))) := rfl
@[simp] theorem ti352_z : ti352.zero = (.st [(.v (.pointer none)), (.v (.pointer none)), (.v (.int .i64 0))]) := rfl
@[simp] theorem ti352_b : ti352.bytes = 24 := rfl
@[simp] theorem ti353_t : ti353.ty = (.cn .sc (.cn .sc (.cn .sc (.nl)))) := rfl
@[simp] theorem ti353_z : ti353.zero = (.st [(.v (.pointer none)), (.v (.pointer none)), (.v (.int .i64 0))]) := rfl
@[simp] theorem ti353_b : ti353.bytes = 24 := rfl
@[simp] theorem ti355_t : ti355.ty = .sc := rfl
@[simp] theorem ti355_z : ti355.zero = (.v (.pointer none)) := rfl
@[simp] theorem ti355_b : ti355.bytes = 8 := rfl
@[simp] theorem ti356_t : ti356.ty = (.cn .sc (.nl)) := rfl
@[simp] theorem ti356_z : ti356.zero = (.st [(.v (.pointer none))]) := rfl
@[simp] theorem ti356_b : ti356.bytes = 8 := rfl
@[simp] theorem ti357_t : ti357.ty = (.cn .sc (.nl)) := rfl
@[simp] theorem ti357_z : ti357.zero = (.st [(.v (.pointer none))]) := rfl
@[simp] theorem ti357_b : ti357.bytes = 8 := rfl
@[simp] theorem ti358_t : ti358.ty = (.cn (.cn .sc (.nl)) (.cn .sc (.cn .sc (.nl)))) := rfl
@[simp] theorem ti358_z : ti358.zero = (.st [(.st [(.v (.pointer none))]), (.v (.pointer none)), (.v (.int .i64 0))]) := rfl
@[simp] theorem ti358_b : ti358.bytes = 24 := rfl
@[simp] theorem ti359_t : ti359.ty = (.cn (.cn .sc (.nl)) (.cn .sc (.cn .sc (.nl)))) := rfl
@[simp] theorem ti359_z : ti359.zero = (.st [(.st [(.v (.pointer none))]), (.v (.pointer none)), (.v (.int .i64 0))]) := rfl
@[simp] theorem ti359_b : ti359.bytes = 24 := rfl
@[simp] theorem ti360_t : ti360.ty = .sc := rfl
@[simp] theorem ti360_z : ti360.zero = (.v (.slice none 0 0)) := rfl
@[simp] theorem ti360_b : ti360.bytes = 24 := rfl
@[simp] theorem ti361_t : ti361.ty = (.cn .sc (.cn .sc (.nl))) := rfl
@[simp] theorem ti361_z : ti361.zero = (.st [(.v (.slice none 0 0)), (.v (.slice none 0 0))]) := rfl
@[simp] theorem ti361_b : ti361.bytes = 48 := rfl
@[simp] theorem ti362_t : ti362.ty = (.cn .sc (.cn .sc (.nl))) := rfl
@[simp] theorem ti362_z : ti362.zero = (.st [(.v (.slice none 0 0)), (.v (.slice none 0 0))]) := rfl
@[simp] theorem ti362_b : ti362.bytes = 48 := rfl
@[simp] theorem ti363_t : ti363.ty = .sc := rfl
@[simp] theorem ti363_z : ti363.zero = (.v (.slice none 0 0)) := rfl
@[simp] theorem ti363_b : ti363.bytes = 24 := rfl
@[simp] theorem ti364_t : ti364.ty = (.cn .sc (.cn .sc (.cn (.cn .sc (.cn .sc (.nl))) (.cn .sc (.nl))))) := rfl
@[simp] theorem ti364_z : ti364.zero = (.st [(.v (.int .i64 0)), (.v (.int .i64 0)), (.st [(.v (.slice none 0 0)), (.v (.slice none 0 0))]), (.v (.slice none 0 0))]) := rfl
@[simp] theorem ti364_b : ti364.bytes = 88 := rfl
@[simp] theorem ti365_t : ti365.ty = (.cn .sc (.cn .sc (.cn (.cn .sc (.cn .sc (.nl))) (.cn .sc (.nl))))) := rfl
@[simp] theorem ti365_z : ti365.zero = (.st [(.v (.int .i64 0)), (.v (.int .i64 0)), (.st [(.v (.slice none 0 0)), (.v (.slice none 0 0))]), (.v (.slice none 0 0))]) := rfl
@[simp] theorem ti365_b : ti365.bytes = 88 := rfl
@[simp] theorem ti369_t : ti369.ty = (.cn .sc (.cn .sc (.nl))) := rfl
@[simp] theorem ti369_z : ti369.zero = (.st [(.v (.int .i64 0)), (.v (.slice none 0 0))]) := rfl
@[simp] theorem ti369_b : ti369.bytes = 32 := rfl
@[simp] theorem ti370_t : ti370.ty = (.cn .sc (.cn .sc (.nl))) := rfl
@[simp] theorem ti370_z : ti370.zero = (.st [(.v (.int .i64 0)), (.v (.slice none 0 0))]) := rfl
@[simp] theorem ti370_b : ti370.bytes = 32 := rfl
@[simp] theorem ti371_t : ti371.ty = (.cn .sc (.cn (.cn .sc (.cn .sc (.nl))) (.nl))) := rfl
@[simp] theorem ti371_z : ti371.zero = (.st [(.v (.int .i64 0)), (.st [(.v (.int .i64 0)), (.v (.slice none 0 0))])]) := rfl
@[simp] theorem ti371_b : ti371.bytes = 40 := rfl
@[simp] theorem ti372_t : ti372.ty = (.cn .sc (.cn (.cn .sc (.cn .sc (.nl))) (.nl))) := rfl
@[simp] theorem ti372_z : ti372.zero = (.st [(.v (.int .i64 0)), (.st [(.v (.int .i64 0)), (.v (.slice none 0 0))])]) := rfl
@[simp] theorem ti372_b : ti372.bytes = 40 := rfl
@[simp] theorem ti373_t : ti373.ty = (.cn .sc (.cn (.cn .sc (.cn .sc (.nl))) (.nl))) := rfl
@[simp] theorem ti373_z : ti373.zero = (.st [(.v (.string ⟨#[]⟩)), (.st [(.v (.slice none 0 0)), (.v (.slice none 0 0))])]) := rfl
@[simp] theorem ti373_b : ti373.bytes = 64 := rfl
@[simp] theorem ti374_t : ti374.ty = (.cn .sc (.cn (.cn .sc (.cn .sc (.nl))) (.nl))) := rfl
@[simp] theorem ti374_z : ti374.zero = (.st [(.v (.string ⟨#[]⟩)), (.st [(.v (.slice none 0 0)), (.v (.slice none 0 0))])]) := rfl
@[simp] theorem ti374_b : ti374.bytes = 64 := rfl
def tab : Tab := [(2, ti2), (3, ti3), (4, ti4), (5, ti5), (9, ti9), (21, ti21), (22, ti22), (23, ti23), (25, ti25), (26, ti26), (29, ti29), (32, ti32), (33, ti33), (34, ti34), (35, ti35), (36, ti36), (37, ti37), (38, ti38), (39, ti39), (48, ti48), (49, ti49), (50, ti50), (51, ti51), (52, ti52), (53, ti53), (71, ti71), (75, ti75), (76, ti76), (80, ti80), (81, ti81), (82, ti82), (92, ti92), (93, ti93), (94, ti94), (95, ti95), (96, ti96), (99, ti99), (102, ti102), (103, ti103), (121, ti121), (122, ti122), (124, ti124), (127, ti127), (128, ti128), (129, ti129), (130, ti130), (132, ti132), (140, ti140), (141, ti141), (151, ti151), (158, ti158), (165, ti165), (166, ti166), (177, ti177), (178, ti178), (179, ti179), (180, ti180), (181, ti181), (182, ti182), (191, ti191), (192, ti192), (197, ti197), (199, ti199), (200, ti200), (205, ti205), (227, ti227), (228, ti228), (229, ti229), (235, ti235), (239, ti239), (240, ti240), (241, ti241), (242, ti242), (243, ti243), (244, ti244), (252, ti252), (253, ti253), (254, ti254), (259, ti259), (260, ti260), (261, ti261), (264, ti264), (272, ti272), (273, ti273), (275, ti275), (281, ti281), (282, ti282), (283, ti283), (284, ti284), (293, ti293), (294, ti294), (295, ti295), (304, ti304), (309, ti309), (324, ti324), (325, ti325), (327, ti327), (328, ti328), (329, ti329), (330, ti330), (331, ti331), (342, ti342), (347, ti347), (348, ti348), (349, ti349), (351, ti351), (352, ti352), (353, ti353), (355, ti355), (356, ti356), (357, ti357), (358, ti358), (359, ti359), (360, ti360), (361, ti361), (362, ti362), (363, ti363), (364, ti364), (365, ti365), (369, ti369), (370, ti370), (371, ti371), (372, ti372), (373, ti373), (374, ti374)]
theorem tab_ok : tab.ok Try.prog := by
  refine List.forall_mem_cons.2 ⟨ti2_ok, List.forall_mem_cons.2 ⟨ti3_ok, List.forall_mem_cons.2 ⟨ti4_ok, List.forall_mem_cons.2 ⟨ti5_ok, List.forall_mem_cons.2 ⟨ti9_ok, List.forall_mem_cons.2 ⟨ti21_ok, List.forall_mem_cons.2 ⟨ti22_ok, List.forall_mem_cons.2 ⟨ti23_ok, List.forall_mem_cons.2 ⟨ti25_ok, List.forall_mem_cons.2 ⟨ti26_ok, List.forall_mem_cons.2 ⟨ti29_ok, List.forall_mem_cons.2 ⟨ti32_ok, List.forall_mem_cons.2 ⟨ti33_ok, List.forall_mem_cons.2 ⟨ti34_ok, List.forall_mem_cons.2 ⟨ti35_ok, List.forall_mem_cons.2 ⟨ti36_ok, List.forall_mem_cons.2 ⟨ti37_ok, List.forall_mem_cons.2 ⟨ti38_ok, List.forall_mem_cons.2 ⟨ti39_ok, List.forall_mem_cons.2 ⟨ti48_ok, List.forall_mem_cons.2 ⟨ti49_ok, List.forall_mem_cons.2 ⟨ti50_ok, List.forall_mem_cons.2 ⟨ti51_ok, List.forall_mem_cons.2 ⟨ti52_ok, List.forall_mem_cons.2 ⟨ti53_ok, List.forall_mem_cons.2 ⟨ti71_ok, List.forall_mem_cons.2 ⟨ti75_ok, List.forall_mem_cons.2 ⟨ti76_ok, List.forall_mem_cons.2 ⟨ti80_ok, List.forall_mem_cons.2 ⟨ti81_ok, List.forall_mem_cons.2 ⟨ti82_ok, List.forall_mem_cons.2 ⟨ti92_ok, List.forall_mem_cons.2 ⟨ti93_ok, List.forall_mem_cons.2 ⟨ti94_ok, List.forall_mem_cons.2 ⟨ti95_ok, List.forall_mem_cons.2 ⟨ti96_ok, List.forall_mem_cons.2 ⟨ti99_ok, List.forall_mem_cons.2 ⟨ti102_ok, List.forall_mem_cons.2 ⟨ti103_ok, List.forall_mem_cons.2 ⟨ti121_ok, List.forall_mem_cons.2 ⟨ti122_ok, List.forall_mem_cons.2 ⟨ti124_ok, List.forall_mem_cons.2 ⟨ti127_ok, List.forall_mem_cons.2 ⟨ti128_ok, List.forall_mem_cons.2 ⟨ti129_ok, List.forall_mem_cons.2 ⟨ti130_ok, List.forall_mem_cons.2 ⟨ti132_ok, List.forall_mem_cons.2 ⟨ti140_ok, List.forall_mem_cons.2 ⟨ti141_ok, List.forall_mem_cons.2 ⟨ti151_ok, List.forall_mem_cons.2 ⟨ti158_ok, List.forall_mem_cons.2 ⟨ti165_ok, List.forall_mem_cons.2 ⟨ti166_ok, List.forall_mem_cons.2 ⟨ti177_ok, List.forall_mem_cons.2 ⟨ti178_ok, List.forall_mem_cons.2 ⟨ti179_ok, List.forall_mem_cons.2 ⟨ti180_ok, List.forall_mem_cons.2 ⟨ti181_ok, List.forall_mem_cons.2 ⟨ti182_ok, List.forall_mem_cons.2 ⟨ti191_ok, List.forall_mem_cons.2 ⟨ti192_ok, List.forall_mem_cons.2 ⟨ti197_ok, List.forall_mem_cons.2 ⟨ti199_ok, List.forall_mem_cons.2 ⟨ti200_ok, List.forall_mem_cons.2 ⟨ti205_ok, List.forall_mem_cons.2 ⟨ti227_ok, List.forall_mem_cons.2 ⟨ti228_ok, List.forall_mem_cons.2 ⟨ti229_ok, List.forall_mem_cons.2 ⟨ti235_ok, List.forall_mem_cons.2 ⟨ti239_ok, List.forall_mem_cons.2 ⟨ti240_ok, List.forall_mem_cons.2 ⟨ti241_ok, List.forall_mem_cons.2 ⟨ti242_ok, List.forall_mem_cons.2 ⟨ti243_ok, List.forall_mem_cons.2 ⟨ti244_ok, List.forall_mem_cons.2 ⟨ti252_ok, List.forall_mem_cons.2 ⟨ti253_ok, List.forall_mem_cons.2 ⟨ti254_ok, List.forall_mem_cons.2 ⟨ti259_ok, List.forall_mem_cons.2 ⟨ti260_ok, List.forall_mem_cons.2 ⟨ti261_ok, List.forall_mem_cons.2 ⟨ti264_ok, List.forall_mem_cons.2 ⟨ti272_ok, List.forall_mem_cons.2 ⟨ti273_ok, List.forall_mem_cons.2 ⟨ti275_ok, List.forall_mem_cons.2 ⟨ti281_ok, List.forall_mem_cons.2 ⟨ti282_ok, List.forall_mem_cons.2 ⟨ti283_ok, List.forall_mem_cons.2 ⟨ti284_ok, List.forall_mem_cons.2 ⟨ti293_ok, List.forall_mem_cons.2 ⟨ti294_ok, List.forall_mem_cons.2 ⟨ti295_ok, List.forall_mem_cons.2 ⟨ti304_ok, List.forall_mem_cons.2 ⟨ti309_ok, List.forall_mem_cons.2 ⟨ti324_ok, List.forall_mem_cons.2 ⟨ti325_ok, List.forall_mem_cons.2 ⟨ti327_ok, List.forall_mem_cons.2 ⟨ti328_ok, List.forall_mem_cons.2 ⟨ti329_ok, List.forall_mem_cons.2 ⟨ti330_ok, List.forall_mem_cons.2 ⟨ti331_ok, List.forall_mem_cons.2 ⟨ti342_ok, List.forall_mem_cons.2 ⟨ti347_ok, List.forall_mem_cons.2 ⟨ti348_ok, List.forall_mem_cons.2 ⟨ti349_ok, List.forall_mem_cons.2 ⟨ti351_ok, List.forall_mem_cons.2 ⟨ti352_ok, List.forall_mem_cons.2 ⟨ti353_ok, List.forall_mem_cons.2 ⟨ti355_ok, List.forall_mem_cons.2 ⟨ti356_ok, List.forall_mem_cons.2 ⟨ti357_ok, List.forall_mem_cons.2 ⟨ti358_ok, List.forall_mem_cons.2 ⟨ti359_ok, List.forall_mem_cons.2 ⟨ti360_ok, List.forall_mem_cons.2 ⟨ti361_ok, List.forall_mem_cons.2 ⟨ti362_ok, List.forall_mem_cons.2 ⟨ti363_ok, List.forall_mem_cons.2 ⟨ti364_ok, List.forall_mem_cons.2 ⟨ti365_ok, List.forall_mem_cons.2 ⟨ti369_ok, List.forall_mem_cons.2 ⟨ti370_ok, List.forall_mem_cons.2 ⟨ti371_ok, List.forall_mem_cons.2 ⟨ti372_ok, List.forall_mem_cons.2 ⟨ti373_ok, List.forall_mem_cons.2 ⟨ti374_ok, fun p hp => by cases hp⟩⟩⟩⟩⟩⟩⟩⟩⟩⟩⟩⟩⟩⟩⟩⟩⟩⟩⟩⟩⟩⟩⟩⟩⟩⟩⟩⟩⟩⟩⟩⟩⟩⟩⟩⟩⟩⟩⟩⟩⟩⟩⟩⟩⟩⟩⟩⟩⟩⟩⟩⟩⟩⟩⟩⟩⟩⟩⟩⟩⟩⟩⟩⟩⟩⟩⟩⟩⟩⟩⟩⟩⟩⟩⟩⟩⟩⟩⟩⟩⟩⟩⟩⟩⟩⟩⟩⟩⟩⟩⟩⟩⟩⟩⟩⟩⟩⟩⟩⟩⟩⟩⟩⟩⟩⟩⟩⟩⟩⟩⟩⟩⟩⟩⟩⟩⟩⟩⟩⟩⟩⟩⟩⟩⟩
end Go.Proofs.Ytpeefeioccglcaa
