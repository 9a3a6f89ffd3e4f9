/- The program's types, each read off once. -/
import Derived.Test.YthopahcgbbkblaaGreatDoorEd
import Derived.Test.YthopahcgbbkblaaGreatDoorProg

namespace Go.Proofs.YthopahcgbbkblaaGreatDoor
open Go.Av
set_option maxRecDepth 10000

theorem mixed : Tryz.prog.follows .mixedOrders = true := rfl
theorem ti1 : ti Tryz.prog 1 = { has := true, sz := 1, bs := 8, kind := .func, elem := 0, len := 0, offs := [], zero := [.nilfn] } := by kernel_rfl
theorem ti2 : ti Tryz.prog 2 = { has := true, sz := 1, bs := 8, kind := .int .i64, elem := 0, len := 0, offs := [], zero := [.int .i64 0] } := by kernel_rfl
theorem ti3 : ti Tryz.prog 3 = { has := true, sz := 1, bs := 8, kind := .int .i64, elem := 0, len := 0, offs := [], zero := [.int .i64 0] } := by kernel_rfl
theorem ti4 : ti Tryz.prog 4 = { has := true, sz := 1, bs := 1, kind := .bool, elem := 0, len := 0, offs := [], zero := [.bool false] } := by kernel_rfl
theorem ti5 : ti Tryz.prog 5 = { has := true, sz := 1, bs := 1, kind := .int .u8, elem := 0, len := 0, offs := [], zero := [.int .u8 0] } := by kernel_rfl
theorem ti6 : ti Tryz.prog 6 = { has := true, sz := 1, bs := 1, kind := .int .u8, elem := 0, len := 0, offs := [], zero := [.int .u8 0] } := by kernel_rfl
theorem ti7 : ti Tryz.prog 7 = { has := true, sz := 4, bs := 24, kind := .struct, elem := 0, len := 0, offs := [(0, 1), (1, 1), (2, 1), (3, 1)], zero := [.int .i64 0, .int .i64 0, .bool false, .int .u8 0] } := by kernel_rfl
theorem ti8 : ti Tryz.prog 8 = { has := true, sz := 4, bs := 24, kind := .struct, elem := 0, len := 0, offs := [(0, 1), (1, 1), (2, 1), (3, 1)], zero := [.int .i64 0, .int .i64 0, .bool false, .int .u8 0] } := by kernel_rfl
theorem ti9 : ti Tryz.prog 9 = { has := true, sz := 1, bs := 16, kind := .str, elem := 0, len := 0, offs := [], zero := [.str []] } := by kernel_rfl
theorem ti10 : ti Tryz.prog 10 = { has := true, sz := 1, bs := 16, kind := .str, elem := 0, len := 0, offs := [], zero := [.str []] } := by kernel_rfl
theorem ti11 : ti Tryz.prog 11 = { has := true, sz := 1, bs := 16, kind := .str, elem := 0, len := 0, offs := [], zero := [.str []] } := by kernel_rfl
theorem ti12 : ti Tryz.prog 12 = { has := true, sz := 1, bs := 8, kind := .int .u64, elem := 0, len := 0, offs := [], zero := [.int .u64 0] } := by kernel_rfl
theorem ti13 : ti Tryz.prog 13 = { has := true, sz := 2, bs := 24, kind := .struct, elem := 0, len := 0, offs := [(0, 1), (1, 1)], zero := [.str [], .int .u64 0] } := by kernel_rfl
theorem ti14 : ti Tryz.prog 14 = { has := true, sz := 2, bs := 24, kind := .struct, elem := 0, len := 0, offs := [(0, 1), (1, 1)], zero := [.str [], .int .u64 0] } := by kernel_rfl
theorem ti15 : ti Tryz.prog 15 = { has := true, sz := 1, bs := 8, kind := .ptr, elem := 202, len := 0, offs := [], zero := [.nilptr] } := by kernel_rfl
theorem ti16 : ti Tryz.prog 16 = { has := true, sz := 1, bs := 8, kind := .ptr, elem := 205, len := 0, offs := [], zero := [.nilptr] } := by kernel_rfl
theorem ti17 : ti Tryz.prog 17 = { has := true, sz := 1, bs := 8, kind := .ptr, elem := 212, len := 0, offs := [], zero := [.nilptr] } := by kernel_rfl
theorem ti18 : ti Tryz.prog 18 = { has := true, sz := 1, bs := 8, kind := .struct, elem := 0, len := 0, offs := [(0, 1)], zero := [.nilptr] } := by kernel_rfl
theorem ti19 : ti Tryz.prog 19 = { has := true, sz := 1, bs := 8, kind := .struct, elem := 0, len := 0, offs := [(0, 1)], zero := [.nilptr] } := by kernel_rfl
theorem ti20 : ti Tryz.prog 20 = { has := true, sz := 1, bs := 16, kind := .iface, elem := 0, len := 0, offs := [], zero := [.nilif] } := by kernel_rfl
theorem ti21 : ti Tryz.prog 21 = { has := true, sz := 1, bs := 4, kind := .int .i32, elem := 0, len := 0, offs := [], zero := [.int .i32 0] } := by kernel_rfl
theorem ti22 : ti Tryz.prog 22 = { has := true, sz := 1, bs := 24, kind := .slice, elem := 5, len := 0, offs := [], zero := [.slice [] .full] } := by kernel_rfl
theorem ti23 : ti Tryz.prog 23 = { has := true, sz := 1, bs := 24, kind := .slice, elem := 43, len := 0, offs := [], zero := [.slice [] .full] } := by kernel_rfl
theorem ti25 : ti Tryz.prog 25 = { has := true, sz := 1, bs := 8, kind := .func, elem := 0, len := 0, offs := [], zero := [.nilfn] } := by kernel_rfl
theorem ti26 : ti Tryz.prog 26 = { has := true, sz := 1, bs := 24, kind := .slice, elem := 50, len := 0, offs := [], zero := [.slice [] .full] } := by kernel_rfl
theorem ti27 : ti Tryz.prog 27 = { has := true, sz := 6, bs := 104, kind := .struct, elem := 0, len := 0, offs := [(0, 1), (1, 1), (2, 1), (3, 1), (4, 1), (5, 1)], zero := [.int .i64 0, .slice [] .full, .str [], .bool false, .slice [] .full, .slice [] .full] } := by kernel_rfl
theorem ti28 : ti Tryz.prog 28 = { has := true, sz := 6, bs := 104, kind := .struct, elem := 0, len := 0, offs := [(0, 1), (1, 1), (2, 1), (3, 1), (4, 1), (5, 1)], zero := [.int .i64 0, .slice [] .full, .str [], .bool false, .slice [] .full, .slice [] .full] } := by kernel_rfl
theorem ti29 : ti Tryz.prog 29 = { has := true, sz := 1, bs := 8, kind := .func, elem := 0, len := 0, offs := [], zero := [.nilfn] } := by kernel_rfl
theorem ti30 : ti Tryz.prog 30 = { has := true, sz := 1, bs := 8, kind := .func, elem := 0, len := 0, offs := [], zero := [.nilfn] } := by kernel_rfl
theorem ti31 : ti Tryz.prog 31 = { has := true, sz := 1, bs := 8, kind := .func, elem := 0, len := 0, offs := [], zero := [.nilfn] } := by kernel_rfl
theorem ti32 : ti Tryz.prog 32 = { has := true, sz := 1, bs := 8, kind := .func, elem := 0, len := 0, offs := [], zero := [.nilfn] } := by kernel_rfl
theorem ti33 : ti Tryz.prog 33 = { has := true, sz := 1, bs := 24, kind := .slice, elem := 85, len := 0, offs := [], zero := [.slice [] .full] } := by kernel_rfl
theorem ti34 : ti Tryz.prog 34 = { has := true, sz := 1, bs := 8, kind := .func, elem := 0, len := 0, offs := [], zero := [.nilfn] } := by kernel_rfl
theorem ti35 : ti Tryz.prog 35 = { has := true, sz := 1, bs := 8, kind := .func, elem := 0, len := 0, offs := [], zero := [.nilfn] } := by kernel_rfl
theorem ti36 : ti Tryz.prog 36 = { has := true, sz := 1, bs := 8, kind := .ptr, elem := 59, len := 0, offs := [], zero := [.nilptr] } := by kernel_rfl
theorem ti37 : ti Tryz.prog 37 = { has := true, sz := 1, bs := 8, kind := .func, elem := 0, len := 0, offs := [], zero := [.nilfn] } := by kernel_rfl
theorem ti38 : ti Tryz.prog 38 = { has := true, sz := 1, bs := 8, kind := .func, elem := 0, len := 0, offs := [], zero := [.nilfn] } := by kernel_rfl
theorem ti39 : ti Tryz.prog 39 = { has := true, sz := 1, bs := 8, kind := .func, elem := 0, len := 0, offs := [], zero := [.nilfn] } := by kernel_rfl
theorem ti40 : ti Tryz.prog 40 = { has := true, sz := 1, bs := 24, kind := .slice, elem := 3, len := 0, offs := [], zero := [.slice [] .full] } := by kernel_rfl
theorem ti41 : ti Tryz.prog 41 = { has := true, sz := 1, bs := 24, kind := .slice, elem := 65, len := 0, offs := [], zero := [.slice [] .full] } := by kernel_rfl
theorem ti42 : ti Tryz.prog 42 = { has := true, sz := 10, bs := 168, kind := .struct, elem := 0, len := 0, offs := [(0, 1), (1, 1), (2, 1), (3, 1), (4, 1), (5, 1), (6, 1), (7, 1), (8, 1), (9, 1)], zero := [.str [], .str [], .str [], .int .i64 0, .int .i64 0, .int .i64 0, .slice [] .full, .slice [] .full, .slice [] .full, .slice [] .full] } := by kernel_rfl
theorem ti43 : ti Tryz.prog 43 = { has := true, sz := 10, bs := 168, kind := .struct, elem := 0, len := 0, offs := [(0, 1), (1, 1), (2, 1), (3, 1), (4, 1), (5, 1), (6, 1), (7, 1), (8, 1), (9, 1)], zero := [.str [], .str [], .str [], .int .i64 0, .int .i64 0, .int .i64 0, .slice [] .full, .slice [] .full, .slice [] .full, .slice [] .full] } := by kernel_rfl
theorem ti44 : ti Tryz.prog 44 = { has := true, sz := 1, bs := 8, kind := .func, elem := 0, len := 0, offs := [], zero := [.nilfn] } := by kernel_rfl
theorem ti45 : ti Tryz.prog 45 = { has := true, sz := 1, bs := 8, kind := .func, elem := 0, len := 0, offs := [], zero := [.nilfn] } := by kernel_rfl
theorem ti46 : ti Tryz.prog 46 = { has := true, sz := 1, bs := 8, kind := .func, elem := 0, len := 0, offs := [], zero := [.nilfn] } := by kernel_rfl
theorem ti47 : ti Tryz.prog 47 = { has := true, sz := 1, bs := 8, kind := .func, elem := 0, len := 0, offs := [], zero := [.nilfn] } := by kernel_rfl
theorem ti48 : ti Tryz.prog 48 = { has := true, sz := 1, bs := 24, kind := .slice, elem := 73, len := 0, offs := [], zero := [.slice [] .full] } := by kernel_rfl
theorem ti49 : ti Tryz.prog 49 = { has := true, sz := 3, bs := 40, kind := .struct, elem := 0, len := 0, offs := [(0, 1), (1, 1), (2, 1)], zero := [.int .i64 0, .int .i64 0, .slice [] .full] } := by kernel_rfl
theorem ti50 : ti Tryz.prog 50 = { has := true, sz := 3, bs := 40, kind := .struct, elem := 0, len := 0, offs := [(0, 1), (1, 1), (2, 1)], zero := [.int .i64 0, .int .i64 0, .slice [] .full] } := by kernel_rfl
theorem ti51 : ti Tryz.prog 51 = { has := true, sz := 1, bs := 8, kind := .func, elem := 0, len := 0, offs := [], zero := [.nilfn] } := by kernel_rfl
theorem ti52 : ti Tryz.prog 52 = { has := true, sz := 1, bs := 8, kind := .func, elem := 0, len := 0, offs := [], zero := [.nilfn] } := by kernel_rfl
theorem ti54 : ti Tryz.prog 54 = { has := true, sz := 1, bs := 8, kind := .func, elem := 0, len := 0, offs := [], zero := [.nilfn] } := by kernel_rfl
theorem ti55 : ti Tryz.prog 55 = { has := true, sz := 1, bs := 8, kind := .func, elem := 0, len := 0, offs := [], zero := [.nilfn] } := by kernel_rfl
theorem ti56 : ti Tryz.prog 56 = { has := true, sz := 1, bs := 8, kind := .func, elem := 0, len := 0, offs := [], zero := [.nilfn] } := by kernel_rfl
theorem ti57 : ti Tryz.prog 57 = { has := true, sz := 1, bs := 8, kind := .func, elem := 0, len := 0, offs := [], zero := [.nilfn] } := by kernel_rfl
theorem ti58 : ti Tryz.prog 58 = { has := true, sz := 2, bs := 32, kind := .struct, elem := 0, len := 0, offs := [(0, 1), (1, 1)], zero := [.slice [] .full, .int .i64 0] } := by kernel_rfl
theorem ti59 : ti Tryz.prog 59 = { has := true, sz := 2, bs := 32, kind := .struct, elem := 0, len := 0, offs := [(0, 1), (1, 1)], zero := [.slice [] .full, .int .i64 0] } := by kernel_rfl
theorem ti60 : ti Tryz.prog 60 = { has := true, sz := 1, bs := 8, kind := .func, elem := 0, len := 0, offs := [], zero := [.nilfn] } := by kernel_rfl
theorem ti61 : ti Tryz.prog 61 = { has := true, sz := 1, bs := 8, kind := .func, elem := 0, len := 0, offs := [], zero := [.nilfn] } := by kernel_rfl
theorem ti63 : ti Tryz.prog 63 = { has := true, sz := 1, bs := 8, kind := .func, elem := 0, len := 0, offs := [], zero := [.nilfn] } := by kernel_rfl
theorem ti64 : ti Tryz.prog 64 = { has := true, sz := 3, bs := 24, kind := .struct, elem := 0, len := 0, offs := [(0, 1), (1, 1), (2, 1)], zero := [.int .i64 0, .int .i64 0, .int .i64 0] } := by kernel_rfl
theorem ti65 : ti Tryz.prog 65 = { has := true, sz := 3, bs := 24, kind := .struct, elem := 0, len := 0, offs := [(0, 1), (1, 1), (2, 1)], zero := [.int .i64 0, .int .i64 0, .int .i64 0] } := by kernel_rfl
theorem ti66 : ti Tryz.prog 66 = { has := true, sz := 1, bs := 8, kind := .func, elem := 0, len := 0, offs := [], zero := [.nilfn] } := by kernel_rfl
theorem ti67 : ti Tryz.prog 67 = { has := true, sz := 1, bs := 8, kind := .func, elem := 0, len := 0, offs := [], zero := [.nilfn] } := by kernel_rfl
theorem ti68 : ti Tryz.prog 68 = { has := true, sz := 1, bs := 8, kind := .func, elem := 0, len := 0, offs := [], zero := [.nilfn] } := by kernel_rfl
theorem ti69 : ti Tryz.prog 69 = { has := true, sz := 1, bs := 8, kind := .func, elem := 0, len := 0, offs := [], zero := [.nilfn] } := by kernel_rfl
theorem ti70 : ti Tryz.prog 70 = { has := true, sz := 1, bs := 8, kind := .func, elem := 0, len := 0, offs := [], zero := [.nilfn] } := by kernel_rfl
theorem ti71 : ti Tryz.prog 71 = { has := true, sz := 1, bs := 8, kind := .func, elem := 0, len := 0, offs := [], zero := [.nilfn] } := by kernel_rfl
theorem ti72 : ti Tryz.prog 72 = { has := true, sz := 4, bs := 40, kind := .struct, elem := 0, len := 0, offs := [(0, 1), (1, 1), (2, 1), (3, 1)], zero := [.str [], .int .i64 0, .int .i64 0, .int .i64 0] } := by kernel_rfl
theorem ti73 : ti Tryz.prog 73 = { has := true, sz := 4, bs := 40, kind := .struct, elem := 0, len := 0, offs := [(0, 1), (1, 1), (2, 1), (3, 1)], zero := [.str [], .int .i64 0, .int .i64 0, .int .i64 0] } := by kernel_rfl
theorem ti74 : ti Tryz.prog 74 = { has := true, sz := 1, bs := 24, kind := .slice, elem := 9, len := 0, offs := [], zero := [.slice [] .full] } := by kernel_rfl
theorem ti76 : ti Tryz.prog 76 = { has := true, sz := 1, bs := 8, kind := .func, elem := 0, len := 0, offs := [], zero := [.nilfn] } := by kernel_rfl
theorem ti77 : ti Tryz.prog 77 = { has := true, sz := 1, bs := 8, kind := .func, elem := 0, len := 0, offs := [], zero := [.nilfn] } := by kernel_rfl
theorem ti78 : ti Tryz.prog 78 = { has := true, sz := 1, bs := 8, kind := .func, elem := 0, len := 0, offs := [], zero := [.nilfn] } := by kernel_rfl
theorem ti79 : ti Tryz.prog 79 = { has := true, sz := 1, bs := 8, kind := .func, elem := 0, len := 0, offs := [], zero := [.nilfn] } := by kernel_rfl
theorem ti80 : ti Tryz.prog 80 = { has := true, sz := 1, bs := 8, kind := .func, elem := 0, len := 0, offs := [], zero := [.nilfn] } := by kernel_rfl
theorem ti81 : ti Tryz.prog 81 = { has := true, sz := 1, bs := 8, kind := .func, elem := 0, len := 0, offs := [], zero := [.nilfn] } := by kernel_rfl
theorem ti82 : ti Tryz.prog 82 = { has := true, sz := 1, bs := 8, kind := .func, elem := 0, len := 0, offs := [], zero := [.nilfn] } := by kernel_rfl
theorem ti83 : ti Tryz.prog 83 = { has := true, sz := 1, bs := 8, kind := .ptr, elem := 28, len := 0, offs := [], zero := [.nilptr] } := by kernel_rfl
theorem ti84 : ti Tryz.prog 84 = { has := true, sz := 6, bs := 64, kind := .struct, elem := 0, len := 0, offs := [(0, 1), (1, 1), (2, 1), (3, 1), (4, 1), (5, 1)], zero := [.int .i64 0, .int .i64 0, .int .i64 0, .int .i64 0, .slice [] .full, .bool false] } := by kernel_rfl
theorem ti85 : ti Tryz.prog 85 = { has := true, sz := 6, bs := 64, kind := .struct, elem := 0, len := 0, offs := [(0, 1), (1, 1), (2, 1), (3, 1), (4, 1), (5, 1)], zero := [.int .i64 0, .int .i64 0, .int .i64 0, .int .i64 0, .slice [] .full, .bool false] } := by kernel_rfl
theorem ti86 : ti Tryz.prog 86 = { has := true, sz := 1, bs := 8, kind := .func, elem := 0, len := 0, offs := [], zero := [.nilfn] } := by kernel_rfl
theorem ti87 : ti Tryz.prog 87 = { has := true, sz := 1, bs := 8, kind := .func, elem := 0, len := 0, offs := [], zero := [.nilfn] } := by kernel_rfl
theorem ti89 : ti Tryz.prog 89 = { has := true, sz := 1, bs := 8, kind := .func, elem := 0, len := 0, offs := [], zero := [.nilfn] } := by kernel_rfl
theorem ti90 : ti Tryz.prog 90 = { has := true, sz := 1, bs := 8, kind := .func, elem := 0, len := 0, offs := [], zero := [.nilfn] } := by kernel_rfl
theorem ti91 : ti Tryz.prog 91 = { has := true, sz := 1, bs := 8, kind := .func, elem := 0, len := 0, offs := [], zero := [.nilfn] } := by kernel_rfl
theorem ti92 : ti Tryz.prog 92 = { has := true, sz := 1, bs := 8, kind := .func, elem := 0, len := 0, offs := [], zero := [.nilfn] } := by kernel_rfl
theorem ti93 : ti Tryz.prog 93 = { has := true, sz := 1, bs := 8, kind := .func, elem := 0, len := 0, offs := [], zero := [.nilfn] } := by kernel_rfl
theorem ti94 : ti Tryz.prog 94 = { has := true, sz := 1, bs := 8, kind := .func, elem := 0, len := 0, offs := [], zero := [.nilfn] } := by kernel_rfl
theorem ti95 : ti Tryz.prog 95 = { has := true, sz := 1, bs := 8, kind := .func, elem := 0, len := 0, offs := [], zero := [.nilfn] } := by kernel_rfl
theorem ti96 : ti Tryz.prog 96 = { has := true, sz := 1, bs := 8, kind := .func, elem := 0, len := 0, offs := [], zero := [.nilfn] } := by kernel_rfl
theorem ti97 : ti Tryz.prog 97 = { has := true, sz := 1, bs := 8, kind := .func, elem := 0, len := 0, offs := [], zero := [.nilfn] } := by kernel_rfl
theorem ti99 : ti Tryz.prog 99 = { has := true, sz := 1, bs := 8, kind := .func, elem := 0, len := 0, offs := [], zero := [.nilfn] } := by kernel_rfl
theorem ti100 : ti Tryz.prog 100 = { has := true, sz := 1, bs := 8, kind := .func, elem := 0, len := 0, offs := [], zero := [.nilfn] } := by kernel_rfl
theorem ti101 : ti Tryz.prog 101 = { has := true, sz := 1, bs := 8, kind := .func, elem := 0, len := 0, offs := [], zero := [.nilfn] } := by kernel_rfl
theorem ti102 : ti Tryz.prog 102 = { has := true, sz := 1, bs := 8, kind := .func, elem := 0, len := 0, offs := [], zero := [.nilfn] } := by kernel_rfl
theorem ti103 : ti Tryz.prog 103 = { has := true, sz := 1, bs := 8, kind := .func, elem := 0, len := 0, offs := [], zero := [.nilfn] } := by kernel_rfl
theorem ti104 : ti Tryz.prog 104 = { has := true, sz := 1, bs := 8, kind := .func, elem := 0, len := 0, offs := [], zero := [.nilfn] } := by kernel_rfl
theorem ti106 : ti Tryz.prog 106 = { has := true, sz := 1, bs := 8, kind := .func, elem := 0, len := 0, offs := [], zero := [.nilfn] } := by kernel_rfl
theorem ti107 : ti Tryz.prog 107 = { has := true, sz := 1, bs := 8, kind := .func, elem := 0, len := 0, offs := [], zero := [.nilfn] } := by kernel_rfl
theorem ti108 : ti Tryz.prog 108 = { has := true, sz := 1, bs := 8, kind := .func, elem := 0, len := 0, offs := [], zero := [.nilfn] } := by kernel_rfl
theorem ti109 : ti Tryz.prog 109 = { has := true, sz := 1, bs := 8, kind := .func, elem := 0, len := 0, offs := [], zero := [.nilfn] } := by kernel_rfl
theorem ti110 : ti Tryz.prog 110 = { has := true, sz := 1, bs := 8, kind := .func, elem := 0, len := 0, offs := [], zero := [.nilfn] } := by kernel_rfl
theorem ti111 : ti Tryz.prog 111 = { has := true, sz := 1, bs := 8, kind := .func, elem := 0, len := 0, offs := [], zero := [.nilfn] } := by kernel_rfl
theorem ti112 : ti Tryz.prog 112 = { has := true, sz := 1, bs := 16, kind := .iface, elem := 0, len := 0, offs := [], zero := [.nilif] } := by kernel_rfl
theorem ti113 : ti Tryz.prog 113 = { has := true, sz := 1, bs := 16, kind := .iface, elem := 0, len := 0, offs := [], zero := [.nilif] } := by kernel_rfl
theorem ti115 : ti Tryz.prog 115 = { has := true, sz := 1, bs := 8, kind := .func, elem := 0, len := 0, offs := [], zero := [.nilfn] } := by kernel_rfl
theorem ti116 : ti Tryz.prog 116 = { has := true, sz := 1, bs := 8, kind := .func, elem := 0, len := 0, offs := [], zero := [.nilfn] } := by kernel_rfl
theorem ti117 : ti Tryz.prog 117 = { has := true, sz := 1, bs := 8, kind := .func, elem := 0, len := 0, offs := [], zero := [.nilfn] } := by kernel_rfl
theorem ti118 : ti Tryz.prog 118 = { has := true, sz := 1, bs := 8, kind := .func, elem := 0, len := 0, offs := [], zero := [.nilfn] } := by kernel_rfl
theorem ti119 : ti Tryz.prog 119 = { has := true, sz := 1, bs := 8, kind := .func, elem := 0, len := 0, offs := [], zero := [.nilfn] } := by kernel_rfl
theorem ti120 : ti Tryz.prog 120 = { has := true, sz := 1, bs := 8, kind := .func, elem := 0, len := 0, offs := [], zero := [.nilfn] } := by kernel_rfl
theorem ti121 : ti Tryz.prog 121 = { has := true, sz := 1, bs := 8, kind := .func, elem := 0, len := 0, offs := [], zero := [.nilfn] } := by kernel_rfl
theorem ti122 : ti Tryz.prog 122 = { has := true, sz := 1, bs := 8, kind := .func, elem := 0, len := 0, offs := [], zero := [.nilfn] } := by kernel_rfl
theorem ti123 : ti Tryz.prog 123 = { has := true, sz := 1, bs := 8, kind := .func, elem := 0, len := 0, offs := [], zero := [.nilfn] } := by kernel_rfl
theorem ti124 : ti Tryz.prog 124 = { has := true, sz := 1, bs := 8, kind := .func, elem := 0, len := 0, offs := [], zero := [.nilfn] } := by kernel_rfl
theorem ti125 : ti Tryz.prog 125 = { has := true, sz := 1, bs := 8, kind := .func, elem := 0, len := 0, offs := [], zero := [.nilfn] } := by kernel_rfl
theorem ti126 : ti Tryz.prog 126 = { has := true, sz := 1, bs := 8, kind := .func, elem := 0, len := 0, offs := [], zero := [.nilfn] } := by kernel_rfl
theorem ti127 : ti Tryz.prog 127 = { has := true, sz := 1, bs := 8, kind := .int .u64, elem := 0, len := 0, offs := [], zero := [.int .u64 0] } := by kernel_rfl
theorem ti128 : ti Tryz.prog 128 = { has := true, sz := 1, bs := 8, kind := .func, elem := 0, len := 0, offs := [], zero := [.nilfn] } := by kernel_rfl
theorem ti129 : ti Tryz.prog 129 = { has := true, sz := 1, bs := 4, kind := .int .u32, elem := 0, len := 0, offs := [], zero := [.int .u32 0] } := by kernel_rfl
theorem ti130 : ti Tryz.prog 130 = { has := true, sz := 8, bs := 32, kind := .arr, elem := 129, len := 8, offs := [], zero := [.int .u32 0, .int .u32 0, .int .u32 0, .int .u32 0, .int .u32 0, .int .u32 0, .int .u32 0, .int .u32 0] } := by kernel_rfl
theorem ti131 : ti Tryz.prog 131 = { has := true, sz := 1, bs := 8, kind := .func, elem := 0, len := 0, offs := [], zero := [.nilfn] } := by kernel_rfl
theorem ti132 : ti Tryz.prog 132 = { has := true, sz := 1, bs := 8, kind := .ptr, elem := 134, len := 0, offs := [], zero := [.nilptr] } := by kernel_rfl
theorem ti133 : ti Tryz.prog 133 = { has := true, sz := 2, bs := 32, kind := .struct, elem := 0, len := 0, offs := [(0, 1), (1, 1)], zero := [.nilptr, .slice [] .full] } := by kernel_rfl
theorem ti134 : ti Tryz.prog 134 = { has := true, sz := 2, bs := 32, kind := .struct, elem := 0, len := 0, offs := [(0, 1), (1, 1)], zero := [.nilptr, .slice [] .full] } := by kernel_rfl
theorem ti135 : ti Tryz.prog 135 = { has := true, sz := 1, bs := 8, kind := .func, elem := 0, len := 0, offs := [], zero := [.nilfn] } := by kernel_rfl
theorem ti136 : ti Tryz.prog 136 = { has := true, sz := 1, bs := 8, kind := .func, elem := 0, len := 0, offs := [], zero := [.nilfn] } := by kernel_rfl
theorem ti137 : ti Tryz.prog 137 = { has := true, sz := 1, bs := 8, kind := .func, elem := 0, len := 0, offs := [], zero := [.nilfn] } := by kernel_rfl
theorem ti138 : ti Tryz.prog 138 = { has := true, sz := 1, bs := 8, kind := .func, elem := 0, len := 0, offs := [], zero := [.nilfn] } := by kernel_rfl
theorem ti139 : ti Tryz.prog 139 = { has := true, sz := 1, bs := 8, kind := .func, elem := 0, len := 0, offs := [], zero := [.nilfn] } := by kernel_rfl
theorem ti140 : ti Tryz.prog 140 = { has := true, sz := 1, bs := 8, kind := .ptr, elem := 43, len := 0, offs := [], zero := [.nilptr] } := by kernel_rfl
theorem ti141 : ti Tryz.prog 141 = { has := true, sz := 1, bs := 8, kind := .func, elem := 0, len := 0, offs := [], zero := [.nilfn] } := by kernel_rfl
theorem ti142 : ti Tryz.prog 142 = { has := true, sz := 1, bs := 8, kind := .func, elem := 0, len := 0, offs := [], zero := [.nilfn] } := by kernel_rfl
theorem ti143 : ti Tryz.prog 143 = { has := true, sz := 1, bs := 8, kind := .func, elem := 0, len := 0, offs := [], zero := [.nilfn] } := by kernel_rfl
theorem ti144 : ti Tryz.prog 144 = { has := true, sz := 1, bs := 8, kind := .int .u64, elem := 0, len := 0, offs := [], zero := [.int .u64 0] } := by kernel_rfl
theorem ti145 : ti Tryz.prog 145 = { has := true, sz := 1, bs := 8, kind := .int .i64, elem := 0, len := 0, offs := [], zero := [.int .i64 0] } := by kernel_rfl
theorem ti147 : ti Tryz.prog 147 = { has := true, sz := 1, bs := 8, kind := .func, elem := 0, len := 0, offs := [], zero := [.nilfn] } := by kernel_rfl
theorem ti148 : ti Tryz.prog 148 = { has := true, sz := 1, bs := 8, kind := .ptr, elem := 170, len := 0, offs := [], zero := [.nilptr] } := by kernel_rfl
theorem ti149 : ti Tryz.prog 149 = { has := true, sz := 1, bs := 8, kind := .func, elem := 0, len := 0, offs := [], zero := [.nilfn] } := by kernel_rfl
theorem ti150 : ti Tryz.prog 150 = { has := true, sz := 1, bs := 8, kind := .func, elem := 0, len := 0, offs := [], zero := [.nilfn] } := by kernel_rfl
theorem ti151 : ti Tryz.prog 151 = { has := true, sz := 1, bs := 8, kind := .func, elem := 0, len := 0, offs := [], zero := [.nilfn] } := by kernel_rfl
theorem ti153 : ti Tryz.prog 153 = { has := true, sz := 1, bs := 8, kind := .func, elem := 0, len := 0, offs := [], zero := [.nilfn] } := by kernel_rfl
theorem ti154 : ti Tryz.prog 154 = { has := true, sz := 1, bs := 8, kind := .func, elem := 0, len := 0, offs := [], zero := [.nilfn] } := by kernel_rfl
theorem ti155 : ti Tryz.prog 155 = { has := true, sz := 1, bs := 8, kind := .func, elem := 0, len := 0, offs := [], zero := [.nilfn] } := by kernel_rfl
theorem ti156 : ti Tryz.prog 156 = { has := true, sz := 64, bs := 256, kind := .arr, elem := 129, len := 64, offs := [], zero := [.int .u32 0, .int .u32 0, .int .u32 0, .int .u32 0, .int .u32 0, .int .u32 0, .int .u32 0, .int .u32 0, .int .u32 0, .int .u32 0, .int .u32 0, .int .u32 0, .int .u32 0, .int .u32 0, .int .u32 0, .int .u32 0, .int .u32 0, .int .u32 0, .int .u32 0, .int .u32 0, .int .u32 0, .int .u32 0, .int .u32 0, .int .u32 0, .int .u32 0, .int .u32 0, .int .u32 0, .int .u32 0, .int .u32 0, .int .u32 0, .int .u32 0, .int .u32 0, .int .u32 0, .int .u32 0, .int .u32 0, .int .u32 0, .int .u32 0, .int .u32 0, .int .u32 0, .int .u32 0, .int .u32 0, .int .u32 0, .int .u32 0, .int .u32 0, .int .u32 0, .int .u32 0, .int .u32 0, .int .u32 0, .int .u32 0, .int .u32 0, .int .u32 0, .int .u32 0, .int .u32 0, .int .u32 0, .int .u32 0, .int .u32 0, .int .u32 0, .int .u32 0, .int .u32 0, .int .u32 0, .int .u32 0, .int .u32 0, .int .u32 0, .int .u32 0] } := by kernel_rfl
theorem ti157 : ti Tryz.prog 157 = { has := true, sz := 1, bs := 8, kind := .func, elem := 0, len := 0, offs := [], zero := [.nilfn] } := by kernel_rfl
theorem ti158 : ti Tryz.prog 158 = { has := true, sz := 1, bs := 8, kind := .ptr, elem := 5, len := 0, offs := [], zero := [.nilptr] } := by kernel_rfl
theorem ti159 : ti Tryz.prog 159 = { has := true, sz := 1, bs := 8, kind := .func, elem := 0, len := 0, offs := [], zero := [.nilfn] } := by kernel_rfl
theorem ti161 : ti Tryz.prog 161 = { has := true, sz := 1, bs := 8, kind := .func, elem := 0, len := 0, offs := [], zero := [.nilfn] } := by kernel_rfl
theorem ti162 : ti Tryz.prog 162 = { has := true, sz := 1, bs := 8, kind := .func, elem := 0, len := 0, offs := [], zero := [.nilfn] } := by kernel_rfl
theorem ti163 : ti Tryz.prog 163 = { has := true, sz := 1, bs := 8, kind := .func, elem := 0, len := 0, offs := [], zero := [.nilfn] } := by kernel_rfl
theorem ti164 : ti Tryz.prog 164 = { has := true, sz := 1, bs := 8, kind := .func, elem := 0, len := 0, offs := [], zero := [.nilfn] } := by kernel_rfl
theorem ti166 : ti Tryz.prog 166 = { has := true, sz := 1, bs := 8, kind := .func, elem := 0, len := 0, offs := [], zero := [.nilfn] } := by kernel_rfl
theorem ti168 : ti Tryz.prog 168 = { has := true, sz := 1, bs := 8, kind := .func, elem := 0, len := 0, offs := [], zero := [.nilfn] } := by kernel_rfl
theorem ti169 : ti Tryz.prog 169 = { has := true, sz := 3, bs := 48, kind := .struct, elem := 0, len := 0, offs := [(0, 1), (1, 1), (2, 1)], zero := [.str [], .str [], .nilif] } := by kernel_rfl
theorem ti170 : ti Tryz.prog 170 = { has := true, sz := 3, bs := 48, kind := .struct, elem := 0, len := 0, offs := [(0, 1), (1, 1), (2, 1)], zero := [.str [], .str [], .nilif] } := by kernel_rfl
theorem ti171 : ti Tryz.prog 171 = { has := true, sz := 1, bs := 8, kind := .func, elem := 0, len := 0, offs := [], zero := [.nilfn] } := by kernel_rfl
theorem ti172 : ti Tryz.prog 172 = { has := true, sz := 24, bs := 24, kind := .arr, elem := 5, len := 24, offs := [], zero := [.int .u8 0, .int .u8 0, .int .u8 0, .int .u8 0, .int .u8 0, .int .u8 0, .int .u8 0, .int .u8 0, .int .u8 0, .int .u8 0, .int .u8 0, .int .u8 0, .int .u8 0, .int .u8 0, .int .u8 0, .int .u8 0, .int .u8 0, .int .u8 0, .int .u8 0, .int .u8 0, .int .u8 0, .int .u8 0, .int .u8 0, .int .u8 0] } := by kernel_rfl
theorem ti173 : ti Tryz.prog 173 = { has := true, sz := 1, bs := 8, kind := .func, elem := 0, len := 0, offs := [], zero := [.nilfn] } := by kernel_rfl
theorem ti174 : ti Tryz.prog 174 = { has := true, sz := 1, bs := 8, kind := .func, elem := 0, len := 0, offs := [], zero := [.nilfn] } := by kernel_rfl
theorem ti176 : ti Tryz.prog 176 = { has := true, sz := 1, bs := 8, kind := .func, elem := 0, len := 0, offs := [], zero := [.nilfn] } := by kernel_rfl
theorem ti177 : ti Tryz.prog 177 = { has := true, sz := 1, bs := 8, kind := .func, elem := 0, len := 0, offs := [], zero := [.nilfn] } := by kernel_rfl
theorem ti179 : ti Tryz.prog 179 = { has := true, sz := 1, bs := 8, kind := .func, elem := 0, len := 0, offs := [], zero := [.nilfn] } := by kernel_rfl
theorem ti180 : ti Tryz.prog 180 = { has := true, sz := 1, bs := 8, kind := .other, elem := 0, len := 0, offs := [], zero := [.nilptr] } := by kernel_rfl
theorem ti181 : ti Tryz.prog 181 = { has := true, sz := 1, bs := 8, kind := .func, elem := 0, len := 0, offs := [], zero := [.nilfn] } := by kernel_rfl
theorem ti182 : ti Tryz.prog 182 = { has := true, sz := 1, bs := 8, kind := .func, elem := 0, len := 0, offs := [], zero := [.nilfn] } := by kernel_rfl
theorem ti183 : ti Tryz.prog 183 = { has := true, sz := 1, bs := 8, kind := .func, elem := 0, len := 0, offs := [], zero := [.nilfn] } := by kernel_rfl
theorem ti184 : ti Tryz.prog 184 = { has := true, sz := 1, bs := 8, kind := .ptr, elem := 186, len := 0, offs := [], zero := [.nilptr] } := by kernel_rfl
theorem ti185 : ti Tryz.prog 185 = { has := true, sz := 1, bs := 16, kind := .struct, elem := 0, len := 0, offs := [(0, 1)], zero := [.str []] } := by kernel_rfl
theorem ti186 : ti Tryz.prog 186 = { has := true, sz := 1, bs := 16, kind := .struct, elem := 0, len := 0, offs := [(0, 1)], zero := [.str []] } := by kernel_rfl
theorem ti187 : ti Tryz.prog 187 = { has := true, sz := 1, bs := 8, kind := .func, elem := 0, len := 0, offs := [], zero := [.nilfn] } := by kernel_rfl
theorem ti188 : ti Tryz.prog 188 = { has := true, sz := 20, bs := 160, kind := .arr, elem := 127, len := 20, offs := [], zero := [.int .u64 0, .int .u64 0, .int .u64 0, .int .u64 0, .int .u64 0, .int .u64 0, .int .u64 0, .int .u64 0, .int .u64 0, .int .u64 0, .int .u64 0, .int .u64 0, .int .u64 0, .int .u64 0, .int .u64 0, .int .u64 0, .int .u64 0, .int .u64 0, .int .u64 0, .int .u64 0] } := by kernel_rfl
theorem ti189 : ti Tryz.prog 189 = { has := true, sz := 65, bs := 65, kind := .arr, elem := 5, len := 65, offs := [], zero := [.int .u8 0, .int .u8 0, .int .u8 0, .int .u8 0, .int .u8 0, .int .u8 0, .int .u8 0, .int .u8 0, .int .u8 0, .int .u8 0, .int .u8 0, .int .u8 0, .int .u8 0, .int .u8 0, .int .u8 0, .int .u8 0, .int .u8 0, .int .u8 0, .int .u8 0, .int .u8 0, .int .u8 0, .int .u8 0, .int .u8 0, .int .u8 0, .int .u8 0, .int .u8 0, .int .u8 0, .int .u8 0, .int .u8 0, .int .u8 0, .int .u8 0, .int .u8 0, .int .u8 0, .int .u8 0, .int .u8 0, .int .u8 0, .int .u8 0, .int .u8 0, .int .u8 0, .int .u8 0, .int .u8 0, .int .u8 0, .int .u8 0, .int .u8 0, .int .u8 0, .int .u8 0, .int .u8 0, .int .u8 0, .int .u8 0, .int .u8 0, .int .u8 0, .int .u8 0, .int .u8 0, .int .u8 0, .int .u8 0, .int .u8 0, .int .u8 0, .int .u8 0, .int .u8 0, .int .u8 0, .int .u8 0, .int .u8 0, .int .u8 0, .int .u8 0, .int .u8 0] } := by kernel_rfl
theorem ti190 : ti Tryz.prog 190 = { has := true, sz := 1, bs := 8, kind := .func, elem := 0, len := 0, offs := [], zero := [.nilfn] } := by kernel_rfl
theorem ti191 : ti Tryz.prog 191 = { has := true, sz := 1, bs := 8, kind := .func, elem := 0, len := 0, offs := [], zero := [.nilfn] } := by kernel_rfl
theorem ti192 : ti Tryz.prog 192 = { has := true, sz := 256, bs := 256, kind := .arr, elem := 5, len := 256, offs := [], zero := [.int .u8 0, .int .u8 0, .int .u8 0, .int .u8 0, .int .u8 0, .int .u8 0, .int .u8 0, .int .u8 0, .int .u8 0, .int .u8 0, .int .u8 0, .int .u8 0, .int .u8 0, .int .u8 0, .int .u8 0, .int .u8 0, .int .u8 0, .int .u8 0, .int .u8 0, .int .u8 0, .int .u8 0, .int .u8 0, .int .u8 0, .int .u8 0, .int .u8 0, .int .u8 0, .int .u8 0, .int .u8 0, .int .u8 0, .int .u8 0, .int .u8 0, .int .u8 0, .int .u8 0, .int .u8 0, .int .u8 0, .int .u8 0, .int .u8 0, .int .u8 0, .int .u8 0, .int .u8 0, .int .u8 0, .int .u8 0, .int .u8 0, .int .u8 0, .int .u8 0, .int .u8 0, .int .u8 0, .int .u8 0, .int .u8 0, .int .u8 0, .int .u8 0, .int .u8 0, .int .u8 0, .int .u8 0, .int .u8 0, .int .u8 0, .int .u8 0, .int .u8 0, .int .u8 0, .int .u8 0, .int .u8 0, .int .u8 0, .int .u8 0, .int .u8 0, .int .u8 0, .int .u8 0, .int .u8 0, .int .u8 0, .int .u8 0, .int .u8 0, .int .u8 0, .int .u8 0, .int .u8 0, .int .u8 0, .int .u8 0, .int .u8 0, .int .u8 0, .int .u8 0, .int .u8 0, .int .u8 0, .int .u8 0, .int .u8 0, .int .u8 0, .int .u8 0, .int .u8 0, .int .u8 0, .int .u8 0, .int .u8 0, .int .u8 0, .int .u8 0, .int .u8 0, .int .u8 0, .int .u8 0, .int .u8 0, .int .u8 0, .int .u8 0, .int .u8 0, .int .u8 0, .int .u8 0, .int .u8 0, .int .u8 0, .int .u8 0, .int .u8 0, .int .u8 0, .int .u8 0, .int .u8 0, .int .u8 0, .int .u8 0, .int .u8 0, .int .u8 0, .int .u8 0, .int .u8 0, .int .u8 0, .int .u8 0, .int .u8 0, .int .u8 0, .int .u8 0, .int .u8 0, .int .u8 0, .int .u8 0, .int .u8 0, .int .u8 0, .int .u8 0, .int .u8 0, .int .u8 0, .int .u8 0, .int .u8 0, .int .u8 0, .int .u8 0, .int .u8 0, .int .u8 0, .int .u8 0, .int .u8 0, .int .u8 0, .int .u8 0, .int .u8 0, .int .u8 0, .int .u8 0, .int .u8 0, .int .u8 0, .int .u8 0, .int .u8 0, .int .u8 0, .int .u8 0, .int .u8 0, .int .u8 0, .int .u8 0, .int .u8 0, .int .u8 0, .int .u8 0, .int .u8 0, .int .u8 0, .int .u8 0, .int .u8 0, .int .u8 0, .int .u8 0, .int .u8 0, .int .u8 0, .int .u8 0, .int .u8 0, .int .u8 0, .int .u8 0, .int .u8 0, .int .u8 0, .int .u8 0, .int .u8 0, .int .u8 0, .int .u8 0, .int .u8 0, .int .u8 0, .int .u8 0, .int .u8 0, .int .u8 0, .int .u8 0, .int .u8 0, .int .u8 0, .int .u8 0, .int .u8 0, .int .u8 0, .int .u8 0, .int .u8 0, .int .u8 0, .int .u8 0, .int .u8 0, .int .u8 0, .int .u8 0, .int .u8 0, .int .u8 0, .int .u8 0, .int .u8 0, .int .u8 0, .int .u8 0, .int .u8 0, .int .u8 0, .int .u8 0, .int .u8 0, .int .u8 0, .int .u8 0, .int .u8 0, .int .u8 0, .int .u8 0, .int .u8 0, .int .u8 0, .int .u8 0, .int .u8 0, .int .u8 0, .int .u8 0, .int .u8 0, .int .u8 0, .int .u8 0, .int .u8 0, .int .u8 0, .int .u8 0, .int .u8 0, .int .u8 0, .int .u8 0, .int .u8 0, .int .u8 0, .int .u8 0, .int .u8 0, .int .u8 0, .int .u8 0, .int .u8 0, .int .u8 0, .int .u8 0, .int .u8 0, .int .u8 0, .int .u8 0, .int .u8 0, .int .u8 0, .int .u8 0, .int .u8 0, .int .u8 0, .int .u8 0, .int .u8 0, .int .u8 0, .int .u8 0, .int .u8 0, .int .u8 0, .int .u8 0, .int .u8 0, .int .u8 0, .int .u8 0, .int .u8 0, .int .u8 0, .int .u8 0, .int .u8 0, .int .u8 0, .int .u8 0, .int .u8 0, .int .u8 0, .int .u8 0, .int .u8 0, .int .u8 0, .int .u8 0, .int .u8 0] } := by kernel_rfl
theorem ti193 : ti Tryz.prog 193 = { has := true, sz := 2, bs := 2, kind := .struct, elem := 0, len := 0, offs := [(0, 1), (1, 1)], zero := [.int .u8 0, .int .u8 0] } := by kernel_rfl
theorem ti194 : ti Tryz.prog 194 = { has := true, sz := 2, bs := 2, kind := .struct, elem := 0, len := 0, offs := [(0, 1), (1, 1)], zero := [.int .u8 0, .int .u8 0] } := by kernel_rfl
theorem ti195 : ti Tryz.prog 195 = { has := true, sz := 32, bs := 32, kind := .arr, elem := 194, len := 16, offs := [], zero := [.int .u8 0, .int .u8 0, .int .u8 0, .int .u8 0, .int .u8 0, .int .u8 0, .int .u8 0, .int .u8 0, .int .u8 0, .int .u8 0, .int .u8 0, .int .u8 0, .int .u8 0, .int .u8 0, .int .u8 0, .int .u8 0, .int .u8 0, .int .u8 0, .int .u8 0, .int .u8 0, .int .u8 0, .int .u8 0, .int .u8 0, .int .u8 0, .int .u8 0, .int .u8 0, .int .u8 0, .int .u8 0, .int .u8 0, .int .u8 0, .int .u8 0, .int .u8 0] } := by kernel_rfl
theorem ti196 : ti Tryz.prog 196 = { has := true, sz := 1, bs := 8, kind := .func, elem := 0, len := 0, offs := [], zero := [.nilfn] } := by kernel_rfl
theorem ti197 : ti Tryz.prog 197 = { has := true, sz := 1, bs := 8, kind := .func, elem := 0, len := 0, offs := [], zero := [.nilfn] } := by kernel_rfl
theorem ti198 : ti Tryz.prog 198 = { has := true, sz := 1, bs := 8, kind := .func, elem := 0, len := 0, offs := [], zero := [.nilfn] } := by kernel_rfl
theorem ti199 : ti Tryz.prog 199 = { has := true, sz := 32, bs := 32, kind := .arr, elem := 5, len := 32, offs := [], zero := [.int .u8 0, .int .u8 0, .int .u8 0, .int .u8 0, .int .u8 0, .int .u8 0, .int .u8 0, .int .u8 0, .int .u8 0, .int .u8 0, .int .u8 0, .int .u8 0, .int .u8 0, .int .u8 0, .int .u8 0, .int .u8 0, .int .u8 0, .int .u8 0, .int .u8 0, .int .u8 0, .int .u8 0, .int .u8 0, .int .u8 0, .int .u8 0, .int .u8 0, .int .u8 0, .int .u8 0, .int .u8 0, .int .u8 0, .int .u8 0, .int .u8 0, .int .u8 0] } := by kernel_rfl
theorem ti200 : ti Tryz.prog 200 = { has := true, sz := 64, bs := 64, kind := .arr, elem := 5, len := 64, offs := [], zero := [.int .u8 0, .int .u8 0, .int .u8 0, .int .u8 0, .int .u8 0, .int .u8 0, .int .u8 0, .int .u8 0, .int .u8 0, .int .u8 0, .int .u8 0, .int .u8 0, .int .u8 0, .int .u8 0, .int .u8 0, .int .u8 0, .int .u8 0, .int .u8 0, .int .u8 0, .int .u8 0, .int .u8 0, .int .u8 0, .int .u8 0, .int .u8 0, .int .u8 0, .int .u8 0, .int .u8 0, .int .u8 0, .int .u8 0, .int .u8 0, .int .u8 0, .int .u8 0, .int .u8 0, .int .u8 0, .int .u8 0, .int .u8 0, .int .u8 0, .int .u8 0, .int .u8 0, .int .u8 0, .int .u8 0, .int .u8 0, .int .u8 0, .int .u8 0, .int .u8 0, .int .u8 0, .int .u8 0, .int .u8 0, .int .u8 0, .int .u8 0, .int .u8 0, .int .u8 0, .int .u8 0, .int .u8 0, .int .u8 0, .int .u8 0, .int .u8 0, .int .u8 0, .int .u8 0, .int .u8 0, .int .u8 0, .int .u8 0, .int .u8 0, .int .u8 0] } := by kernel_rfl
theorem ti201 : ti Tryz.prog 201 = { has := true, sz := 4, bs := 40, kind := .struct, elem := 0, len := 0, offs := [(0, 1), (1, 1), (2, 1), (3, 1)], zero := [.nilptr, .nilptr, .nilptr, .str []] } := by kernel_rfl
theorem ti202 : ti Tryz.prog 202 = { has := true, sz := 4, bs := 40, kind := .struct, elem := 0, len := 0, offs := [(0, 1), (1, 1), (2, 1), (3, 1)], zero := [.nilptr, .nilptr, .nilptr, .str []] } := by kernel_rfl
theorem ti203 : ti Tryz.prog 203 = { has := true, sz := 0, bs := 0, kind := .arr, elem := 16, len := 0, offs := [], zero := [] } := by kernel_rfl
theorem ti204 : ti Tryz.prog 204 = { has := true, sz := 0, bs := 0, kind := .struct, elem := 0, len := 0, offs := [(0, 0)], zero := [] } := by kernel_rfl
theorem ti205 : ti Tryz.prog 205 = { has := true, sz := 0, bs := 0, kind := .struct, elem := 0, len := 0, offs := [(0, 0)], zero := [] } := by kernel_rfl
theorem ti206 : ti Tryz.prog 206 = { has := true, sz := 1, bs := 1, kind := .int .u8, elem := 0, len := 0, offs := [], zero := [.int .u8 0] } := by kernel_rfl
theorem ti207 : ti Tryz.prog 207 = { has := true, sz := 1, bs := 1, kind := .int .u8, elem := 0, len := 0, offs := [], zero := [.int .u8 0] } := by kernel_rfl
theorem ti208 : ti Tryz.prog 208 = { has := true, sz := 1, bs := 8, kind := .func, elem := 0, len := 0, offs := [], zero := [.nilfn] } := by kernel_rfl
theorem ti209 : ti Tryz.prog 209 = { has := true, sz := 1, bs := 4, kind := .int .i32, elem := 0, len := 0, offs := [], zero := [.int .i32 0] } := by kernel_rfl
theorem ti210 : ti Tryz.prog 210 = { has := true, sz := 1, bs := 4, kind := .int .i32, elem := 0, len := 0, offs := [], zero := [.int .i32 0] } := by kernel_rfl
theorem ti211 : ti Tryz.prog 211 = { has := true, sz := 11, bs := 48, kind := .struct, elem := 0, len := 0, offs := [(0, 1), (1, 1), (2, 1), (3, 1), (4, 1), (5, 1), (6, 1), (7, 1), (8, 1), (9, 1), (10, 1)], zero := [.int .u64 0, .int .u64 0, .int .u32 0, .int .u8 0, .int .u8 0, .int .u8 0, .int .u8 0, .nilfn, .nilptr, .int .i32 0, .int .i32 0] } := by kernel_rfl
theorem ti212 : ti Tryz.prog 212 = { has := true, sz := 11, bs := 48, kind := .struct, elem := 0, len := 0, offs := [(0, 1), (1, 1), (2, 1), (3, 1), (4, 1), (5, 1), (6, 1), (7, 1), (8, 1), (9, 1), (10, 1)], zero := [.int .u64 0, .int .u64 0, .int .u32 0, .int .u8 0, .int .u8 0, .int .u8 0, .int .u8 0, .nilfn, .nilptr, .int .i32 0, .int .i32 0] } := by kernel_rfl
theorem ti213 : ti Tryz.prog 213 = { has := true, sz := 1, bs := 8, kind := .func, elem := 0, len := 0, offs := [], zero := [.nilfn] } := by kernel_rfl

attribute [push_cast] ti2 ti3 ti4 ti5 ti6 ti7 ti8 ti9 ti10 ti11 ti12 ti13 ti14 ti18 ti19 ti20 ti21 ti22 ti23 ti26 ti27 ti28 ti33 ti40 ti41 ti42 ti43 ti48 ti49 ti50 ti58 ti59 ti64 ti65 ti72 ti73 ti74 ti84 ti85 ti112 ti113 ti127 ti129 ti130 ti133 ti134 ti144 ti145 ti156 ti169 ti170 ti172 ti185 ti186 ti188 ti189 ti192 ti193 ti194 ti195 ti199 ti200 ti201 ti202 ti203 ti204 ti205 ti206 ti207 ti209 ti210 ti211 ti212
end Go.Proofs.YthopahcgbbkblaaGreatDoor
