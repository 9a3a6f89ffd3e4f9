/- The program's types, each read off once. -/
import Derived.Test.YtcmpcpigchlhpaaDoorEd
import Derived.Test.YtcmpcpigchlhpaaDoorProg

namespace Go.Proofs.YtcmpcpigchlhpaaDoor
open Go.Av
set_option maxRecDepth 10000

theorem mixed : Tryd.prog.follows .mixedOrders = true := rfl
theorem ti1 : ti Tryd.prog 1 = { has := true, sz := 1, bs := 8, kind := .func, elem := 0, len := 0, offs := [], zero := [.nilfn] } := by kernel_rfl
theorem ti2 : ti Tryd.prog 2 = { has := true, sz := 1, bs := 8, kind := .int .i64, elem := 0, len := 0, offs := [], zero := [.int .i64 0] } := by kernel_rfl
theorem ti3 : ti Tryd.prog 3 = { has := true, sz := 1, bs := 8, kind := .int .i64, elem := 0, len := 0, offs := [], zero := [.int .i64 0] } := by kernel_rfl
theorem ti4 : ti Tryd.prog 4 = { has := true, sz := 1, bs := 1, kind := .bool, elem := 0, len := 0, offs := [], zero := [.bool false] } := by kernel_rfl
theorem ti5 : ti Tryd.prog 5 = { has := true, sz := 1, bs := 1, kind := .int .u8, elem := 0, len := 0, offs := [], zero := [.int .u8 0] } := by kernel_rfl
theorem ti6 : ti Tryd.prog 6 = { has := true, sz := 1, bs := 1, kind := .int .u8, elem := 0, len := 0, offs := [], zero := [.int .u8 0] } := by kernel_rfl
theorem ti7 : ti Tryd.prog 7 = { has := true, sz := 4, bs := 24, kind := .struct, elem := 0, len := 0, offs := [(0, 1), (1, 1), (2, 1), (3, 1)], zero := [.int .i64 0, .int .i64 0, .bool false, .int .u8 0] } := by kernel_rfl
theorem ti8 : ti Tryd.prog 8 = { has := true, sz := 4, bs := 24, kind := .struct, elem := 0, len := 0, offs := [(0, 1), (1, 1), (2, 1), (3, 1)], zero := [.int .i64 0, .int .i64 0, .bool false, .int .u8 0] } := by kernel_rfl
theorem ti9 : ti Tryd.prog 9 = { has := true, sz := 1, bs := 16, kind := .str, elem := 0, len := 0, offs := [], zero := [.str []] } := by kernel_rfl
theorem ti10 : ti Tryd.prog 10 = { has := true, sz := 1, bs := 16, kind := .str, elem := 0, len := 0, offs := [], zero := [.str []] } := by kernel_rfl
theorem ti11 : ti Tryd.prog 11 = { has := true, sz := 1, bs := 16, kind := .str, elem := 0, len := 0, offs := [], zero := [.str []] } := by kernel_rfl
theorem ti12 : ti Tryd.prog 12 = { has := true, sz := 1, bs := 8, kind := .int .u64, elem := 0, len := 0, offs := [], zero := [.int .u64 0] } := by kernel_rfl
theorem ti13 : ti Tryd.prog 13 = { has := true, sz := 2, bs := 24, kind := .struct, elem := 0, len := 0, offs := [(0, 1), (1, 1)], zero := [.str [], .int .u64 0] } := by kernel_rfl
theorem ti14 : ti Tryd.prog 14 = { has := true, sz := 2, bs := 24, kind := .struct, elem := 0, len := 0, offs := [(0, 1), (1, 1)], zero := [.str [], .int .u64 0] } := by kernel_rfl
theorem ti15 : ti Tryd.prog 15 = { has := true, sz := 1, bs := 8, kind := .ptr, elem := 129, len := 0, offs := [], zero := [.nilptr] } := by kernel_rfl
theorem ti16 : ti Tryd.prog 16 = { has := true, sz := 1, bs := 8, kind := .ptr, elem := 132, len := 0, offs := [], zero := [.nilptr] } := by kernel_rfl
theorem ti17 : ti Tryd.prog 17 = { has := true, sz := 1, bs := 8, kind := .ptr, elem := 139, len := 0, offs := [], zero := [.nilptr] } := by kernel_rfl
theorem ti18 : ti Tryd.prog 18 = { has := true, sz := 1, bs := 8, kind := .struct, elem := 0, len := 0, offs := [(0, 1)], zero := [.nilptr] } := by kernel_rfl
theorem ti19 : ti Tryd.prog 19 = { has := true, sz := 1, bs := 8, kind := .struct, elem := 0, len := 0, offs := [(0, 1)], zero := [.nilptr] } := by kernel_rfl
theorem ti20 : ti Tryd.prog 20 = { has := true, sz := 1, bs := 16, kind := .iface, elem := 0, len := 0, offs := [], zero := [.nilif] } := by kernel_rfl
theorem ti21 : ti Tryd.prog 21 = { has := true, sz := 1, bs := 4, kind := .int .i32, elem := 0, len := 0, offs := [], zero := [.int .i32 0] } := by kernel_rfl
theorem ti22 : ti Tryd.prog 22 = { has := true, sz := 1, bs := 24, kind := .slice, elem := 5, len := 0, offs := [], zero := [.slice [] .full] } := by kernel_rfl
theorem ti23 : ti Tryd.prog 23 = { has := true, sz := 1, bs := 8, kind := .func, elem := 0, len := 0, offs := [], zero := [.nilfn] } := by kernel_rfl
theorem ti24 : ti Tryd.prog 24 = { has := true, sz := 1, bs := 24, kind := .slice, elem := 9, len := 0, offs := [], zero := [.slice [] .full] } := by kernel_rfl
theorem ti26 : ti Tryd.prog 26 = { has := true, sz := 1, bs := 8, kind := .func, elem := 0, len := 0, offs := [], zero := [.nilfn] } := by kernel_rfl
theorem ti27 : ti Tryd.prog 27 = { has := true, sz := 1, bs := 8, kind := .func, elem := 0, len := 0, offs := [], zero := [.nilfn] } := by kernel_rfl
theorem ti28 : ti Tryd.prog 28 = { has := true, sz := 1, bs := 8, kind := .func, elem := 0, len := 0, offs := [], zero := [.nilfn] } := by kernel_rfl
theorem ti29 : ti Tryd.prog 29 = { has := true, sz := 1, bs := 8, kind := .func, elem := 0, len := 0, offs := [], zero := [.nilfn] } := by kernel_rfl
theorem ti31 : ti Tryd.prog 31 = { has := true, sz := 1, bs := 8, kind := .func, elem := 0, len := 0, offs := [], zero := [.nilfn] } := by kernel_rfl
theorem ti33 : ti Tryd.prog 33 = { has := true, sz := 1, bs := 8, kind := .func, elem := 0, len := 0, offs := [], zero := [.nilfn] } := by kernel_rfl
theorem ti34 : ti Tryd.prog 34 = { has := true, sz := 1, bs := 8, kind := .func, elem := 0, len := 0, offs := [], zero := [.nilfn] } := by kernel_rfl
theorem ti35 : ti Tryd.prog 35 = { has := true, sz := 1, bs := 8, kind := .func, elem := 0, len := 0, offs := [], zero := [.nilfn] } := by kernel_rfl
theorem ti37 : ti Tryd.prog 37 = { has := true, sz := 1, bs := 8, kind := .func, elem := 0, len := 0, offs := [], zero := [.nilfn] } := by kernel_rfl
theorem ti38 : ti Tryd.prog 38 = { has := true, sz := 1, bs := 8, kind := .func, elem := 0, len := 0, offs := [], zero := [.nilfn] } := by kernel_rfl
theorem ti39 : ti Tryd.prog 39 = { has := true, sz := 1, bs := 8, kind := .func, elem := 0, len := 0, offs := [], zero := [.nilfn] } := by kernel_rfl
theorem ti40 : ti Tryd.prog 40 = { has := true, sz := 1, bs := 8, kind := .ptr, elem := 56, len := 0, offs := [], zero := [.nilptr] } := by kernel_rfl
theorem ti41 : ti Tryd.prog 41 = { has := true, sz := 1, bs := 8, kind := .func, elem := 0, len := 0, offs := [], zero := [.nilfn] } := by kernel_rfl
theorem ti43 : ti Tryd.prog 43 = { has := true, sz := 1, bs := 8, kind := .func, elem := 0, len := 0, offs := [], zero := [.nilfn] } := by kernel_rfl
theorem ti45 : ti Tryd.prog 45 = { has := true, sz := 1, bs := 8, kind := .func, elem := 0, len := 0, offs := [], zero := [.nilfn] } := by kernel_rfl
theorem ti46 : ti Tryd.prog 46 = { has := true, sz := 1, bs := 8, kind := .func, elem := 0, len := 0, offs := [], zero := [.nilfn] } := by kernel_rfl
theorem ti47 : ti Tryd.prog 47 = { has := true, sz := 1, bs := 8, kind := .func, elem := 0, len := 0, offs := [], zero := [.nilfn] } := by kernel_rfl
theorem ti48 : ti Tryd.prog 48 = { has := true, sz := 1, bs := 8, kind := .func, elem := 0, len := 0, offs := [], zero := [.nilfn] } := by kernel_rfl
theorem ti50 : ti Tryd.prog 50 = { has := true, sz := 1, bs := 8, kind := .func, elem := 0, len := 0, offs := [], zero := [.nilfn] } := by kernel_rfl
theorem ti51 : ti Tryd.prog 51 = { has := true, sz := 1, bs := 8, kind := .func, elem := 0, len := 0, offs := [], zero := [.nilfn] } := by kernel_rfl
theorem ti52 : ti Tryd.prog 52 = { has := true, sz := 1, bs := 8, kind := .func, elem := 0, len := 0, offs := [], zero := [.nilfn] } := by kernel_rfl
theorem ti53 : ti Tryd.prog 53 = { has := true, sz := 1, bs := 8, kind := .func, elem := 0, len := 0, offs := [], zero := [.nilfn] } := by kernel_rfl
theorem ti54 : ti Tryd.prog 54 = { has := true, sz := 1, bs := 24, kind := .slice, elem := 3, len := 0, offs := [], zero := [.slice [] .full] } := by kernel_rfl
theorem ti55 : ti Tryd.prog 55 = { has := true, sz := 2, bs := 32, kind := .struct, elem := 0, len := 0, offs := [(0, 1), (1, 1)], zero := [.slice [] .full, .int .i64 0] } := by kernel_rfl
theorem ti56 : ti Tryd.prog 56 = { has := true, sz := 2, bs := 32, kind := .struct, elem := 0, len := 0, offs := [(0, 1), (1, 1)], zero := [.slice [] .full, .int .i64 0] } := by kernel_rfl
theorem ti57 : ti Tryd.prog 57 = { has := true, sz := 1, bs := 16, kind := .iface, elem := 0, len := 0, offs := [], zero := [.nilif] } := by kernel_rfl
theorem ti58 : ti Tryd.prog 58 = { has := true, sz := 1, bs := 16, kind := .iface, elem := 0, len := 0, offs := [], zero := [.nilif] } := by kernel_rfl
theorem ti60 : ti Tryd.prog 60 = { has := true, sz := 1, bs := 8, kind := .func, elem := 0, len := 0, offs := [], zero := [.nilfn] } := by kernel_rfl
theorem ti61 : ti Tryd.prog 61 = { has := true, sz := 1, bs := 8, kind := .func, elem := 0, len := 0, offs := [], zero := [.nilfn] } := by kernel_rfl
theorem ti62 : ti Tryd.prog 62 = { has := true, sz := 1, bs := 8, kind := .func, elem := 0, len := 0, offs := [], zero := [.nilfn] } := by kernel_rfl
theorem ti64 : ti Tryd.prog 64 = { has := true, sz := 1, bs := 8, kind := .func, elem := 0, len := 0, offs := [], zero := [.nilfn] } := by kernel_rfl
theorem ti65 : ti Tryd.prog 65 = { has := true, sz := 1, bs := 8, kind := .func, elem := 0, len := 0, offs := [], zero := [.nilfn] } := by kernel_rfl
theorem ti66 : ti Tryd.prog 66 = { has := true, sz := 1, bs := 8, kind := .func, elem := 0, len := 0, offs := [], zero := [.nilfn] } := by kernel_rfl
theorem ti67 : ti Tryd.prog 67 = { has := true, sz := 1, bs := 8, kind := .int .u64, elem := 0, len := 0, offs := [], zero := [.int .u64 0] } := by kernel_rfl
theorem ti68 : ti Tryd.prog 68 = { has := true, sz := 1, bs := 4, kind := .int .u32, elem := 0, len := 0, offs := [], zero := [.int .u32 0] } := by kernel_rfl
theorem ti69 : ti Tryd.prog 69 = { has := true, sz := 8, bs := 32, kind := .arr, elem := 68, len := 8, offs := [], zero := [.int .u32 0, .int .u32 0, .int .u32 0, .int .u32 0, .int .u32 0, .int .u32 0, .int .u32 0, .int .u32 0] } := by kernel_rfl
theorem ti70 : ti Tryd.prog 70 = { has := true, sz := 1, bs := 8, kind := .func, elem := 0, len := 0, offs := [], zero := [.nilfn] } := by kernel_rfl
theorem ti71 : ti Tryd.prog 71 = { has := true, sz := 1, bs := 8, kind := .ptr, elem := 73, len := 0, offs := [], zero := [.nilptr] } := by kernel_rfl
theorem ti72 : ti Tryd.prog 72 = { has := true, sz := 2, bs := 32, kind := .struct, elem := 0, len := 0, offs := [(0, 1), (1, 1)], zero := [.nilptr, .slice [] .full] } := by kernel_rfl
theorem ti73 : ti Tryd.prog 73 = { has := true, sz := 2, bs := 32, kind := .struct, elem := 0, len := 0, offs := [(0, 1), (1, 1)], zero := [.nilptr, .slice [] .full] } := by kernel_rfl
theorem ti74 : ti Tryd.prog 74 = { has := true, sz := 1, bs := 8, kind := .func, elem := 0, len := 0, offs := [], zero := [.nilfn] } := by kernel_rfl
theorem ti75 : ti Tryd.prog 75 = { has := true, sz := 1, bs := 8, kind := .func, elem := 0, len := 0, offs := [], zero := [.nilfn] } := by kernel_rfl
theorem ti76 : ti Tryd.prog 76 = { has := true, sz := 1, bs := 8, kind := .func, elem := 0, len := 0, offs := [], zero := [.nilfn] } := by kernel_rfl
theorem ti77 : ti Tryd.prog 77 = { has := true, sz := 1, bs := 8, kind := .func, elem := 0, len := 0, offs := [], zero := [.nilfn] } := by kernel_rfl
theorem ti78 : ti Tryd.prog 78 = { has := true, sz := 1, bs := 8, kind := .int .u64, elem := 0, len := 0, offs := [], zero := [.int .u64 0] } := by kernel_rfl
theorem ti79 : ti Tryd.prog 79 = { has := true, sz := 1, bs := 8, kind := .int .i64, elem := 0, len := 0, offs := [], zero := [.int .i64 0] } := by kernel_rfl
theorem ti81 : ti Tryd.prog 81 = { has := true, sz := 1, bs := 8, kind := .func, elem := 0, len := 0, offs := [], zero := [.nilfn] } := by kernel_rfl
theorem ti82 : ti Tryd.prog 82 = { has := true, sz := 1, bs := 8, kind := .ptr, elem := 101, len := 0, offs := [], zero := [.nilptr] } := by kernel_rfl
theorem ti83 : ti Tryd.prog 83 = { has := true, sz := 1, bs := 8, kind := .func, elem := 0, len := 0, offs := [], zero := [.nilfn] } := by kernel_rfl
theorem ti84 : ti Tryd.prog 84 = { has := true, sz := 1, bs := 8, kind := .func, elem := 0, len := 0, offs := [], zero := [.nilfn] } := by kernel_rfl
theorem ti85 : ti Tryd.prog 85 = { has := true, sz := 1, bs := 8, kind := .func, elem := 0, len := 0, offs := [], zero := [.nilfn] } := by kernel_rfl
theorem ti87 : ti Tryd.prog 87 = { has := true, sz := 1, bs := 8, kind := .func, elem := 0, len := 0, offs := [], zero := [.nilfn] } := by kernel_rfl
theorem ti88 : ti Tryd.prog 88 = { has := true, sz := 1, bs := 8, kind := .func, elem := 0, len := 0, offs := [], zero := [.nilfn] } := by kernel_rfl
theorem ti89 : ti Tryd.prog 89 = { has := true, sz := 1, bs := 8, kind := .func, elem := 0, len := 0, offs := [], zero := [.nilfn] } := by kernel_rfl
theorem ti90 : ti Tryd.prog 90 = { has := true, sz := 64, bs := 256, kind := .arr, elem := 68, len := 64, offs := [], zero := [.int .u32 0, .int .u32 0, .int .u32 0, .int .u32 0, .int .u32 0, .int .u32 0, .int .u32 0, .int .u32 0, .int .u32 0, .int .u32 0, .int .u32 0, .int .u32 0, .int .u32 0, .int .u32 0, .int .u32 0, .int .u32 0, .int .u32 0, .int .u32 0, .int .u32 0, .int .u32 0, .int .u32 0, .int .u32 0, .int .u32 0, .int .u32 0, .int .u32 0, .int .u32 0, .int .u32 0, .int .u32 0, .int .u32 0, .int .u32 0, .int .u32 0, .int .u32 0, .int .u32 0, .int .u32 0, .int .u32 0, .int .u32 0, .int .u32 0, .int .u32 0, .int .u32 0, .int .u32 0, .int .u32 0, .int .u32 0, .int .u32 0, .int .u32 0, .int .u32 0, .int .u32 0, .int .u32 0, .int .u32 0, .int .u32 0, .int .u32 0, .int .u32 0, .int .u32 0, .int .u32 0, .int .u32 0, .int .u32 0, .int .u32 0, .int .u32 0, .int .u32 0, .int .u32 0, .int .u32 0, .int .u32 0, .int .u32 0, .int .u32 0, .int .u32 0] } := by kernel_rfl
theorem ti91 : ti Tryd.prog 91 = { has := true, sz := 1, bs := 8, kind := .func, elem := 0, len := 0, offs := [], zero := [.nilfn] } := by kernel_rfl
theorem ti92 : ti Tryd.prog 92 = { has := true, sz := 1, bs := 8, kind := .ptr, elem := 5, len := 0, offs := [], zero := [.nilptr] } := by kernel_rfl
theorem ti93 : ti Tryd.prog 93 = { has := true, sz := 1, bs := 24, kind := .slice, elem := 68, len := 0, offs := [], zero := [.slice [] .full] } := by kernel_rfl
theorem ti94 : ti Tryd.prog 94 = { has := true, sz := 1, bs := 8, kind := .func, elem := 0, len := 0, offs := [], zero := [.nilfn] } := by kernel_rfl
theorem ti95 : ti Tryd.prog 95 = { has := true, sz := 1, bs := 8, kind := .func, elem := 0, len := 0, offs := [], zero := [.nilfn] } := by kernel_rfl
theorem ti97 : ti Tryd.prog 97 = { has := true, sz := 1, bs := 8, kind := .func, elem := 0, len := 0, offs := [], zero := [.nilfn] } := by kernel_rfl
theorem ti99 : ti Tryd.prog 99 = { has := true, sz := 1, bs := 8, kind := .func, elem := 0, len := 0, offs := [], zero := [.nilfn] } := by kernel_rfl
theorem ti100 : ti Tryd.prog 100 = { has := true, sz := 3, bs := 48, kind := .struct, elem := 0, len := 0, offs := [(0, 1), (1, 1), (2, 1)], zero := [.str [], .str [], .nilif] } := by kernel_rfl
theorem ti101 : ti Tryd.prog 101 = { has := true, sz := 3, bs := 48, kind := .struct, elem := 0, len := 0, offs := [(0, 1), (1, 1), (2, 1)], zero := [.str [], .str [], .nilif] } := by kernel_rfl
theorem ti102 : ti Tryd.prog 102 = { has := true, sz := 1, bs := 8, kind := .func, elem := 0, len := 0, offs := [], zero := [.nilfn] } := by kernel_rfl
theorem ti103 : ti Tryd.prog 103 = { has := true, sz := 24, bs := 24, kind := .arr, elem := 5, len := 24, offs := [], zero := [.int .u8 0, .int .u8 0, .int .u8 0, .int .u8 0, .int .u8 0, .int .u8 0, .int .u8 0, .int .u8 0, .int .u8 0, .int .u8 0, .int .u8 0, .int .u8 0, .int .u8 0, .int .u8 0, .int .u8 0, .int .u8 0, .int .u8 0, .int .u8 0, .int .u8 0, .int .u8 0, .int .u8 0, .int .u8 0, .int .u8 0, .int .u8 0] } := by kernel_rfl
theorem ti104 : ti Tryd.prog 104 = { has := true, sz := 1, bs := 8, kind := .func, elem := 0, len := 0, offs := [], zero := [.nilfn] } := by kernel_rfl
theorem ti105 : ti Tryd.prog 105 = { has := true, sz := 1, bs := 8, kind := .func, elem := 0, len := 0, offs := [], zero := [.nilfn] } := by kernel_rfl
theorem ti107 : ti Tryd.prog 107 = { has := true, sz := 1, bs := 8, kind := .func, elem := 0, len := 0, offs := [], zero := [.nilfn] } := by kernel_rfl
theorem ti108 : ti Tryd.prog 108 = { has := true, sz := 1, bs := 8, kind := .func, elem := 0, len := 0, offs := [], zero := [.nilfn] } := by kernel_rfl
theorem ti110 : ti Tryd.prog 110 = { has := true, sz := 1, bs := 8, kind := .func, elem := 0, len := 0, offs := [], zero := [.nilfn] } := by kernel_rfl
theorem ti111 : ti Tryd.prog 111 = { has := true, sz := 1, bs := 8, kind := .other, elem := 0, len := 0, offs := [], zero := [.nilptr] } := by kernel_rfl
theorem ti112 : ti Tryd.prog 112 = { has := true, sz := 1, bs := 8, kind := .func, elem := 0, len := 0, offs := [], zero := [.nilfn] } := by kernel_rfl
theorem ti113 : ti Tryd.prog 113 = { has := true, sz := 1, bs := 8, kind := .func, elem := 0, len := 0, offs := [], zero := [.nilfn] } := by kernel_rfl
theorem ti114 : ti Tryd.prog 114 = { has := true, sz := 1, bs := 8, kind := .func, elem := 0, len := 0, offs := [], zero := [.nilfn] } := by kernel_rfl
theorem ti115 : ti Tryd.prog 115 = { has := true, sz := 1, bs := 8, kind := .func, elem := 0, len := 0, offs := [], zero := [.nilfn] } := by kernel_rfl
theorem ti116 : ti Tryd.prog 116 = { has := true, sz := 1, bs := 8, kind := .ptr, elem := 118, len := 0, offs := [], zero := [.nilptr] } := by kernel_rfl
theorem ti117 : ti Tryd.prog 117 = { has := true, sz := 1, bs := 16, kind := .struct, elem := 0, len := 0, offs := [(0, 1)], zero := [.str []] } := by kernel_rfl
theorem ti118 : ti Tryd.prog 118 = { has := true, sz := 1, bs := 16, kind := .struct, elem := 0, len := 0, offs := [(0, 1)], zero := [.str []] } := by kernel_rfl
theorem ti119 : ti Tryd.prog 119 = { has := true, sz := 1, bs := 8, kind := .func, elem := 0, len := 0, offs := [], zero := [.nilfn] } := by kernel_rfl
theorem ti120 : ti Tryd.prog 120 = { has := true, sz := 20, bs := 160, kind := .arr, elem := 67, len := 20, offs := [], zero := [.int .u64 0, .int .u64 0, .int .u64 0, .int .u64 0, .int .u64 0, .int .u64 0, .int .u64 0, .int .u64 0, .int .u64 0, .int .u64 0, .int .u64 0, .int .u64 0, .int .u64 0, .int .u64 0, .int .u64 0, .int .u64 0, .int .u64 0, .int .u64 0, .int .u64 0, .int .u64 0] } := by kernel_rfl
theorem ti121 : ti Tryd.prog 121 = { has := true, sz := 65, bs := 65, kind := .arr, elem := 5, len := 65, offs := [], zero := [.int .u8 0, .int .u8 0, .int .u8 0, .int .u8 0, .int .u8 0, .int .u8 0, .int .u8 0, .int .u8 0, .int .u8 0, .int .u8 0, .int .u8 0, .int .u8 0, .int .u8 0, .int .u8 0, .int .u8 0, .int .u8 0, .int .u8 0, .int .u8 0, .int .u8 0, .int .u8 0, .int .u8 0, .int .u8 0, .int .u8 0, .int .u8 0, .int .u8 0, .int .u8 0, .int .u8 0, .int .u8 0, .int .u8 0, .int .u8 0, .int .u8 0, .int .u8 0, .int .u8 0, .int .u8 0, .int .u8 0, .int .u8 0, .int .u8 0, .int .u8 0, .int .u8 0, .int .u8 0, .int .u8 0, .int .u8 0, .int .u8 0, .int .u8 0, .int .u8 0, .int .u8 0, .int .u8 0, .int .u8 0, .int .u8 0, .int .u8 0, .int .u8 0, .int .u8 0, .int .u8 0, .int .u8 0, .int .u8 0, .int .u8 0, .int .u8 0, .int .u8 0, .int .u8 0, .int .u8 0, .int .u8 0, .int .u8 0, .int .u8 0, .int .u8 0, .int .u8 0] } := by kernel_rfl
theorem ti122 : ti Tryd.prog 122 = { has := true, sz := 1, bs := 8, kind := .func, elem := 0, len := 0, offs := [], zero := [.nilfn] } := by kernel_rfl
theorem ti123 : ti Tryd.prog 123 = { has := true, sz := 1, bs := 8, kind := .func, elem := 0, len := 0, offs := [], zero := [.nilfn] } := by kernel_rfl
theorem ti124 : ti Tryd.prog 124 = { has := true, sz := 1, bs := 8, kind := .func, elem := 0, len := 0, offs := [], zero := [.nilfn] } := by kernel_rfl
theorem ti125 : ti Tryd.prog 125 = { has := true, sz := 1, bs := 8, kind := .func, elem := 0, len := 0, offs := [], zero := [.nilfn] } := by kernel_rfl
theorem ti126 : ti Tryd.prog 126 = { has := true, sz := 32, bs := 32, kind := .arr, elem := 5, len := 32, offs := [], zero := [.int .u8 0, .int .u8 0, .int .u8 0, .int .u8 0, .int .u8 0, .int .u8 0, .int .u8 0, .int .u8 0, .int .u8 0, .int .u8 0, .int .u8 0, .int .u8 0, .int .u8 0, .int .u8 0, .int .u8 0, .int .u8 0, .int .u8 0, .int .u8 0, .int .u8 0, .int .u8 0, .int .u8 0, .int .u8 0, .int .u8 0, .int .u8 0, .int .u8 0, .int .u8 0, .int .u8 0, .int .u8 0, .int .u8 0, .int .u8 0, .int .u8 0, .int .u8 0] } := by kernel_rfl
theorem ti127 : ti Tryd.prog 127 = { has := true, sz := 64, bs := 64, kind := .arr, elem := 5, len := 64, offs := [], zero := [.int .u8 0, .int .u8 0, .int .u8 0, .int .u8 0, .int .u8 0, .int .u8 0, .int .u8 0, .int .u8 0, .int .u8 0, .int .u8 0, .int .u8 0, .int .u8 0, .int .u8 0, .int .u8 0, .int .u8 0, .int .u8 0, .int .u8 0, .int .u8 0, .int .u8 0, .int .u8 0, .int .u8 0, .int .u8 0, .int .u8 0, .int .u8 0, .int .u8 0, .int .u8 0, .int .u8 0, .int .u8 0, .int .u8 0, .int .u8 0, .int .u8 0, .int .u8 0, .int .u8 0, .int .u8 0, .int .u8 0, .int .u8 0, .int .u8 0, .int .u8 0, .int .u8 0, .int .u8 0, .int .u8 0, .int .u8 0, .int .u8 0, .int .u8 0, .int .u8 0, .int .u8 0, .int .u8 0, .int .u8 0, .int .u8 0, .int .u8 0, .int .u8 0, .int .u8 0, .int .u8 0, .int .u8 0, .int .u8 0, .int .u8 0, .int .u8 0, .int .u8 0, .int .u8 0, .int .u8 0, .int .u8 0, .int .u8 0, .int .u8 0, .int .u8 0] } := by kernel_rfl
theorem ti128 : ti Tryd.prog 128 = { has := true, sz := 4, bs := 40, kind := .struct, elem := 0, len := 0, offs := [(0, 1), (1, 1), (2, 1), (3, 1)], zero := [.nilptr, .nilptr, .nilptr, .str []] } := by kernel_rfl
theorem ti129 : ti Tryd.prog 129 = { has := true, sz := 4, bs := 40, kind := .struct, elem := 0, len := 0, offs := [(0, 1), (1, 1), (2, 1), (3, 1)], zero := [.nilptr, .nilptr, .nilptr, .str []] } := by kernel_rfl
theorem ti130 : ti Tryd.prog 130 = { has := true, sz := 0, bs := 0, kind := .arr, elem := 16, len := 0, offs := [], zero := [] } := by kernel_rfl
theorem ti131 : ti Tryd.prog 131 = { has := true, sz := 0, bs := 0, kind := .struct, elem := 0, len := 0, offs := [(0, 0)], zero := [] } := by kernel_rfl
theorem ti132 : ti Tryd.prog 132 = { has := true, sz := 0, bs := 0, kind := .struct, elem := 0, len := 0, offs := [(0, 0)], zero := [] } := by kernel_rfl
theorem ti133 : ti Tryd.prog 133 = { has := true, sz := 1, bs := 1, kind := .int .u8, elem := 0, len := 0, offs := [], zero := [.int .u8 0] } := by kernel_rfl
theorem ti134 : ti Tryd.prog 134 = { has := true, sz := 1, bs := 1, kind := .int .u8, elem := 0, len := 0, offs := [], zero := [.int .u8 0] } := by kernel_rfl
theorem ti135 : ti Tryd.prog 135 = { has := true, sz := 1, bs := 8, kind := .func, elem := 0, len := 0, offs := [], zero := [.nilfn] } := by kernel_rfl
theorem ti136 : ti Tryd.prog 136 = { has := true, sz := 1, bs := 4, kind := .int .i32, elem := 0, len := 0, offs := [], zero := [.int .i32 0] } := by kernel_rfl
theorem ti137 : ti Tryd.prog 137 = { has := true, sz := 1, bs := 4, kind := .int .i32, elem := 0, len := 0, offs := [], zero := [.int .i32 0] } := by kernel_rfl
theorem ti138 : ti Tryd.prog 138 = { has := true, sz := 11, bs := 48, kind := .struct, elem := 0, len := 0, offs := [(0, 1), (1, 1), (2, 1), (3, 1), (4, 1), (5, 1), (6, 1), (7, 1), (8, 1), (9, 1), (10, 1)], zero := [.int .u64 0, .int .u64 0, .int .u32 0, .int .u8 0, .int .u8 0, .int .u8 0, .int .u8 0, .nilfn, .nilptr, .int .i32 0, .int .i32 0] } := by kernel_rfl
theorem ti139 : ti Tryd.prog 139 = { has := true, sz := 11, bs := 48, kind := .struct, elem := 0, len := 0, offs := [(0, 1), (1, 1), (2, 1), (3, 1), (4, 1), (5, 1), (6, 1), (7, 1), (8, 1), (9, 1), (10, 1)], zero := [.int .u64 0, .int .u64 0, .int .u32 0, .int .u8 0, .int .u8 0, .int .u8 0, .int .u8 0, .nilfn, .nilptr, .int .i32 0, .int .i32 0] } := by kernel_rfl

attribute [push_cast] ti2 ti3 ti4 ti5 ti6 ti7 ti8 ti9 ti10 ti11 ti12 ti13 ti14 ti18 ti19 ti20 ti21 ti22 ti24 ti54 ti55 ti56 ti57 ti58 ti67 ti68 ti69 ti72 ti73 ti78 ti79 ti90 ti93 ti100 ti101 ti103 ti117 ti118 ti120 ti121 ti126 ti127 ti128 ti129 ti130 ti131 ti132 ti133 ti134 ti136 ti137 ti138 ti139
end Go.Proofs.YtcmpcpigchlhpaaDoor
