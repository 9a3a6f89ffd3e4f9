/- The program's types, each read off once. -/
import Derived.Test.YtcmpcpigchlhpaaEd
import Derived.Test.YtcmpcpigchlhpaaProg

namespace Go.Proofs.Ytcmpcpigchlhpaa
open Go.Av
set_option maxRecDepth 10000

theorem mixed : Try.prog.follows .mixedOrders = true := rfl
theorem ti1 : ti Try.prog 1 = { has := true, sz := 1, bs := 8, kind := .func, elem := 0, len := 0, offs := [], zero := [.nilfn] } := by kernel_rfl
theorem ti2 : ti Try.prog 2 = { has := true, sz := 1, bs := 8, kind := .int .i64, elem := 0, len := 0, offs := [], zero := [.int .i64 0] } := by kernel_rfl
theorem ti3 : ti Try.prog 3 = { has := true, sz := 1, bs := 8, kind := .int .i64, elem := 0, len := 0, offs := [], zero := [.int .i64 0] } := by kernel_rfl
theorem ti4 : ti Try.prog 4 = { has := true, sz := 1, bs := 1, kind := .bool, elem := 0, len := 0, offs := [], zero := [.bool false] } := by kernel_rfl
theorem ti5 : ti Try.prog 5 = { has := true, sz := 1, bs := 1, kind := .int .u8, elem := 0, len := 0, offs := [], zero := [.int .u8 0] } := by kernel_rfl
theorem ti6 : ti Try.prog 6 = { has := true, sz := 1, bs := 1, kind := .int .u8, elem := 0, len := 0, offs := [], zero := [.int .u8 0] } := by kernel_rfl
theorem ti7 : ti Try.prog 7 = { has := true, sz := 4, bs := 24, kind := .struct, elem := 0, len := 0, offs := [(0, 1), (1, 1), (2, 1), (3, 1)], zero := [.int .i64 0, .int .i64 0, .bool false, .int .u8 0] } := by kernel_rfl
theorem ti8 : ti Try.prog 8 = { has := true, sz := 4, bs := 24, kind := .struct, elem := 0, len := 0, offs := [(0, 1), (1, 1), (2, 1), (3, 1)], zero := [.int .i64 0, .int .i64 0, .bool false, .int .u8 0] } := by kernel_rfl
theorem ti9 : ti Try.prog 9 = { has := true, sz := 1, bs := 16, kind := .str, elem := 0, len := 0, offs := [], zero := [.str []] } := by kernel_rfl
theorem ti10 : ti Try.prog 10 = { has := true, sz := 1, bs := 16, kind := .str, elem := 0, len := 0, offs := [], zero := [.str []] } := by kernel_rfl
theorem ti11 : ti Try.prog 11 = { has := true, sz := 1, bs := 16, kind := .str, elem := 0, len := 0, offs := [], zero := [.str []] } := by kernel_rfl
theorem ti12 : ti Try.prog 12 = { has := true, sz := 1, bs := 8, kind := .int .u64, elem := 0, len := 0, offs := [], zero := [.int .u64 0] } := by kernel_rfl
theorem ti13 : ti Try.prog 13 = { has := true, sz := 2, bs := 24, kind := .struct, elem := 0, len := 0, offs := [(0, 1), (1, 1)], zero := [.str [], .int .u64 0] } := by kernel_rfl
theorem ti14 : ti Try.prog 14 = { has := true, sz := 2, bs := 24, kind := .struct, elem := 0, len := 0, offs := [(0, 1), (1, 1)], zero := [.str [], .int .u64 0] } := by kernel_rfl
theorem ti15 : ti Try.prog 15 = { has := true, sz := 1, bs := 8, kind := .ptr, elem := 129, len := 0, offs := [], zero := [.nilptr] } := by kernel_rfl
theorem ti16 : ti Try.prog 16 = { has := true, sz := 1, bs := 8, kind := .ptr, elem := 132, len := 0, offs := [], zero := [.nilptr] } := by kernel_rfl
theorem ti17 : ti Try.prog 17 = { has := true, sz := 1, bs := 8, kind := .ptr, elem := 142, len := 0, offs := [], zero := [.nilptr] } := by kernel_rfl
theorem ti18 : ti Try.prog 18 = { has := true, sz := 1, bs := 8, kind := .struct, elem := 0, len := 0, offs := [(0, 1)], zero := [.nilptr] } := by kernel_rfl
theorem ti19 : ti Try.prog 19 = { has := true, sz := 1, bs := 8, kind := .struct, elem := 0, len := 0, offs := [(0, 1)], zero := [.nilptr] } := by kernel_rfl
theorem ti20 : ti Try.prog 20 = { has := true, sz := 1, bs := 16, kind := .iface, elem := 0, len := 0, offs := [], zero := [.nilif] } := by kernel_rfl
theorem ti21 : ti Try.prog 21 = { has := true, sz := 1, bs := 4, kind := .int .i32, elem := 0, len := 0, offs := [], zero := [.int .i32 0] } := by kernel_rfl
theorem ti22 : ti Try.prog 22 = { has := true, sz := 1, bs := 24, kind := .slice, elem := 5, len := 0, offs := [], zero := [.slice [] .full] } := by kernel_rfl
theorem ti23 : ti Try.prog 23 = { has := true, sz := 1, bs := 24, kind := .slice, elem := 34, len := 0, offs := [], zero := [.slice [] .full] } := by kernel_rfl
theorem ti24 : ti Try.prog 24 = { has := true, sz := 1, bs := 24, kind := .slice, elem := 9, len := 0, offs := [], zero := [.slice [] .full] } := by kernel_rfl
theorem ti25 : ti Try.prog 25 = { has := true, sz := 3, bs := 48, kind := .struct, elem := 0, len := 0, offs := [(0, 1), (1, 1), (2, 1)], zero := [.slice [] .full, .str [], .int .i64 0] } := by kernel_rfl
theorem ti26 : ti Try.prog 26 = { has := true, sz := 3, bs := 48, kind := .struct, elem := 0, len := 0, offs := [(0, 1), (1, 1), (2, 1)], zero := [.slice [] .full, .str [], .int .i64 0] } := by kernel_rfl
theorem ti28 : ti Try.prog 28 = { has := true, sz := 1, bs := 8, kind := .func, elem := 0, len := 0, offs := [], zero := [.nilfn] } := by kernel_rfl
theorem ti29 : ti Try.prog 29 = { has := true, sz := 1, bs := 8, kind := .func, elem := 0, len := 0, offs := [], zero := [.nilfn] } := by kernel_rfl
theorem ti30 : ti Try.prog 30 = { has := true, sz := 1, bs := 8, kind := .func, elem := 0, len := 0, offs := [], zero := [.nilfn] } := by kernel_rfl
theorem ti31 : ti Try.prog 31 = { has := true, sz := 1, bs := 24, kind := .slice, elem := 3, len := 0, offs := [], zero := [.slice [] .full] } := by kernel_rfl
theorem ti32 : ti Try.prog 32 = { has := true, sz := 1, bs := 24, kind := .slice, elem := 90, len := 0, offs := [], zero := [.slice [] .full] } := by kernel_rfl
theorem ti33 : ti Try.prog 33 = { has := true, sz := 10, bs := 168, kind := .struct, elem := 0, len := 0, offs := [(0, 1), (1, 1), (2, 1), (3, 1), (4, 1), (5, 1), (6, 1), (7, 1), (8, 1), (9, 1)], zero := [.str [], .str [], .str [], .int .i64 0, .int .i64 0, .int .i64 0, .slice [] .full, .slice [] .full, .slice [] .full, .slice [] .full] } := by kernel_rfl
theorem ti34 : ti Try.prog 34 = { has := true, sz := 10, bs := 168, kind := .struct, elem := 0, len := 0, offs := [(0, 1), (1, 1), (2, 1), (3, 1), (4, 1), (5, 1), (6, 1), (7, 1), (8, 1), (9, 1)], zero := [.str [], .str [], .str [], .int .i64 0, .int .i64 0, .int .i64 0, .slice [] .full, .slice [] .full, .slice [] .full, .slice [] .full] } := by kernel_rfl
theorem ti35 : ti Try.prog 35 = { has := true, sz := 1, bs := 8, kind := .func, elem := 0, len := 0, offs := [], zero := [.nilfn] } := by kernel_rfl
theorem ti36 : ti Try.prog 36 = { has := true, sz := 1, bs := 24, kind := .slice, elem := 59, len := 0, offs := [], zero := [.slice [] .full] } := by kernel_rfl
theorem ti37 : ti Try.prog 37 = { has := true, sz := 1, bs := 8, kind := .func, elem := 0, len := 0, offs := [], zero := [.nilfn] } := by kernel_rfl
theorem ti38 : ti Try.prog 38 = { has := true, sz := 1, bs := 24, kind := .slice, elem := 101, len := 0, offs := [], zero := [.slice [] .full] } := by kernel_rfl
theorem ti39 : ti Try.prog 39 = { has := true, sz := 6, bs := 104, kind := .struct, elem := 0, len := 0, offs := [(0, 1), (1, 1), (2, 1), (3, 1), (4, 1), (5, 1)], zero := [.int .i64 0, .slice [] .full, .str [], .bool false, .slice [] .full, .slice [] .full] } := by kernel_rfl
theorem ti40 : ti Try.prog 40 = { has := true, sz := 6, bs := 104, kind := .struct, elem := 0, len := 0, offs := [(0, 1), (1, 1), (2, 1), (3, 1), (4, 1), (5, 1)], zero := [.int .i64 0, .slice [] .full, .str [], .bool false, .slice [] .full, .slice [] .full] } := by kernel_rfl
theorem ti41 : ti Try.prog 41 = { has := true, sz := 1, bs := 8, kind := .func, elem := 0, len := 0, offs := [], zero := [.nilfn] } := by kernel_rfl
theorem ti42 : ti Try.prog 42 = { has := true, sz := 1, bs := 8, kind := .func, elem := 0, len := 0, offs := [], zero := [.nilfn] } := by kernel_rfl
theorem ti43 : ti Try.prog 43 = { has := true, sz := 1, bs := 8, kind := .func, elem := 0, len := 0, offs := [], zero := [.nilfn] } := by kernel_rfl
theorem ti44 : ti Try.prog 44 = { has := true, sz := 1, bs := 8, kind := .func, elem := 0, len := 0, offs := [], zero := [.nilfn] } := by kernel_rfl
theorem ti45 : ti Try.prog 45 = { has := true, sz := 1, bs := 8, kind := .func, elem := 0, len := 0, offs := [], zero := [.nilfn] } := by kernel_rfl
theorem ti46 : ti Try.prog 46 = { has := true, sz := 1, bs := 8, kind := .func, elem := 0, len := 0, offs := [], zero := [.nilfn] } := by kernel_rfl
theorem ti47 : ti Try.prog 47 = { has := true, sz := 1, bs := 8, kind := .func, elem := 0, len := 0, offs := [], zero := [.nilfn] } := by kernel_rfl
theorem ti48 : ti Try.prog 48 = { has := true, sz := 1, bs := 8, kind := .ptr, elem := 71, len := 0, offs := [], zero := [.nilptr] } := by kernel_rfl
theorem ti49 : ti Try.prog 49 = { has := true, sz := 1, bs := 8, kind := .func, elem := 0, len := 0, offs := [], zero := [.nilfn] } := by kernel_rfl
theorem ti50 : ti Try.prog 50 = { has := true, sz := 1, bs := 8, kind := .func, elem := 0, len := 0, offs := [], zero := [.nilfn] } := by kernel_rfl
theorem ti51 : ti Try.prog 51 = { has := true, sz := 1, bs := 8, kind := .func, elem := 0, len := 0, offs := [], zero := [.nilfn] } := by kernel_rfl
theorem ti52 : ti Try.prog 52 = { has := true, sz := 1, bs := 24, kind := .slice, elem := 75, len := 0, offs := [], zero := [.slice [] .full] } := by kernel_rfl
theorem ti53 : ti Try.prog 53 = { has := true, sz := 1, bs := 8, kind := .func, elem := 0, len := 0, offs := [], zero := [.nilfn] } := by kernel_rfl
theorem ti54 : ti Try.prog 54 = { has := true, sz := 1, bs := 8, kind := .func, elem := 0, len := 0, offs := [], zero := [.nilfn] } := by kernel_rfl
theorem ti55 : ti Try.prog 55 = { has := true, sz := 1, bs := 8, kind := .func, elem := 0, len := 0, offs := [], zero := [.nilfn] } := by kernel_rfl
theorem ti56 : ti Try.prog 56 = { has := true, sz := 1, bs := 8, kind := .func, elem := 0, len := 0, offs := [], zero := [.nilfn] } := by kernel_rfl
theorem ti57 : ti Try.prog 57 = { has := true, sz := 1, bs := 24, kind := .slice, elem := 112, len := 0, offs := [], zero := [.slice [] .full] } := by kernel_rfl
theorem ti58 : ti Try.prog 58 = { has := true, sz := 10, bs := 168, kind := .struct, elem := 0, len := 0, offs := [(0, 1), (1, 1), (2, 1), (3, 1), (4, 1), (5, 1), (6, 1), (7, 1), (8, 1), (9, 1)], zero := [.str [], .str [], .str [], .int .i64 0, .int .i64 0, .int .i64 0, .slice [] .full, .slice [] .full, .slice [] .full, .slice [] .full] } := by kernel_rfl
theorem ti59 : ti Try.prog 59 = { has := true, sz := 10, bs := 168, kind := .struct, elem := 0, len := 0, offs := [(0, 1), (1, 1), (2, 1), (3, 1), (4, 1), (5, 1), (6, 1), (7, 1), (8, 1), (9, 1)], zero := [.str [], .str [], .str [], .int .i64 0, .int .i64 0, .int .i64 0, .slice [] .full, .slice [] .full, .slice [] .full, .slice [] .full] } := by kernel_rfl
theorem ti60 : ti Try.prog 60 = { has := true, sz := 1, bs := 8, kind := .func, elem := 0, len := 0, offs := [], zero := [.nilfn] } := by kernel_rfl
theorem ti61 : ti Try.prog 61 = { has := true, sz := 1, bs := 8, kind := .func, elem := 0, len := 0, offs := [], zero := [.nilfn] } := by kernel_rfl
theorem ti62 : ti Try.prog 62 = { has := true, sz := 1, bs := 8, kind := .func, elem := 0, len := 0, offs := [], zero := [.nilfn] } := by kernel_rfl
theorem ti63 : ti Try.prog 63 = { has := true, sz := 1, bs := 8, kind := .func, elem := 0, len := 0, offs := [], zero := [.nilfn] } := by kernel_rfl
theorem ti64 : ti Try.prog 64 = { has := true, sz := 1, bs := 8, kind := .func, elem := 0, len := 0, offs := [], zero := [.nilfn] } := by kernel_rfl
theorem ti65 : ti Try.prog 65 = { has := true, sz := 1, bs := 8, kind := .func, elem := 0, len := 0, offs := [], zero := [.nilfn] } := by kernel_rfl
theorem ti66 : ti Try.prog 66 = { has := true, sz := 1, bs := 8, kind := .func, elem := 0, len := 0, offs := [], zero := [.nilfn] } := by kernel_rfl
theorem ti67 : ti Try.prog 67 = { has := true, sz := 1, bs := 8, kind := .func, elem := 0, len := 0, offs := [], zero := [.nilfn] } := by kernel_rfl
theorem ti68 : ti Try.prog 68 = { has := true, sz := 1, bs := 8, kind := .func, elem := 0, len := 0, offs := [], zero := [.nilfn] } := by kernel_rfl
theorem ti69 : ti Try.prog 69 = { has := true, sz := 1, bs := 8, kind := .func, elem := 0, len := 0, offs := [], zero := [.nilfn] } := by kernel_rfl
theorem ti70 : ti Try.prog 70 = { has := true, sz := 2, bs := 32, kind := .struct, elem := 0, len := 0, offs := [(0, 1), (1, 1)], zero := [.slice [] .full, .int .i64 0] } := by kernel_rfl
theorem ti71 : ti Try.prog 71 = { has := true, sz := 2, bs := 32, kind := .struct, elem := 0, len := 0, offs := [(0, 1), (1, 1)], zero := [.slice [] .full, .int .i64 0] } := by kernel_rfl
theorem ti72 : ti Try.prog 72 = { has := true, sz := 1, bs := 8, kind := .func, elem := 0, len := 0, offs := [], zero := [.nilfn] } := by kernel_rfl
theorem ti73 : ti Try.prog 73 = { has := true, sz := 1, bs := 8, kind := .func, elem := 0, len := 0, offs := [], zero := [.nilfn] } := by kernel_rfl
theorem ti74 : ti Try.prog 74 = { has := true, sz := 3, bs := 40, kind := .struct, elem := 0, len := 0, offs := [(0, 1), (1, 1), (2, 1)], zero := [.str [], .int .i64 0, .str []] } := by kernel_rfl
theorem ti75 : ti Try.prog 75 = { has := true, sz := 3, bs := 40, kind := .struct, elem := 0, len := 0, offs := [(0, 1), (1, 1), (2, 1)], zero := [.str [], .int .i64 0, .str []] } := by kernel_rfl
theorem ti76 : ti Try.prog 76 = { has := true, sz := 1, bs := 8, kind := .func, elem := 0, len := 0, offs := [], zero := [.nilfn] } := by kernel_rfl
theorem ti77 : ti Try.prog 77 = { has := true, sz := 1, bs := 8, kind := .func, elem := 0, len := 0, offs := [], zero := [.nilfn] } := by kernel_rfl
theorem ti78 : ti Try.prog 78 = { has := true, sz := 1, bs := 24, kind := .slice, elem := 81, len := 0, offs := [], zero := [.slice [] .full] } := by kernel_rfl
theorem ti79 : ti Try.prog 79 = { has := true, sz := 1, bs := 24, kind := .slice, elem := 121, len := 0, offs := [], zero := [.slice [] .full] } := by kernel_rfl
theorem ti80 : ti Try.prog 80 = { has := true, sz := 5, bs := 80, kind := .struct, elem := 0, len := 0, offs := [(0, 1), (1, 1), (2, 1), (3, 1), (4, 1)], zero := [.int .i64 0, .int .i64 0, .str [], .slice [] .full, .slice [] .full] } := by kernel_rfl
theorem ti81 : ti Try.prog 81 = { has := true, sz := 5, bs := 80, kind := .struct, elem := 0, len := 0, offs := [(0, 1), (1, 1), (2, 1), (3, 1), (4, 1)], zero := [.int .i64 0, .int .i64 0, .str [], .slice [] .full, .slice [] .full] } := by kernel_rfl
theorem ti82 : ti Try.prog 82 = { has := true, sz := 1, bs := 8, kind := .func, elem := 0, len := 0, offs := [], zero := [.nilfn] } := by kernel_rfl
theorem ti83 : ti Try.prog 83 = { has := true, sz := 1, bs := 8, kind := .func, elem := 0, len := 0, offs := [], zero := [.nilfn] } := by kernel_rfl
theorem ti84 : ti Try.prog 84 = { has := true, sz := 1, bs := 8, kind := .func, elem := 0, len := 0, offs := [], zero := [.nilfn] } := by kernel_rfl
theorem ti85 : ti Try.prog 85 = { has := true, sz := 1, bs := 8, kind := .func, elem := 0, len := 0, offs := [], zero := [.nilfn] } := by kernel_rfl
theorem ti86 : ti Try.prog 86 = { has := true, sz := 1, bs := 8, kind := .func, elem := 0, len := 0, offs := [], zero := [.nilfn] } := by kernel_rfl
theorem ti87 : ti Try.prog 87 = { has := true, sz := 1, bs := 8, kind := .func, elem := 0, len := 0, offs := [], zero := [.nilfn] } := by kernel_rfl
theorem ti88 : ti Try.prog 88 = { has := true, sz := 1, bs := 8, kind := .func, elem := 0, len := 0, offs := [], zero := [.nilfn] } := by kernel_rfl
theorem ti89 : ti Try.prog 89 = { has := true, sz := 3, bs := 24, kind := .struct, elem := 0, len := 0, offs := [(0, 1), (1, 1), (2, 1)], zero := [.int .i64 0, .int .i64 0, .int .i64 0] } := by kernel_rfl
theorem ti90 : ti Try.prog 90 = { has := true, sz := 3, bs := 24, kind := .struct, elem := 0, len := 0, offs := [(0, 1), (1, 1), (2, 1)], zero := [.int .i64 0, .int .i64 0, .int .i64 0] } := by kernel_rfl
theorem ti91 : ti Try.prog 91 = { has := true, sz := 1, bs := 8, kind := .func, elem := 0, len := 0, offs := [], zero := [.nilfn] } := by kernel_rfl
theorem ti92 : ti Try.prog 92 = { has := true, sz := 1, bs := 8, kind := .func, elem := 0, len := 0, offs := [], zero := [.nilfn] } := by kernel_rfl
theorem ti93 : ti Try.prog 93 = { has := true, sz := 1, bs := 8, kind := .func, elem := 0, len := 0, offs := [], zero := [.nilfn] } := by kernel_rfl
theorem ti94 : ti Try.prog 94 = { has := true, sz := 1, bs := 8, kind := .func, elem := 0, len := 0, offs := [], zero := [.nilfn] } := by kernel_rfl
theorem ti95 : ti Try.prog 95 = { has := true, sz := 1, bs := 8, kind := .func, elem := 0, len := 0, offs := [], zero := [.nilfn] } := by kernel_rfl
theorem ti96 : ti Try.prog 96 = { has := true, sz := 1, bs := 8, kind := .func, elem := 0, len := 0, offs := [], zero := [.nilfn] } := by kernel_rfl
theorem ti97 : ti Try.prog 97 = { has := true, sz := 1, bs := 8, kind := .func, elem := 0, len := 0, offs := [], zero := [.nilfn] } := by kernel_rfl
theorem ti98 : ti Try.prog 98 = { has := true, sz := 1, bs := 8, kind := .func, elem := 0, len := 0, offs := [], zero := [.nilfn] } := by kernel_rfl
theorem ti99 : ti Try.prog 99 = { has := true, sz := 1, bs := 24, kind := .slice, elem := 117, len := 0, offs := [], zero := [.slice [] .full] } := by kernel_rfl
theorem ti100 : ti Try.prog 100 = { has := true, sz := 3, bs := 40, kind := .struct, elem := 0, len := 0, offs := [(0, 1), (1, 1), (2, 1)], zero := [.int .i64 0, .int .i64 0, .slice [] .full] } := by kernel_rfl
theorem ti101 : ti Try.prog 101 = { has := true, sz := 3, bs := 40, kind := .struct, elem := 0, len := 0, offs := [(0, 1), (1, 1), (2, 1)], zero := [.int .i64 0, .int .i64 0, .slice [] .full] } := by kernel_rfl
theorem ti102 : ti Try.prog 102 = { has := true, sz := 1, bs := 8, kind := .func, elem := 0, len := 0, offs := [], zero := [.nilfn] } := by kernel_rfl
theorem ti103 : ti Try.prog 103 = { has := true, sz := 1, bs := 8, kind := .func, elem := 0, len := 0, offs := [], zero := [.nilfn] } := by kernel_rfl
theorem ti104 : ti Try.prog 104 = { has := true, sz := 1, bs := 8, kind := .func, elem := 0, len := 0, offs := [], zero := [.nilfn] } := by kernel_rfl
theorem ti105 : ti Try.prog 105 = { has := true, sz := 1, bs := 8, kind := .func, elem := 0, len := 0, offs := [], zero := [.nilfn] } := by kernel_rfl
theorem ti106 : ti Try.prog 106 = { has := true, sz := 1, bs := 8, kind := .func, elem := 0, len := 0, offs := [], zero := [.nilfn] } := by kernel_rfl
theorem ti107 : ti Try.prog 107 = { has := true, sz := 1, bs := 8, kind := .func, elem := 0, len := 0, offs := [], zero := [.nilfn] } := by kernel_rfl
theorem ti108 : ti Try.prog 108 = { has := true, sz := 1, bs := 8, kind := .func, elem := 0, len := 0, offs := [], zero := [.nilfn] } := by kernel_rfl
theorem ti109 : ti Try.prog 109 = { has := true, sz := 1, bs := 8, kind := .func, elem := 0, len := 0, offs := [], zero := [.nilfn] } := by kernel_rfl
theorem ti110 : ti Try.prog 110 = { has := true, sz := 1, bs := 8, kind := .func, elem := 0, len := 0, offs := [], zero := [.nilfn] } := by kernel_rfl
theorem ti111 : ti Try.prog 111 = { has := true, sz := 1, bs := 8, kind := .func, elem := 0, len := 0, offs := [], zero := [.nilfn] } := by kernel_rfl
theorem ti112 : ti Try.prog 112 = { has := true, sz := 3, bs := 24, kind := .struct, elem := 0, len := 0, offs := [(0, 1), (1, 1), (2, 1)], zero := [.int .i64 0, .int .i64 0, .int .i64 0] } := by kernel_rfl
theorem ti113 : ti Try.prog 113 = { has := true, sz := 1, bs := 8, kind := .func, elem := 0, len := 0, offs := [], zero := [.nilfn] } := by kernel_rfl
theorem ti114 : ti Try.prog 114 = { has := true, sz := 1, bs := 8, kind := .func, elem := 0, len := 0, offs := [], zero := [.nilfn] } := by kernel_rfl
theorem ti115 : ti Try.prog 115 = { has := true, sz := 1, bs := 8, kind := .func, elem := 0, len := 0, offs := [], zero := [.nilfn] } := by kernel_rfl
theorem ti116 : ti Try.prog 116 = { has := true, sz := 4, bs := 40, kind := .struct, elem := 0, len := 0, offs := [(0, 1), (1, 1), (2, 1), (3, 1)], zero := [.str [], .int .i64 0, .int .i64 0, .int .i64 0] } := by kernel_rfl
theorem ti117 : ti Try.prog 117 = { has := true, sz := 4, bs := 40, kind := .struct, elem := 0, len := 0, offs := [(0, 1), (1, 1), (2, 1), (3, 1)], zero := [.str [], .int .i64 0, .int .i64 0, .int .i64 0] } := by kernel_rfl
theorem ti118 : ti Try.prog 118 = { has := true, sz := 1, bs := 8, kind := .func, elem := 0, len := 0, offs := [], zero := [.nilfn] } := by kernel_rfl
theorem ti119 : ti Try.prog 119 = { has := true, sz := 1, bs := 8, kind := .func, elem := 0, len := 0, offs := [], zero := [.nilfn] } := by kernel_rfl
theorem ti120 : ti Try.prog 120 = { has := true, sz := 2, bs := 16, kind := .struct, elem := 0, len := 0, offs := [(0, 1), (1, 1)], zero := [.int .i64 0, .int .i64 0] } := by kernel_rfl
theorem ti121 : ti Try.prog 121 = { has := true, sz := 2, bs := 16, kind := .struct, elem := 0, len := 0, offs := [(0, 1), (1, 1)], zero := [.int .i64 0, .int .i64 0] } := by kernel_rfl
theorem ti122 : ti Try.prog 122 = { has := true, sz := 1, bs := 8, kind := .func, elem := 0, len := 0, offs := [], zero := [.nilfn] } := by kernel_rfl
theorem ti123 : ti Try.prog 123 = { has := true, sz := 1, bs := 8, kind := .func, elem := 0, len := 0, offs := [], zero := [.nilfn] } := by kernel_rfl
theorem ti124 : ti Try.prog 124 = { has := true, sz := 1, bs := 8, kind := .func, elem := 0, len := 0, offs := [], zero := [.nilfn] } := by kernel_rfl
theorem ti125 : ti Try.prog 125 = { has := true, sz := 1, bs := 8, kind := .func, elem := 0, len := 0, offs := [], zero := [.nilfn] } := by kernel_rfl
theorem ti126 : ti Try.prog 126 = { has := true, sz := 1, bs := 8, kind := .func, elem := 0, len := 0, offs := [], zero := [.nilfn] } := by kernel_rfl
theorem ti127 : ti Try.prog 127 = { has := true, sz := 1, bs := 8, kind := .func, elem := 0, len := 0, offs := [], zero := [.nilfn] } := by kernel_rfl
theorem ti128 : ti Try.prog 128 = { has := true, sz := 4, bs := 40, kind := .struct, elem := 0, len := 0, offs := [(0, 1), (1, 1), (2, 1), (3, 1)], zero := [.nilptr, .nilptr, .nilptr, .str []] } := by kernel_rfl
theorem ti129 : ti Try.prog 129 = { has := true, sz := 4, bs := 40, kind := .struct, elem := 0, len := 0, offs := [(0, 1), (1, 1), (2, 1), (3, 1)], zero := [.nilptr, .nilptr, .nilptr, .str []] } := by kernel_rfl
theorem ti130 : ti Try.prog 130 = { has := true, sz := 0, bs := 0, kind := .arr, elem := 16, len := 0, offs := [], zero := [] } := by kernel_rfl
theorem ti131 : ti Try.prog 131 = { has := true, sz := 0, bs := 0, kind := .struct, elem := 0, len := 0, offs := [(0, 0)], zero := [] } := by kernel_rfl
theorem ti132 : ti Try.prog 132 = { has := true, sz := 0, bs := 0, kind := .struct, elem := 0, len := 0, offs := [(0, 0)], zero := [] } := by kernel_rfl
theorem ti133 : ti Try.prog 133 = { has := true, sz := 1, bs := 8, kind := .func, elem := 0, len := 0, offs := [], zero := [.nilfn] } := by kernel_rfl
theorem ti134 : ti Try.prog 134 = { has := true, sz := 1, bs := 4, kind := .int .u32, elem := 0, len := 0, offs := [], zero := [.int .u32 0] } := by kernel_rfl
theorem ti135 : ti Try.prog 135 = { has := true, sz := 1, bs := 1, kind := .int .u8, elem := 0, len := 0, offs := [], zero := [.int .u8 0] } := by kernel_rfl
theorem ti136 : ti Try.prog 136 = { has := true, sz := 1, bs := 1, kind := .int .u8, elem := 0, len := 0, offs := [], zero := [.int .u8 0] } := by kernel_rfl
theorem ti137 : ti Try.prog 137 = { has := true, sz := 1, bs := 8, kind := .func, elem := 0, len := 0, offs := [], zero := [.nilfn] } := by kernel_rfl
theorem ti138 : ti Try.prog 138 = { has := true, sz := 1, bs := 8, kind := .ptr, elem := 5, len := 0, offs := [], zero := [.nilptr] } := by kernel_rfl
theorem ti139 : ti Try.prog 139 = { has := true, sz := 1, bs := 4, kind := .int .i32, elem := 0, len := 0, offs := [], zero := [.int .i32 0] } := by kernel_rfl
theorem ti140 : ti Try.prog 140 = { has := true, sz := 1, bs := 4, kind := .int .i32, elem := 0, len := 0, offs := [], zero := [.int .i32 0] } := by kernel_rfl
theorem ti141 : ti Try.prog 141 = { has := true, sz := 11, bs := 48, kind := .struct, elem := 0, len := 0, offs := [(0, 1), (1, 1), (2, 1), (3, 1), (4, 1), (5, 1), (6, 1), (7, 1), (8, 1), (9, 1), (10, 1)], zero := [.int .u64 0, .int .u64 0, .int .u32 0, .int .u8 0, .int .u8 0, .int .u8 0, .int .u8 0, .nilfn, .nilptr, .int .i32 0, .int .i32 0] } := by kernel_rfl
theorem ti142 : ti Try.prog 142 = { has := true, sz := 11, bs := 48, kind := .struct, elem := 0, len := 0, offs := [(0, 1), (1, 1), (2, 1), (3, 1), (4, 1), (5, 1), (6, 1), (7, 1), (8, 1), (9, 1), (10, 1)], zero := [.int .u64 0, .int .u64 0, .int .u32 0, .int .u8 0, .int .u8 0, .int .u8 0, .int .u8 0, .nilfn, .nilptr, .int .i32 0, .int .i32 0] } := by kernel_rfl
theorem ti143 : ti Try.prog 143 = { has := true, sz := 1, bs := 8, kind := .func, elem := 0, len := 0, offs := [], zero := [.nilfn] } := by kernel_rfl
theorem ti144 : ti Try.prog 144 = { has := true, sz := 1, bs := 8, kind := .other, elem := 0, len := 0, offs := [], zero := [.nilptr] } := by kernel_rfl

attribute [push_cast] ti2 ti3 ti4 ti5 ti6 ti7 ti8 ti9 ti10 ti11 ti12 ti13 ti14 ti18 ti19 ti20 ti21 ti22 ti23 ti24 ti25 ti26 ti31 ti32 ti33 ti34 ti36 ti38 ti39 ti40 ti52 ti57 ti58 ti59 ti70 ti71 ti74 ti75 ti78 ti79 ti80 ti81 ti89 ti90 ti99 ti100 ti101 ti112 ti116 ti117 ti120 ti121 ti128 ti129 ti130 ti131 ti132 ti134 ti135 ti136 ti139 ti140 ti141 ti142
end Go.Proofs.Ytcmpcpigchlhpaa
