import Derived.Test.YthafcbbkjdbomaaDoorVB
import Derived.Test.YthafcbbkjdbomaaDoorProg
namespace Go.Proofs.YthafcbbkjdbomaaDoor.V
open Go Go.RowKit Go.Proofs
/-! The types of the program (printed by a program). -/
theorem mx : Tryd.prog.follows .mixedOrders = true := by kernel_rfl
theorem ty2 : tyOf Tryd.prog 2 = some ⟨.prim (.int .i64), 1, 8, [.int .i64 (0)]⟩ := by kernel_rfl
theorem ty3 : tyOf Tryd.prog 3 = some ⟨.prim (.int .i64), 1, 8, [.int .i64 (0)]⟩ := by kernel_rfl
theorem ty4 : tyOf Tryd.prog 4 = some ⟨.prim .bool, 1, 1, [.bool false]⟩ := by kernel_rfl
theorem ty5 : tyOf Tryd.prog 5 = some ⟨.prim (.int .u8), 1, 1, [.int .u8 (0)]⟩ := by kernel_rfl
theorem ty6 : tyOf Tryd.prog 6 = some ⟨.prim (.int .u8), 1, 1, [.int .u8 (0)]⟩ := by kernel_rfl
theorem ty7 : tyOf Tryd.prog 7 = some ⟨.struct [(0, 2), (1, 3), (2, 4), (3, 6)] true, 4, 24, [.int .i64 (0), .int .i64 (0), .bool false, .int .u8 (0)]⟩ := by kernel_rfl
theorem ty8 : tyOf Tryd.prog 8 = some ⟨.struct [(0, 2), (1, 3), (2, 4), (3, 6)] true, 4, 24, [.int .i64 (0), .int .i64 (0), .bool false, .int .u8 (0)]⟩ := by kernel_rfl
theorem ty9 : tyOf Tryd.prog 9 = some ⟨.prim .string, 1, 16, [.string ⟨#[]⟩]⟩ := by kernel_rfl
theorem ty10 : tyOf Tryd.prog 10 = some ⟨.prim .string, 1, 16, [.string ⟨#[]⟩]⟩ := by kernel_rfl
theorem ty11 : tyOf Tryd.prog 11 = some ⟨.prim .string, 1, 16, [.string ⟨#[]⟩]⟩ := by kernel_rfl
theorem ty12 : tyOf Tryd.prog 12 = some ⟨.prim (.int .u64), 1, 8, [.int .u64 (0)]⟩ := by kernel_rfl
theorem ty13 : tyOf Tryd.prog 13 = some ⟨.struct [(0, 9), (1, 12)] false, 2, 24, [.string ⟨#[]⟩, .int .u64 (0)]⟩ := by kernel_rfl
theorem ty14 : tyOf Tryd.prog 14 = some ⟨.struct [(0, 9), (1, 12)] false, 2, 24, [.string ⟨#[]⟩, .int .u64 (0)]⟩ := by kernel_rfl
theorem ty15 : tyOf Tryd.prog 15 = some ⟨.prim (.pointer 146), 1, 8, [.pointer none]⟩ := by kernel_rfl
theorem ty16 : tyOf Tryd.prog 16 = some ⟨.prim (.pointer 149), 1, 8, [.pointer none]⟩ := by kernel_rfl
theorem ty17 : tyOf Tryd.prog 17 = some ⟨.prim (.pointer 157), 1, 8, [.pointer none]⟩ := by kernel_rfl
theorem ty18 : tyOf Tryd.prog 18 = some ⟨.struct [(0, 17)] false, 1, 8, [.pointer none]⟩ := by kernel_rfl
theorem ty19 : tyOf Tryd.prog 19 = some ⟨.struct [(0, 17)] false, 1, 8, [.pointer none]⟩ := by kernel_rfl
theorem ty20 : tyOf Tryd.prog 20 = some ⟨.prim (.interface #[]), 1, 16, [.nilIface]⟩ := by kernel_rfl
theorem ty21 : tyOf Tryd.prog 21 = some ⟨.prim (.int .i32), 1, 4, [.int .i32 (0)]⟩ := by kernel_rfl
theorem ty23 : tyOf Tryd.prog 23 = some ⟨.slice 29, 1, 24, [.slice none 0 0]⟩ := by kernel_rfl
theorem ty24 : tyOf Tryd.prog 24 = some ⟨.prim (.int .i64), 1, 8, [.int .i64 (0)]⟩ := by kernel_rfl
theorem ty28 : tyOf Tryd.prog 28 = some ⟨.struct [(0, 3), (1, 9), (2, 2), (3, 3)] true, 4, 40, [.int .i64 (0), .string ⟨#[]⟩, .int .i64 (0), .int .i64 (0)]⟩ := by kernel_rfl
theorem ty29 : tyOf Tryd.prog 29 = some ⟨.struct [(0, 3), (1, 9), (2, 2), (3, 3)] true, 4, 40, [.int .i64 (0), .string ⟨#[]⟩, .int .i64 (0), .int .i64 (0)]⟩ := by kernel_rfl
theorem ty31 : tyOf Tryd.prog 31 = some ⟨.struct [(0, 4), (1, 2), (2, 9)] true, 3, 32, [.bool false, .int .i64 (0), .string ⟨#[]⟩]⟩ := by kernel_rfl
theorem ty32 : tyOf Tryd.prog 32 = some ⟨.struct [(0, 4), (1, 2), (2, 9)] true, 3, 32, [.bool false, .int .i64 (0), .string ⟨#[]⟩]⟩ := by kernel_rfl
theorem ty33 : tyOf Tryd.prog 33 = some ⟨.slice 35, 1, 24, [.slice none 0 0]⟩ := by kernel_rfl
theorem ty34 : tyOf Tryd.prog 34 = some ⟨.struct [(0, 3), (1, 9), (2, 3), (3, 32), (6, 3), (7, 9), (8, 33)] true, 9, 112, [.int .i64 (0), .string ⟨#[]⟩, .int .i64 (0), .bool false, .int .i64 (0), .string ⟨#[]⟩, .int .i64 (0), .string ⟨#[]⟩, .slice none 0 0]⟩ := by kernel_rfl
theorem ty35 : tyOf Tryd.prog 35 = some ⟨.struct [(0, 3), (1, 9), (2, 3), (3, 32), (6, 3), (7, 9), (8, 33)] true, 9, 112, [.int .i64 (0), .string ⟨#[]⟩, .int .i64 (0), .bool false, .int .i64 (0), .string ⟨#[]⟩, .int .i64 (0), .string ⟨#[]⟩, .slice none 0 0]⟩ := by kernel_rfl
theorem ty42 : tyOf Tryd.prog 42 = some ⟨.slice 9, 1, 24, [.slice none 0 0]⟩ := by kernel_rfl
theorem ty46 : tyOf Tryd.prog 46 = some ⟨.slice 62, 1, 24, [.slice none 0 0]⟩ := by kernel_rfl
theorem ty61 : tyOf Tryd.prog 61 = some ⟨.struct [(0, 9), (1, 3), (2, 4)] true, 3, 32, [.string ⟨#[]⟩, .int .i64 (0), .bool false]⟩ := by kernel_rfl
theorem ty62 : tyOf Tryd.prog 62 = some ⟨.struct [(0, 9), (1, 3), (2, 4)] true, 3, 32, [.string ⟨#[]⟩, .int .i64 (0), .bool false]⟩ := by kernel_rfl
theorem ty67 : tyOf Tryd.prog 67 = some ⟨.slice 5, 1, 24, [.slice none 0 0]⟩ := by kernel_rfl
theorem ty68 : tyOf Tryd.prog 68 = some ⟨.prim (.int .u64), 1, 8, [.int .u64 (0)]⟩ := by kernel_rfl
theorem ty85 : tyOf Tryd.prog 85 = some ⟨.prim (.interface #[("Error", 95)]), 1, 16, [.nilIface]⟩ := by kernel_rfl
theorem ty86 : tyOf Tryd.prog 86 = some ⟨.prim (.interface #[("Error", 95)]), 1, 16, [.nilIface]⟩ := by kernel_rfl
theorem ty89 : tyOf Tryd.prog 89 = some ⟨.prim (.pointer 91), 1, 8, [.pointer none]⟩ := by kernel_rfl
theorem ty90 : tyOf Tryd.prog 90 = some ⟨.struct [(0, 89), (1, 67)] true, 2, 32, [.pointer none, .slice none 0 0]⟩ := by kernel_rfl
theorem ty91 : tyOf Tryd.prog 91 = some ⟨.struct [(0, 89), (1, 67)] true, 2, 32, [.pointer none, .slice none 0 0]⟩ := by kernel_rfl
theorem ty98 : tyOf Tryd.prog 98 = some ⟨.array 7 9, 7, 112, [.string ⟨#[]⟩, .string ⟨#[]⟩, .string ⟨#[]⟩, .string ⟨#[]⟩, .string ⟨#[]⟩, .string ⟨#[]⟩, .string ⟨#[]⟩]⟩ := by kernel_rfl
theorem ty103 : tyOf Tryd.prog 103 = some ⟨.array 24 5, 24, 24, [.int .u8 (0), .int .u8 (0), .int .u8 (0), .int .u8 (0), .int .u8 (0), .int .u8 (0), .int .u8 (0), .int .u8 (0), .int .u8 (0), .int .u8 (0), .int .u8 (0), .int .u8 (0), .int .u8 (0), .int .u8 (0), .int .u8 (0), .int .u8 (0), .int .u8 (0), .int .u8 (0), .int .u8 (0), .int .u8 (0), .int .u8 (0), .int .u8 (0), .int .u8 (0), .int .u8 (0)]⟩ := by kernel_rfl
theorem ty109 : tyOf Tryd.prog 109 = some ⟨.prim (.pointer 5), 1, 8, [.pointer none]⟩ := by kernel_rfl
theorem ty114 : tyOf Tryd.prog 114 = some ⟨.array 20 68, 20, 160, [.int .u64 (0), .int .u64 (0), .int .u64 (0), .int .u64 (0), .int .u64 (0), .int .u64 (0), .int .u64 (0), .int .u64 (0), .int .u64 (0), .int .u64 (0), .int .u64 (0), .int .u64 (0), .int .u64 (0), .int .u64 (0), .int .u64 (0), .int .u64 (0), .int .u64 (0), .int .u64 (0), .int .u64 (0), .int .u64 (0)]⟩ := by kernel_rfl
theorem ty115 : tyOf Tryd.prog 115 = some ⟨.prim (.int .u32), 1, 4, [.int .u32 (0)]⟩ := by kernel_rfl
theorem ty118 : tyOf Tryd.prog 118 = some ⟨.prim (.int .u64), 1, 8, [.int .u64 (0)]⟩ := by kernel_rfl
theorem ty120 : tyOf Tryd.prog 120 = some ⟨.prim (.int .i64), 1, 8, [.int .i64 (0)]⟩ := by kernel_rfl
theorem ty123 : tyOf Tryd.prog 123 = some ⟨.prim (.pointer 136), 1, 8, [.pointer none]⟩ := by kernel_rfl
theorem ty130 : tyOf Tryd.prog 130 = some ⟨.struct [(0, 5), (1, 5)] true, 2, 2, [.int .u8 (0), .int .u8 (0)]⟩ := by kernel_rfl
theorem ty131 : tyOf Tryd.prog 131 = some ⟨.struct [(0, 5), (1, 5)] true, 2, 2, [.int .u8 (0), .int .u8 (0)]⟩ := by kernel_rfl
theorem ty132 : tyOf Tryd.prog 132 = some ⟨.array 16 131, 32, 32, [.int .u8 (0), .int .u8 (0), .int .u8 (0), .int .u8 (0), .int .u8 (0), .int .u8 (0), .int .u8 (0), .int .u8 (0), .int .u8 (0), .int .u8 (0), .int .u8 (0), .int .u8 (0), .int .u8 (0), .int .u8 (0), .int .u8 (0), .int .u8 (0), .int .u8 (0), .int .u8 (0), .int .u8 (0), .int .u8 (0), .int .u8 (0), .int .u8 (0), .int .u8 (0), .int .u8 (0), .int .u8 (0), .int .u8 (0), .int .u8 (0), .int .u8 (0), .int .u8 (0), .int .u8 (0), .int .u8 (0), .int .u8 (0)]⟩ := by kernel_rfl
theorem ty135 : tyOf Tryd.prog 135 = some ⟨.struct [(0, 9), (1, 9), (2, 86)] false, 3, 48, [.string ⟨#[]⟩, .string ⟨#[]⟩, .nilIface]⟩ := by kernel_rfl
theorem ty136 : tyOf Tryd.prog 136 = some ⟨.struct [(0, 9), (1, 9), (2, 86)] false, 3, 48, [.string ⟨#[]⟩, .string ⟨#[]⟩, .nilIface]⟩ := by kernel_rfl
theorem ty140 : tyOf Tryd.prog 140 = some ⟨.array 32 5, 32, 32, [.int .u8 (0), .int .u8 (0), .int .u8 (0), .int .u8 (0), .int .u8 (0), .int .u8 (0), .int .u8 (0), .int .u8 (0), .int .u8 (0), .int .u8 (0), .int .u8 (0), .int .u8 (0), .int .u8 (0), .int .u8 (0), .int .u8 (0), .int .u8 (0), .int .u8 (0), .int .u8 (0), .int .u8 (0), .int .u8 (0), .int .u8 (0), .int .u8 (0), .int .u8 (0), .int .u8 (0), .int .u8 (0), .int .u8 (0), .int .u8 (0), .int .u8 (0), .int .u8 (0), .int .u8 (0), .int .u8 (0), .int .u8 (0)]⟩ := by kernel_rfl
theorem ty141 : tyOf Tryd.prog 141 = some ⟨.array 64 5, 64, 64, [.int .u8 (0), .int .u8 (0), .int .u8 (0), .int .u8 (0), .int .u8 (0), .int .u8 (0), .int .u8 (0), .int .u8 (0), .int .u8 (0), .int .u8 (0), .int .u8 (0), .int .u8 (0), .int .u8 (0), .int .u8 (0), .int .u8 (0), .int .u8 (0), .int .u8 (0), .int .u8 (0), .int .u8 (0), .int .u8 (0), .int .u8 (0), .int .u8 (0), .int .u8 (0), .int .u8 (0), .int .u8 (0), .int .u8 (0), .int .u8 (0), .int .u8 (0), .int .u8 (0), .int .u8 (0), .int .u8 (0), .int .u8 (0), .int .u8 (0), .int .u8 (0), .int .u8 (0), .int .u8 (0), .int .u8 (0), .int .u8 (0), .int .u8 (0), .int .u8 (0), .int .u8 (0), .int .u8 (0), .int .u8 (0), .int .u8 (0), .int .u8 (0), .int .u8 (0), .int .u8 (0), .int .u8 (0), .int .u8 (0), .int .u8 (0), .int .u8 (0), .int .u8 (0), .int .u8 (0), .int .u8 (0), .int .u8 (0), .int .u8 (0), .int .u8 (0), .int .u8 (0), .int .u8 (0), .int .u8 (0), .int .u8 (0), .int .u8 (0), .int .u8 (0), .int .u8 (0)]⟩ := by kernel_rfl
theorem ty142 : tyOf Tryd.prog 142 = some ⟨.prim (.pointer 144), 1, 8, [.pointer none]⟩ := by kernel_rfl
theorem ty143 : tyOf Tryd.prog 143 = some ⟨.struct [(0, 9)] true, 1, 16, [.string ⟨#[]⟩]⟩ := by kernel_rfl
theorem ty144 : tyOf Tryd.prog 144 = some ⟨.struct [(0, 9)] true, 1, 16, [.string ⟨#[]⟩]⟩ := by kernel_rfl
theorem ty145 : tyOf Tryd.prog 145 = some ⟨.struct [(0, 17), (1, 17), (2, 17), (3, 9)] false, 4, 40, [.pointer none, .pointer none, .pointer none, .string ⟨#[]⟩]⟩ := by kernel_rfl
theorem ty146 : tyOf Tryd.prog 146 = some ⟨.struct [(0, 17), (1, 17), (2, 17), (3, 9)] false, 4, 40, [.pointer none, .pointer none, .pointer none, .string ⟨#[]⟩]⟩ := by kernel_rfl
theorem ty147 : tyOf Tryd.prog 147 = some ⟨.array 0 16, 0, 0, []⟩ := by kernel_rfl
theorem ty148 : tyOf Tryd.prog 148 = some ⟨.struct [(0, 147)] false, 0, 0, []⟩ := by kernel_rfl
theorem ty149 : tyOf Tryd.prog 149 = some ⟨.struct [(0, 147)] false, 0, 0, []⟩ := by kernel_rfl
theorem ty151 : tyOf Tryd.prog 151 = some ⟨.prim (.int .u8), 1, 1, [.int .u8 (0)]⟩ := by kernel_rfl
theorem ty152 : tyOf Tryd.prog 152 = some ⟨.prim (.int .u8), 1, 1, [.int .u8 (0)]⟩ := by kernel_rfl
theorem ty154 : tyOf Tryd.prog 154 = some ⟨.prim (.int .i32), 1, 4, [.int .i32 (0)]⟩ := by kernel_rfl
theorem ty155 : tyOf Tryd.prog 155 = some ⟨.prim (.int .i32), 1, 4, [.int .i32 (0)]⟩ := by kernel_rfl
theorem ty156 : tyOf Tryd.prog 156 = some ⟨.struct [(0, 12), (1, 12), (2, 115), (3, 151), (4, 5), (5, 5), (6, 152), (7, 153), (8, 109), (9, 154), (10, 155)] false, 11, 48, [.int .u64 (0), .int .u64 (0), .int .u32 (0), .int .u8 (0), .int .u8 (0), .int .u8 (0), .int .u8 (0), .nilFunc, .pointer none, .int .i32 (0), .int .i32 (0)]⟩ := by kernel_rfl
theorem ty157 : tyOf Tryd.prog 157 = some ⟨.struct [(0, 12), (1, 12), (2, 115), (3, 151), (4, 5), (5, 5), (6, 152), (7, 153), (8, 109), (9, 154), (10, 155)] false, 11, 48, [.int .u64 (0), .int .u64 (0), .int .u32 (0), .int .u8 (0), .int .u8 (0), .int .u8 (0), .int .u8 (0), .nilFunc, .pointer none, .int .i32 (0), .int .i32 (0)]⟩ := by kernel_rfl
end Go.Proofs.YthafcbbkjdbomaaDoor.V
