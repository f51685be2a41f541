import Derived.Test.YtdedmhmomoejkaaDoorVB
import Derived.Test.YtdedmhmomoejkaaDoorProg
namespace Go.Proofs.YtdedmhmomoejkaaDoor.V
open Go Go.RowKit Go.Proofs
/-! The types of the program (printed by a program). -/
theorem mx : Tryd.prog.follows .mixedOrders = true := by kernel_rfl
theorem ty2 : tyOf Tryd.prog 2 = some ⟨.prim (.int .i64), 1, 8, [.int .i64 (0)]⟩ := by kernel_rfl
theorem ty3 : tyOf Tryd.prog 3 = some ⟨.prim (.int .i64), 1, 8, [.int .i64 (0)]⟩ := by kernel_rfl
theorem ty4 : tyOf Tryd.prog 4 = some ⟨.prim .bool, 1, 1, [.bool false]⟩ := by kernel_rfl
theorem ty5 : tyOf Tryd.prog 5 = some ⟨.prim (.int .u8), 1, 1, [.int .u8 (0)]⟩ := by kernel_rfl
theorem ty6 : tyOf Tryd.prog 6 = some ⟨.prim (.int .u8), 1, 1, [.int .u8 (0)]⟩ := by kernel_rfl
theorem ty7 : tyOf Tryd.prog 7 = some ⟨.struct [(0, 2), (1, 3), (2, 4), (3, 6)] true, 4, 24, [.int .i64 (0), .int .i64 (0), .bool false, .int .u8 (0)]⟩ := by kernel_rfl
theorem ty8 : tyOf Tryd.prog 8 = some ⟨.struct [(0, 2), (1, 3), (2, 4), (3, 6)] true, 4, 24, [.int .i64 (0), .int .i64 (0), .bool false, .int .u8 (0)]⟩ := by kernel_rfl
theorem ty9 : tyOf Tryd.prog 9 = some ⟨.prim .string, 1, 16, [.string ⟨#[]⟩]⟩ := by kernel_rfl
theorem ty10 : tyOf Tryd.prog 10 = some ⟨.prim .string, 1, 16, [.string ⟨#[]⟩]⟩ := by kernel_rfl
theorem ty11 : tyOf Tryd.prog 11 = some ⟨.prim .string, 1, 16, [.string ⟨#[]⟩]⟩ := by kernel_rfl
theorem ty12 : tyOf Tryd.prog 12 = some ⟨.prim (.int .u64), 1, 8, [.int .u64 (0)]⟩ := by kernel_rfl
theorem ty13 : tyOf Tryd.prog 13 = some ⟨.struct [(0, 9), (1, 12)] false, 2, 24, [.string ⟨#[]⟩, .int .u64 (0)]⟩ := by kernel_rfl
theorem ty14 : tyOf Tryd.prog 14 = some ⟨.struct [(0, 9), (1, 12)] false, 2, 24, [.string ⟨#[]⟩, .int .u64 (0)]⟩ := by kernel_rfl
theorem ty15 : tyOf Tryd.prog 15 = some ⟨.prim (.pointer 285), 1, 8, [.pointer none]⟩ := by kernel_rfl
theorem ty16 : tyOf Tryd.prog 16 = some ⟨.prim (.pointer 288), 1, 8, [.pointer none]⟩ := by kernel_rfl
theorem ty17 : tyOf Tryd.prog 17 = some ⟨.prim (.pointer 295), 1, 8, [.pointer none]⟩ := by kernel_rfl
theorem ty18 : tyOf Tryd.prog 18 = some ⟨.struct [(0, 17)] false, 1, 8, [.pointer none]⟩ := by kernel_rfl
theorem ty19 : tyOf Tryd.prog 19 = some ⟨.struct [(0, 17)] false, 1, 8, [.pointer none]⟩ := by kernel_rfl
theorem ty20 : tyOf Tryd.prog 20 = some ⟨.prim (.interface #[]), 1, 16, [.nilIface]⟩ := by kernel_rfl
theorem ty21 : tyOf Tryd.prog 21 = some ⟨.prim (.int .i32), 1, 4, [.int .i32 (0)]⟩ := by kernel_rfl
theorem ty22 : tyOf Tryd.prog 22 = some ⟨.prim (.int .u64), 1, 8, [.int .u64 (0)]⟩ := by kernel_rfl
theorem ty24 : tyOf Tryd.prog 24 = some ⟨.slice 44, 1, 24, [.slice none 0 0]⟩ := by kernel_rfl
theorem ty27 : tyOf Tryd.prog 27 = some ⟨.slice 91, 1, 24, [.slice none 0 0]⟩ := by kernel_rfl
theorem ty29 : tyOf Tryd.prog 29 = some ⟨.prim (.pointer 31), 1, 8, [.pointer none]⟩ := by kernel_rfl
theorem ty30 : tyOf Tryd.prog 30 = some ⟨.struct [(0, 22)] true, 1, 8, [.int .u64 (0)]⟩ := by kernel_rfl
theorem ty31 : tyOf Tryd.prog 31 = some ⟨.struct [(0, 22)] true, 1, 8, [.int .u64 (0)]⟩ := by kernel_rfl
theorem ty33 : tyOf Tryd.prog 33 = some ⟨.slice 98, 1, 24, [.slice none 0 0]⟩ := by kernel_rfl
theorem ty34 : tyOf Tryd.prog 34 = some ⟨.struct [(0, 4), (1, 2), (2, 9)] true, 3, 32, [.bool false, .int .i64 (0), .string ⟨#[]⟩]⟩ := by kernel_rfl
theorem ty35 : tyOf Tryd.prog 35 = some ⟨.struct [(0, 4), (1, 2), (2, 9)] true, 3, 32, [.bool false, .int .i64 (0), .string ⟨#[]⟩]⟩ := by kernel_rfl
theorem ty36 : tyOf Tryd.prog 36 = some ⟨.slice 38, 1, 24, [.slice none 0 0]⟩ := by kernel_rfl
theorem ty37 : tyOf Tryd.prog 37 = some ⟨.struct [(0, 3), (1, 9), (2, 3), (3, 35), (6, 3), (7, 9), (8, 36)] true, 9, 112, [.int .i64 (0), .string ⟨#[]⟩, .int .i64 (0), .bool false, .int .i64 (0), .string ⟨#[]⟩, .int .i64 (0), .string ⟨#[]⟩, .slice none 0 0]⟩ := by kernel_rfl
theorem ty38 : tyOf Tryd.prog 38 = some ⟨.struct [(0, 3), (1, 9), (2, 3), (3, 35), (6, 3), (7, 9), (8, 36)] true, 9, 112, [.int .i64 (0), .string ⟨#[]⟩, .int .i64 (0), .bool false, .int .i64 (0), .string ⟨#[]⟩, .int .i64 (0), .string ⟨#[]⟩, .slice none 0 0]⟩ := by kernel_rfl
theorem ty39 : tyOf Tryd.prog 39 = some ⟨.slice 9, 1, 24, [.slice none 0 0]⟩ := by kernel_rfl
theorem ty40 : tyOf Tryd.prog 40 = some ⟨.slice 102, 1, 24, [.slice none 0 0]⟩ := by kernel_rfl
theorem ty41 : tyOf Tryd.prog 41 = some ⟨.struct [(0, 9), (1, 39), (2, 38), (11, 40), (12, 9)] true, 13, 192, [.string ⟨#[]⟩, .slice none 0 0, .int .i64 (0), .string ⟨#[]⟩, .int .i64 (0), .bool false, .int .i64 (0), .string ⟨#[]⟩, .int .i64 (0), .string ⟨#[]⟩, .slice none 0 0, .slice none 0 0, .string ⟨#[]⟩]⟩ := by kernel_rfl
theorem ty42 : tyOf Tryd.prog 42 = some ⟨.struct [(0, 9), (1, 39), (2, 38), (11, 40), (12, 9)] true, 13, 192, [.string ⟨#[]⟩, .slice none 0 0, .int .i64 (0), .string ⟨#[]⟩, .int .i64 (0), .bool false, .int .i64 (0), .string ⟨#[]⟩, .int .i64 (0), .string ⟨#[]⟩, .slice none 0 0, .slice none 0 0, .string ⟨#[]⟩]⟩ := by kernel_rfl
theorem ty43 : tyOf Tryd.prog 43 = some ⟨.struct [(0, 3), (1, 9), (2, 27), (3, 33), (4, 38), (13, 42)] true, 26, 376, [.int .i64 (0), .string ⟨#[]⟩, .slice none 0 0, .slice none 0 0, .int .i64 (0), .string ⟨#[]⟩, .int .i64 (0), .bool false, .int .i64 (0), .string ⟨#[]⟩, .int .i64 (0), .string ⟨#[]⟩, .slice none 0 0, .string ⟨#[]⟩, .slice none 0 0, .int .i64 (0), .string ⟨#[]⟩, .int .i64 (0), .bool false, .int .i64 (0), .string ⟨#[]⟩, .int .i64 (0), .string ⟨#[]⟩, .slice none 0 0, .slice none 0 0, .string ⟨#[]⟩]⟩ := by kernel_rfl
theorem ty44 : tyOf Tryd.prog 44 = some ⟨.struct [(0, 3), (1, 9), (2, 27), (3, 33), (4, 38), (13, 42)] true, 26, 376, [.int .i64 (0), .string ⟨#[]⟩, .slice none 0 0, .slice none 0 0, .int .i64 (0), .string ⟨#[]⟩, .int .i64 (0), .bool false, .int .i64 (0), .string ⟨#[]⟩, .int .i64 (0), .string ⟨#[]⟩, .slice none 0 0, .string ⟨#[]⟩, .slice none 0 0, .int .i64 (0), .string ⟨#[]⟩, .int .i64 (0), .bool false, .int .i64 (0), .string ⟨#[]⟩, .int .i64 (0), .string ⟨#[]⟩, .slice none 0 0, .slice none 0 0, .string ⟨#[]⟩]⟩ := by kernel_rfl
theorem ty47 : tyOf Tryd.prog 47 = some ⟨.slice 104, 1, 24, [.slice none 0 0]⟩ := by kernel_rfl
theorem ty48 : tyOf Tryd.prog 48 = some ⟨.prim (.int .i64), 1, 8, [.int .i64 (0)]⟩ := by kernel_rfl
theorem ty49 : tyOf Tryd.prog 49 = some ⟨.struct [(0, 48), (1, 3), (2, 39), (3, 33)] true, 4, 64, [.int .i64 (0), .int .i64 (0), .slice none 0 0, .slice none 0 0]⟩ := by kernel_rfl
theorem ty50 : tyOf Tryd.prog 50 = some ⟨.struct [(0, 48), (1, 3), (2, 39), (3, 33)] true, 4, 64, [.int .i64 (0), .int .i64 (0), .slice none 0 0, .slice none 0 0]⟩ := by kernel_rfl
theorem ty54 : tyOf Tryd.prog 54 = some ⟨.struct [(0, 3), (1, 3)] true, 2, 16, [.int .i64 (0), .int .i64 (0)]⟩ := by kernel_rfl
theorem ty55 : tyOf Tryd.prog 55 = some ⟨.struct [(0, 3), (1, 3)] true, 2, 16, [.int .i64 (0), .int .i64 (0)]⟩ := by kernel_rfl
theorem ty56 : tyOf Tryd.prog 56 = some ⟨.slice 5, 1, 24, [.slice none 0 0]⟩ := by kernel_rfl
theorem ty57 : tyOf Tryd.prog 57 = some ⟨.struct [(0, 3), (1, 55), (3, 56)] true, 4, 48, [.int .i64 (0), .int .i64 (0), .int .i64 (0), .slice none 0 0]⟩ := by kernel_rfl
theorem ty58 : tyOf Tryd.prog 58 = some ⟨.struct [(0, 3), (1, 55), (3, 56)] true, 4, 48, [.int .i64 (0), .int .i64 (0), .int .i64 (0), .slice none 0 0]⟩ := by kernel_rfl
theorem ty60 : tyOf Tryd.prog 60 = some ⟨.slice 58, 1, 24, [.slice none 0 0]⟩ := by kernel_rfl
theorem ty62 : tyOf Tryd.prog 62 = some ⟨.prim (.pointer 170), 1, 8, [.pointer none]⟩ := by kernel_rfl
theorem ty63 : tyOf Tryd.prog 63 = some ⟨.prim (.pointer 137), 1, 8, [.pointer none]⟩ := by kernel_rfl
theorem ty64 : tyOf Tryd.prog 64 = some ⟨.prim (.pointer 128), 1, 8, [.pointer none]⟩ := by kernel_rfl
theorem ty69 : tyOf Tryd.prog 69 = some ⟨.slice 115, 1, 24, [.slice none 0 0]⟩ := by kernel_rfl
theorem ty72 : tyOf Tryd.prog 72 = some ⟨.struct [(0, 3), (1, 5)] true, 2, 16, [.int .i64 (0), .int .u8 (0)]⟩ := by kernel_rfl
theorem ty73 : tyOf Tryd.prog 73 = some ⟨.struct [(0, 3), (1, 5)] true, 2, 16, [.int .i64 (0), .int .u8 (0)]⟩ := by kernel_rfl
theorem ty74 : tyOf Tryd.prog 74 = some ⟨.struct [(0, 3), (1, 3)] true, 2, 16, [.int .i64 (0), .int .i64 (0)]⟩ := by kernel_rfl
theorem ty79 : tyOf Tryd.prog 79 = some ⟨.slice 88, 1, 24, [.slice none 0 0]⟩ := by kernel_rfl
theorem ty82 : tyOf Tryd.prog 82 = some ⟨.slice 149, 1, 24, [.slice none 0 0]⟩ := by kernel_rfl
theorem ty87 : tyOf Tryd.prog 87 = some ⟨.struct [(0, 3), (1, 9), (2, 2), (3, 3)] true, 4, 40, [.int .i64 (0), .string ⟨#[]⟩, .int .i64 (0), .int .i64 (0)]⟩ := by kernel_rfl
theorem ty88 : tyOf Tryd.prog 88 = some ⟨.struct [(0, 3), (1, 9), (2, 2), (3, 3)] true, 4, 40, [.int .i64 (0), .string ⟨#[]⟩, .int .i64 (0), .int .i64 (0)]⟩ := by kernel_rfl
theorem ty90 : tyOf Tryd.prog 90 = some ⟨.struct [(0, 9), (1, 3), (2, 4)] true, 3, 32, [.string ⟨#[]⟩, .int .i64 (0), .bool false]⟩ := by kernel_rfl
theorem ty91 : tyOf Tryd.prog 91 = some ⟨.struct [(0, 9), (1, 3), (2, 4)] true, 3, 32, [.string ⟨#[]⟩, .int .i64 (0), .bool false]⟩ := by kernel_rfl
theorem ty98 : tyOf Tryd.prog 98 = some ⟨.slice 35, 1, 24, [.slice none 0 0]⟩ := by kernel_rfl
theorem ty101 : tyOf Tryd.prog 101 = some ⟨.struct [(0, 3), (1, 9)] true, 2, 24, [.int .i64 (0), .string ⟨#[]⟩]⟩ := by kernel_rfl
theorem ty102 : tyOf Tryd.prog 102 = some ⟨.struct [(0, 3), (1, 9)] true, 2, 24, [.int .i64 (0), .string ⟨#[]⟩]⟩ := by kernel_rfl
theorem ty103 : tyOf Tryd.prog 103 = some ⟨.struct [(0, 9), (1, 27), (2, 33)] true, 3, 64, [.string ⟨#[]⟩, .slice none 0 0, .slice none 0 0]⟩ := by kernel_rfl
theorem ty104 : tyOf Tryd.prog 104 = some ⟨.struct [(0, 9), (1, 27), (2, 33)] true, 3, 64, [.string ⟨#[]⟩, .slice none 0 0, .slice none 0 0]⟩ := by kernel_rfl
theorem ty114 : tyOf Tryd.prog 114 = some ⟨.struct [(0, 3), (1, 74), (3, 56)] true, 4, 48, [.int .i64 (0), .int .i64 (0), .int .i64 (0), .slice none 0 0]⟩ := by kernel_rfl
theorem ty115 : tyOf Tryd.prog 115 = some ⟨.struct [(0, 3), (1, 74), (3, 56)] true, 4, 48, [.int .i64 (0), .int .i64 (0), .int .i64 (0), .slice none 0 0]⟩ := by kernel_rfl
theorem ty122 : tyOf Tryd.prog 122 = some ⟨.slice 3, 1, 24, [.slice none 0 0]⟩ := by kernel_rfl
theorem ty127 : tyOf Tryd.prog 127 = some ⟨.struct [(0, 63), (1, 3), (2, 3)] true, 3, 24, [.pointer none, .int .i64 (0), .int .i64 (0)]⟩ := by kernel_rfl
theorem ty128 : tyOf Tryd.prog 128 = some ⟨.struct [(0, 63), (1, 3), (2, 3)] true, 3, 24, [.pointer none, .int .i64 (0), .int .i64 (0)]⟩ := by kernel_rfl
theorem ty133 : tyOf Tryd.prog 133 = some ⟨.slice 129, 1, 24, [.slice none 0 0]⟩ := by kernel_rfl
theorem ty134 : tyOf Tryd.prog 134 = some ⟨.slice 139, 1, 24, [.slice none 0 0]⟩ := by kernel_rfl
theorem ty138 : tyOf Tryd.prog 138 = some ⟨.array 64 5, 64, 64, [.int .u8 (0), .int .u8 (0), .int .u8 (0), .int .u8 (0), .int .u8 (0), .int .u8 (0), .int .u8 (0), .int .u8 (0), .int .u8 (0), .int .u8 (0), .int .u8 (0), .int .u8 (0), .int .u8 (0), .int .u8 (0), .int .u8 (0), .int .u8 (0), .int .u8 (0), .int .u8 (0), .int .u8 (0), .int .u8 (0), .int .u8 (0), .int .u8 (0), .int .u8 (0), .int .u8 (0), .int .u8 (0), .int .u8 (0), .int .u8 (0), .int .u8 (0), .int .u8 (0), .int .u8 (0), .int .u8 (0), .int .u8 (0), .int .u8 (0), .int .u8 (0), .int .u8 (0), .int .u8 (0), .int .u8 (0), .int .u8 (0), .int .u8 (0), .int .u8 (0), .int .u8 (0), .int .u8 (0), .int .u8 (0), .int .u8 (0), .int .u8 (0), .int .u8 (0), .int .u8 (0), .int .u8 (0), .int .u8 (0), .int .u8 (0), .int .u8 (0), .int .u8 (0), .int .u8 (0), .int .u8 (0), .int .u8 (0), .int .u8 (0), .int .u8 (0), .int .u8 (0), .int .u8 (0), .int .u8 (0), .int .u8 (0), .int .u8 (0), .int .u8 (0), .int .u8 (0)]⟩ := by kernel_rfl
theorem ty139 : tyOf Tryd.prog 139 = some ⟨.array 64 5, 64, 64, [.int .u8 (0), .int .u8 (0), .int .u8 (0), .int .u8 (0), .int .u8 (0), .int .u8 (0), .int .u8 (0), .int .u8 (0), .int .u8 (0), .int .u8 (0), .int .u8 (0), .int .u8 (0), .int .u8 (0), .int .u8 (0), .int .u8 (0), .int .u8 (0), .int .u8 (0), .int .u8 (0), .int .u8 (0), .int .u8 (0), .int .u8 (0), .int .u8 (0), .int .u8 (0), .int .u8 (0), .int .u8 (0), .int .u8 (0), .int .u8 (0), .int .u8 (0), .int .u8 (0), .int .u8 (0), .int .u8 (0), .int .u8 (0), .int .u8 (0), .int .u8 (0), .int .u8 (0), .int .u8 (0), .int .u8 (0), .int .u8 (0), .int .u8 (0), .int .u8 (0), .int .u8 (0), .int .u8 (0), .int .u8 (0), .int .u8 (0), .int .u8 (0), .int .u8 (0), .int .u8 (0), .int .u8 (0), .int .u8 (0), .int .u8 (0), .int .u8 (0), .int .u8 (0), .int .u8 (0), .int .u8 (0), .int .u8 (0), .int .u8 (0), .int .u8 (0), .int .u8 (0), .int .u8 (0), .int .u8 (0), .int .u8 (0), .int .u8 (0), .int .u8 (0), .int .u8 (0)]⟩ := by kernel_rfl
theorem ty149 : tyOf Tryd.prog 149 = some ⟨.struct [(0, 3), (1, 9), (2, 2), (3, 3)] true, 4, 40, [.int .i64 (0), .string ⟨#[]⟩, .int .i64 (0), .int .i64 (0)]⟩ := by kernel_rfl
theorem ty152 : tyOf Tryd.prog 152 = some ⟨.prim (.int .u64), 1, 8, [.int .u64 (0)]⟩ := by kernel_rfl
theorem ty182 : tyOf Tryd.prog 182 = some ⟨.prim (.int .u32), 1, 4, [.int .u32 (0)]⟩ := by kernel_rfl
theorem ty208 : tyOf Tryd.prog 208 = some ⟨.slice 56, 1, 24, [.slice none 0 0]⟩ := by kernel_rfl
theorem ty216 : tyOf Tryd.prog 216 = some ⟨.prim (.pointer 212), 1, 8, [.pointer none]⟩ := by kernel_rfl
theorem ty217 : tyOf Tryd.prog 217 = some ⟨.prim (.interface #[("Error", 228)]), 1, 16, [.nilIface]⟩ := by kernel_rfl
theorem ty218 : tyOf Tryd.prog 218 = some ⟨.prim (.interface #[("Error", 228)]), 1, 16, [.nilIface]⟩ := by kernel_rfl
theorem ty222 : tyOf Tryd.prog 222 = some ⟨.prim (.pointer 224), 1, 8, [.pointer none]⟩ := by kernel_rfl
theorem ty223 : tyOf Tryd.prog 223 = some ⟨.struct [(0, 222), (1, 56)] true, 2, 32, [.pointer none, .slice none 0 0]⟩ := by kernel_rfl
theorem ty224 : tyOf Tryd.prog 224 = some ⟨.struct [(0, 222), (1, 56)] true, 2, 32, [.pointer none, .slice none 0 0]⟩ := by kernel_rfl
theorem ty232 : tyOf Tryd.prog 232 = some ⟨.slice 21, 1, 24, [.slice none 0 0]⟩ := by kernel_rfl
theorem ty234 : tyOf Tryd.prog 234 = some ⟨.slice 4, 1, 24, [.slice none 0 0]⟩ := by kernel_rfl
theorem ty242 : tyOf Tryd.prog 242 = some ⟨.prim (.pointer 5), 1, 8, [.pointer none]⟩ := by kernel_rfl
theorem ty243 : tyOf Tryd.prog 243 = some ⟨.array 24 5, 24, 24, [.int .u8 (0), .int .u8 (0), .int .u8 (0), .int .u8 (0), .int .u8 (0), .int .u8 (0), .int .u8 (0), .int .u8 (0), .int .u8 (0), .int .u8 (0), .int .u8 (0), .int .u8 (0), .int .u8 (0), .int .u8 (0), .int .u8 (0), .int .u8 (0), .int .u8 (0), .int .u8 (0), .int .u8 (0), .int .u8 (0), .int .u8 (0), .int .u8 (0), .int .u8 (0), .int .u8 (0)]⟩ := by kernel_rfl
theorem ty251 : tyOf Tryd.prog 251 = some ⟨.array 16 182, 16, 64, [.int .u32 (0), .int .u32 (0), .int .u32 (0), .int .u32 (0), .int .u32 (0), .int .u32 (0), .int .u32 (0), .int .u32 (0), .int .u32 (0), .int .u32 (0), .int .u32 (0), .int .u32 (0), .int .u32 (0), .int .u32 (0), .int .u32 (0), .int .u32 (0)]⟩ := by kernel_rfl
theorem ty252 : tyOf Tryd.prog 252 = some ⟨.prim (.int .i64), 1, 8, [.int .i64 (0)]⟩ := by kernel_rfl
theorem ty255 : tyOf Tryd.prog 255 = some ⟨.prim (.pointer 275), 1, 8, [.pointer none]⟩ := by kernel_rfl
theorem ty261 : tyOf Tryd.prog 261 = some ⟨.array 20 22, 20, 160, [.int .u64 (0), .int .u64 (0), .int .u64 (0), .int .u64 (0), .int .u64 (0), .int .u64 (0), .int .u64 (0), .int .u64 (0), .int .u64 (0), .int .u64 (0), .int .u64 (0), .int .u64 (0), .int .u64 (0), .int .u64 (0), .int .u64 (0), .int .u64 (0), .int .u64 (0), .int .u64 (0), .int .u64 (0), .int .u64 (0)]⟩ := by kernel_rfl
theorem ty269 : tyOf Tryd.prog 269 = some ⟨.struct [(0, 5), (1, 5)] true, 2, 2, [.int .u8 (0), .int .u8 (0)]⟩ := by kernel_rfl
theorem ty270 : tyOf Tryd.prog 270 = some ⟨.struct [(0, 5), (1, 5)] true, 2, 2, [.int .u8 (0), .int .u8 (0)]⟩ := by kernel_rfl
theorem ty271 : tyOf Tryd.prog 271 = some ⟨.array 16 270, 32, 32, [.int .u8 (0), .int .u8 (0), .int .u8 (0), .int .u8 (0), .int .u8 (0), .int .u8 (0), .int .u8 (0), .int .u8 (0), .int .u8 (0), .int .u8 (0), .int .u8 (0), .int .u8 (0), .int .u8 (0), .int .u8 (0), .int .u8 (0), .int .u8 (0), .int .u8 (0), .int .u8 (0), .int .u8 (0), .int .u8 (0), .int .u8 (0), .int .u8 (0), .int .u8 (0), .int .u8 (0), .int .u8 (0), .int .u8 (0), .int .u8 (0), .int .u8 (0), .int .u8 (0), .int .u8 (0), .int .u8 (0), .int .u8 (0)]⟩ := by kernel_rfl
theorem ty274 : tyOf Tryd.prog 274 = some ⟨.struct [(0, 9), (1, 9), (2, 218)] false, 3, 48, [.string ⟨#[]⟩, .string ⟨#[]⟩, .nilIface]⟩ := by kernel_rfl
theorem ty275 : tyOf Tryd.prog 275 = some ⟨.struct [(0, 9), (1, 9), (2, 218)] false, 3, 48, [.string ⟨#[]⟩, .string ⟨#[]⟩, .nilIface]⟩ := by kernel_rfl
theorem ty280 : tyOf Tryd.prog 280 = some ⟨.prim (.pointer 282), 1, 8, [.pointer none]⟩ := by kernel_rfl
theorem ty281 : tyOf Tryd.prog 281 = some ⟨.struct [(0, 9)] true, 1, 16, [.string ⟨#[]⟩]⟩ := by kernel_rfl
theorem ty282 : tyOf Tryd.prog 282 = some ⟨.struct [(0, 9)] true, 1, 16, [.string ⟨#[]⟩]⟩ := by kernel_rfl
theorem ty283 : tyOf Tryd.prog 283 = some ⟨.array 32 5, 32, 32, [.int .u8 (0), .int .u8 (0), .int .u8 (0), .int .u8 (0), .int .u8 (0), .int .u8 (0), .int .u8 (0), .int .u8 (0), .int .u8 (0), .int .u8 (0), .int .u8 (0), .int .u8 (0), .int .u8 (0), .int .u8 (0), .int .u8 (0), .int .u8 (0), .int .u8 (0), .int .u8 (0), .int .u8 (0), .int .u8 (0), .int .u8 (0), .int .u8 (0), .int .u8 (0), .int .u8 (0), .int .u8 (0), .int .u8 (0), .int .u8 (0), .int .u8 (0), .int .u8 (0), .int .u8 (0), .int .u8 (0), .int .u8 (0)]⟩ := by kernel_rfl
theorem ty284 : tyOf Tryd.prog 284 = some ⟨.struct [(0, 17), (1, 17), (2, 17), (3, 9)] false, 4, 40, [.pointer none, .pointer none, .pointer none, .string ⟨#[]⟩]⟩ := by kernel_rfl
theorem ty285 : tyOf Tryd.prog 285 = some ⟨.struct [(0, 17), (1, 17), (2, 17), (3, 9)] false, 4, 40, [.pointer none, .pointer none, .pointer none, .string ⟨#[]⟩]⟩ := by kernel_rfl
theorem ty286 : tyOf Tryd.prog 286 = some ⟨.array 0 16, 0, 0, []⟩ := by kernel_rfl
theorem ty287 : tyOf Tryd.prog 287 = some ⟨.struct [(0, 286)] false, 0, 0, []⟩ := by kernel_rfl
theorem ty288 : tyOf Tryd.prog 288 = some ⟨.struct [(0, 286)] false, 0, 0, []⟩ := by kernel_rfl
theorem ty289 : tyOf Tryd.prog 289 = some ⟨.prim (.int .u8), 1, 1, [.int .u8 (0)]⟩ := by kernel_rfl
theorem ty290 : tyOf Tryd.prog 290 = some ⟨.prim (.int .u8), 1, 1, [.int .u8 (0)]⟩ := by kernel_rfl
theorem ty292 : tyOf Tryd.prog 292 = some ⟨.prim (.int .i32), 1, 4, [.int .i32 (0)]⟩ := by kernel_rfl
theorem ty293 : tyOf Tryd.prog 293 = some ⟨.prim (.int .i32), 1, 4, [.int .i32 (0)]⟩ := by kernel_rfl
theorem ty294 : tyOf Tryd.prog 294 = some ⟨.struct [(0, 12), (1, 12), (2, 182), (3, 289), (4, 5), (5, 5), (6, 290), (7, 291), (8, 242), (9, 292), (10, 293)] false, 11, 48, [.int .u64 (0), .int .u64 (0), .int .u32 (0), .int .u8 (0), .int .u8 (0), .int .u8 (0), .int .u8 (0), .nilFunc, .pointer none, .int .i32 (0), .int .i32 (0)]⟩ := by kernel_rfl
theorem ty295 : tyOf Tryd.prog 295 = some ⟨.struct [(0, 12), (1, 12), (2, 182), (3, 289), (4, 5), (5, 5), (6, 290), (7, 291), (8, 242), (9, 292), (10, 293)] false, 11, 48, [.int .u64 (0), .int .u64 (0), .int .u32 (0), .int .u8 (0), .int .u8 (0), .int .u8 (0), .int .u8 (0), .nilFunc, .pointer none, .int .i32 (0), .int .i32 (0)]⟩ := by kernel_rfl
end Go.Proofs.YtdedmhmomoejkaaDoor.V
