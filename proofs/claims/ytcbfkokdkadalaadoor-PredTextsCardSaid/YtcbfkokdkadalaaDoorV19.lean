import Derived.Test.YtcbfkokdkadalaaDoorVB
import Derived.Test.YtcbfkokdkadalaaDoorProg
namespace Go.Proofs.YtcbfkokdkadalaaDoor.V
open Go Go.RowKit Go.Proofs
/-! The types of the program (printed by a program). -/
theorem mx : Tryd.prog.follows .mixedOrders = true := by kernel_rfl
theorem ty2 : tyOf Tryd.prog 2 = some ⟨.prim (.int .i64), 1, 8, [.int .i64 (0)]⟩ := by kernel_rfl
theorem ty3 : tyOf Tryd.prog 3 = some ⟨.prim (.int .i64), 1, 8, [.int .i64 (0)]⟩ := by kernel_rfl
theorem ty4 : tyOf Tryd.prog 4 = some ⟨.prim .bool, 1, 1, [.bool false]⟩ := by kernel_rfl
theorem ty5 : tyOf Tryd.prog 5 = some ⟨.prim (.int .u8), 1, 1, [.int .u8 (0)]⟩ := by kernel_rfl
theorem ty6 : tyOf Tryd.prog 6 = some ⟨.prim (.int .u8), 1, 1, [.int .u8 (0)]⟩ := by kernel_rfl
theorem ty7 : tyOf Tryd.prog 7 = some ⟨.struct [(0, 2), (1, 3), (2, 4), (3, 6)] true, 4, 24, [.int .i64 (0), .int .i64 (0), .bool false, .int .u8 (0)]⟩ := by kernel_rfl
theorem ty8 : tyOf Tryd.prog 8 = some ⟨.struct [(0, 2), (1, 3), (2, 4), (3, 6)] true, 4, 24, [.int .i64 (0), .int .i64 (0), .bool false, .int .u8 (0)]⟩ := by kernel_rfl
theorem ty9 : tyOf Tryd.prog 9 = some ⟨.prim .string, 1, 16, [.string ⟨#[]⟩]⟩ := by kernel_rfl
theorem ty10 : tyOf Tryd.prog 10 = some ⟨.prim .string, 1, 16, [.string ⟨#[]⟩]⟩ := by kernel_rfl
theorem ty11 : tyOf Tryd.prog 11 = some ⟨.prim .string, 1, 16, [.string ⟨#[]⟩]⟩ := by kernel_rfl
theorem ty12 : tyOf Tryd.prog 12 = some ⟨.prim (.int .u64), 1, 8, [.int .u64 (0)]⟩ := by kernel_rfl
theorem ty13 : tyOf Tryd.prog 13 = some ⟨.struct [(0, 9), (1, 12)] false, 2, 24, [.string ⟨#[]⟩, .int .u64 (0)]⟩ := by kernel_rfl
theorem ty14 : tyOf Tryd.prog 14 = some ⟨.struct [(0, 9), (1, 12)] false, 2, 24, [.string ⟨#[]⟩, .int .u64 (0)]⟩ := by kernel_rfl
theorem ty15 : tyOf Tryd.prog 15 = some ⟨.prim (.pointer 100), 1, 8, [.pointer none]⟩ := by kernel_rfl
theorem ty16 : tyOf Tryd.prog 16 = some ⟨.prim (.pointer 103), 1, 8, [.pointer none]⟩ := by kernel_rfl
theorem ty17 : tyOf Tryd.prog 17 = some ⟨.prim (.pointer 111), 1, 8, [.pointer none]⟩ := by kernel_rfl
theorem ty18 : tyOf Tryd.prog 18 = some ⟨.struct [(0, 17)] false, 1, 8, [.pointer none]⟩ := by kernel_rfl
theorem ty19 : tyOf Tryd.prog 19 = some ⟨.struct [(0, 17)] false, 1, 8, [.pointer none]⟩ := by kernel_rfl
theorem ty20 : tyOf Tryd.prog 20 = some ⟨.prim (.interface #[]), 1, 16, [.nilIface]⟩ := by kernel_rfl
theorem ty21 : tyOf Tryd.prog 21 = some ⟨.prim (.int .i32), 1, 4, [.int .i32 (0)]⟩ := by kernel_rfl
theorem ty22 : tyOf Tryd.prog 22 = some ⟨.struct [(0, 4), (1, 2), (2, 9)] true, 3, 32, [.bool false, .int .i64 (0), .string ⟨#[]⟩]⟩ := by kernel_rfl
theorem ty23 : tyOf Tryd.prog 23 = some ⟨.struct [(0, 4), (1, 2), (2, 9)] true, 3, 32, [.bool false, .int .i64 (0), .string ⟨#[]⟩]⟩ := by kernel_rfl
theorem ty24 : tyOf Tryd.prog 24 = some ⟨.slice 26, 1, 24, [.slice none 0 0]⟩ := by kernel_rfl
theorem ty25 : tyOf Tryd.prog 25 = some ⟨.struct [(0, 3), (1, 9), (2, 3), (3, 23), (6, 3), (7, 9), (8, 24)] true, 9, 112, [.int .i64 (0), .string ⟨#[]⟩, .int .i64 (0), .bool false, .int .i64 (0), .string ⟨#[]⟩, .int .i64 (0), .string ⟨#[]⟩, .slice none 0 0]⟩ := by kernel_rfl
theorem ty26 : tyOf Tryd.prog 26 = some ⟨.struct [(0, 3), (1, 9), (2, 3), (3, 23), (6, 3), (7, 9), (8, 24)] true, 9, 112, [.int .i64 (0), .string ⟨#[]⟩, .int .i64 (0), .bool false, .int .i64 (0), .string ⟨#[]⟩, .int .i64 (0), .string ⟨#[]⟩, .slice none 0 0]⟩ := by kernel_rfl
theorem ty33 : tyOf Tryd.prog 33 = some ⟨.slice 9, 1, 24, [.slice none 0 0]⟩ := by kernel_rfl
theorem ty47 : tyOf Tryd.prog 47 = some ⟨.prim (.int .u64), 1, 8, [.int .u64 (0)]⟩ := by kernel_rfl
theorem ty48 : tyOf Tryd.prog 48 = some ⟨.slice 5, 1, 24, [.slice none 0 0]⟩ := by kernel_rfl
theorem ty55 : tyOf Tryd.prog 55 = some ⟨.prim (.pointer 57), 1, 8, [.pointer none]⟩ := by kernel_rfl
theorem ty56 : tyOf Tryd.prog 56 = some ⟨.struct [(0, 55), (1, 48)] true, 2, 32, [.pointer none, .slice none 0 0]⟩ := by kernel_rfl
theorem ty57 : tyOf Tryd.prog 57 = some ⟨.struct [(0, 55), (1, 48)] true, 2, 32, [.pointer none, .slice none 0 0]⟩ := by kernel_rfl
theorem ty59 : tyOf Tryd.prog 59 = some ⟨.prim (.interface #[("Error", 63)]), 1, 16, [.nilIface]⟩ := by kernel_rfl
theorem ty60 : tyOf Tryd.prog 60 = some ⟨.prim (.interface #[("Error", 63)]), 1, 16, [.nilIface]⟩ := by kernel_rfl
theorem ty64 : tyOf Tryd.prog 64 = some ⟨.array 7 9, 7, 112, [.string ⟨#[]⟩, .string ⟨#[]⟩, .string ⟨#[]⟩, .string ⟨#[]⟩, .string ⟨#[]⟩, .string ⟨#[]⟩, .string ⟨#[]⟩]⟩ := by kernel_rfl
theorem ty68 : tyOf Tryd.prog 68 = some ⟨.prim (.pointer 5), 1, 8, [.pointer none]⟩ := by kernel_rfl
theorem ty69 : tyOf Tryd.prog 69 = some ⟨.array 24 5, 24, 24, [.int .u8 (0), .int .u8 (0), .int .u8 (0), .int .u8 (0), .int .u8 (0), .int .u8 (0), .int .u8 (0), .int .u8 (0), .int .u8 (0), .int .u8 (0), .int .u8 (0), .int .u8 (0), .int .u8 (0), .int .u8 (0), .int .u8 (0), .int .u8 (0), .int .u8 (0), .int .u8 (0), .int .u8 (0), .int .u8 (0), .int .u8 (0), .int .u8 (0), .int .u8 (0), .int .u8 (0)]⟩ := by kernel_rfl
theorem ty82 : tyOf Tryd.prog 82 = some ⟨.array 20 47, 20, 160, [.int .u64 (0), .int .u64 (0), .int .u64 (0), .int .u64 (0), .int .u64 (0), .int .u64 (0), .int .u64 (0), .int .u64 (0), .int .u64 (0), .int .u64 (0), .int .u64 (0), .int .u64 (0), .int .u64 (0), .int .u64 (0), .int .u64 (0), .int .u64 (0), .int .u64 (0), .int .u64 (0), .int .u64 (0), .int .u64 (0)]⟩ := by kernel_rfl
theorem ty83 : tyOf Tryd.prog 83 = some ⟨.prim (.int .u32), 1, 4, [.int .u32 (0)]⟩ := by kernel_rfl
theorem ty86 : tyOf Tryd.prog 86 = some ⟨.prim (.int .u64), 1, 8, [.int .u64 (0)]⟩ := by kernel_rfl
theorem ty92 : tyOf Tryd.prog 92 = some ⟨.struct [(0, 5), (1, 5)] true, 2, 2, [.int .u8 (0), .int .u8 (0)]⟩ := by kernel_rfl
theorem ty93 : tyOf Tryd.prog 93 = some ⟨.struct [(0, 5), (1, 5)] true, 2, 2, [.int .u8 (0), .int .u8 (0)]⟩ := by kernel_rfl
theorem ty94 : tyOf Tryd.prog 94 = some ⟨.array 16 93, 32, 32, [.int .u8 (0), .int .u8 (0), .int .u8 (0), .int .u8 (0), .int .u8 (0), .int .u8 (0), .int .u8 (0), .int .u8 (0), .int .u8 (0), .int .u8 (0), .int .u8 (0), .int .u8 (0), .int .u8 (0), .int .u8 (0), .int .u8 (0), .int .u8 (0), .int .u8 (0), .int .u8 (0), .int .u8 (0), .int .u8 (0), .int .u8 (0), .int .u8 (0), .int .u8 (0), .int .u8 (0), .int .u8 (0), .int .u8 (0), .int .u8 (0), .int .u8 (0), .int .u8 (0), .int .u8 (0), .int .u8 (0), .int .u8 (0)]⟩ := by kernel_rfl
theorem ty95 : tyOf Tryd.prog 95 = some ⟨.array 32 5, 32, 32, [.int .u8 (0), .int .u8 (0), .int .u8 (0), .int .u8 (0), .int .u8 (0), .int .u8 (0), .int .u8 (0), .int .u8 (0), .int .u8 (0), .int .u8 (0), .int .u8 (0), .int .u8 (0), .int .u8 (0), .int .u8 (0), .int .u8 (0), .int .u8 (0), .int .u8 (0), .int .u8 (0), .int .u8 (0), .int .u8 (0), .int .u8 (0), .int .u8 (0), .int .u8 (0), .int .u8 (0), .int .u8 (0), .int .u8 (0), .int .u8 (0), .int .u8 (0), .int .u8 (0), .int .u8 (0), .int .u8 (0), .int .u8 (0)]⟩ := by kernel_rfl
theorem ty96 : tyOf Tryd.prog 96 = some ⟨.array 64 5, 64, 64, [.int .u8 (0), .int .u8 (0), .int .u8 (0), .int .u8 (0), .int .u8 (0), .int .u8 (0), .int .u8 (0), .int .u8 (0), .int .u8 (0), .int .u8 (0), .int .u8 (0), .int .u8 (0), .int .u8 (0), .int .u8 (0), .int .u8 (0), .int .u8 (0), .int .u8 (0), .int .u8 (0), .int .u8 (0), .int .u8 (0), .int .u8 (0), .int .u8 (0), .int .u8 (0), .int .u8 (0), .int .u8 (0), .int .u8 (0), .int .u8 (0), .int .u8 (0), .int .u8 (0), .int .u8 (0), .int .u8 (0), .int .u8 (0), .int .u8 (0), .int .u8 (0), .int .u8 (0), .int .u8 (0), .int .u8 (0), .int .u8 (0), .int .u8 (0), .int .u8 (0), .int .u8 (0), .int .u8 (0), .int .u8 (0), .int .u8 (0), .int .u8 (0), .int .u8 (0), .int .u8 (0), .int .u8 (0), .int .u8 (0), .int .u8 (0), .int .u8 (0), .int .u8 (0), .int .u8 (0), .int .u8 (0), .int .u8 (0), .int .u8 (0), .int .u8 (0), .int .u8 (0), .int .u8 (0), .int .u8 (0), .int .u8 (0), .int .u8 (0), .int .u8 (0), .int .u8 (0)]⟩ := by kernel_rfl
theorem ty99 : tyOf Tryd.prog 99 = some ⟨.struct [(0, 17), (1, 17), (2, 17), (3, 9)] false, 4, 40, [.pointer none, .pointer none, .pointer none, .string ⟨#[]⟩]⟩ := by kernel_rfl
theorem ty100 : tyOf Tryd.prog 100 = some ⟨.struct [(0, 17), (1, 17), (2, 17), (3, 9)] false, 4, 40, [.pointer none, .pointer none, .pointer none, .string ⟨#[]⟩]⟩ := by kernel_rfl
theorem ty101 : tyOf Tryd.prog 101 = some ⟨.array 0 16, 0, 0, []⟩ := by kernel_rfl
theorem ty102 : tyOf Tryd.prog 102 = some ⟨.struct [(0, 101)] false, 0, 0, []⟩ := by kernel_rfl
theorem ty103 : tyOf Tryd.prog 103 = some ⟨.struct [(0, 101)] false, 0, 0, []⟩ := by kernel_rfl
theorem ty105 : tyOf Tryd.prog 105 = some ⟨.prim (.int .u8), 1, 1, [.int .u8 (0)]⟩ := by kernel_rfl
theorem ty106 : tyOf Tryd.prog 106 = some ⟨.prim (.int .u8), 1, 1, [.int .u8 (0)]⟩ := by kernel_rfl
theorem ty108 : tyOf Tryd.prog 108 = some ⟨.prim (.int .i32), 1, 4, [.int .i32 (0)]⟩ := by kernel_rfl
theorem ty109 : tyOf Tryd.prog 109 = some ⟨.prim (.int .i32), 1, 4, [.int .i32 (0)]⟩ := by kernel_rfl
theorem ty110 : tyOf Tryd.prog 110 = some ⟨.struct [(0, 12), (1, 12), (2, 83), (3, 105), (4, 5), (5, 5), (6, 106), (7, 107), (8, 68), (9, 108), (10, 109)] false, 11, 48, [.int .u64 (0), .int .u64 (0), .int .u32 (0), .int .u8 (0), .int .u8 (0), .int .u8 (0), .int .u8 (0), .nilFunc, .pointer none, .int .i32 (0), .int .i32 (0)]⟩ := by kernel_rfl
theorem ty111 : tyOf Tryd.prog 111 = some ⟨.struct [(0, 12), (1, 12), (2, 83), (3, 105), (4, 5), (5, 5), (6, 106), (7, 107), (8, 68), (9, 108), (10, 109)] false, 11, 48, [.int .u64 (0), .int .u64 (0), .int .u32 (0), .int .u8 (0), .int .u8 (0), .int .u8 (0), .int .u8 (0), .nilFunc, .pointer none, .int .i32 (0), .int .i32 (0)]⟩ := by kernel_rfl
end Go.Proofs.YtcbfkokdkadalaaDoor.V
