import Derived.Test.YthinpbnnpelhhaaGreatDoorVB
import Derived.Test.YthinpbnnpelhhaaGreatDoorProg
namespace Go.Proofs.YthinpbnnpelhhaaGreatDoor.V
open Go Go.RowKit Go.Proofs
/-! The types of the program (printed by a program). -/
theorem mx : Tryz.prog.follows .mixedOrders = true := by kernel_rfl
theorem ty1 : tyOf Tryz.prog 1 = some ⟨.prim (.func #[] #[] false), 1, 8, [.nilFunc]⟩ := by kernel_rfl
theorem ty2 : tyOf Tryz.prog 2 = some ⟨.prim (.int .i64), 1, 8, [.int .i64 (0)]⟩ := by kernel_rfl
theorem ty3 : tyOf Tryz.prog 3 = some ⟨.prim (.int .i64), 1, 8, [.int .i64 (0)]⟩ := by kernel_rfl
theorem ty4 : tyOf Tryz.prog 4 = some ⟨.prim .bool, 1, 1, [.bool false]⟩ := by kernel_rfl
theorem ty5 : tyOf Tryz.prog 5 = some ⟨.prim (.int .u8), 1, 1, [.int .u8 (0)]⟩ := by kernel_rfl
theorem ty6 : tyOf Tryz.prog 6 = some ⟨.prim (.int .u8), 1, 1, [.int .u8 (0)]⟩ := by kernel_rfl
theorem ty7 : tyOf Tryz.prog 7 = some ⟨.struct [(0, 2), (1, 3), (2, 4), (3, 6)] true, 4, 24, [.int .i64 (0), .int .i64 (0), .bool false, .int .u8 (0)]⟩ := by kernel_rfl
theorem ty8 : tyOf Tryz.prog 8 = some ⟨.struct [(0, 2), (1, 3), (2, 4), (3, 6)] true, 4, 24, [.int .i64 (0), .int .i64 (0), .bool false, .int .u8 (0)]⟩ := by kernel_rfl
theorem ty9 : tyOf Tryz.prog 9 = some ⟨.prim .string, 1, 16, [.string ⟨#[]⟩]⟩ := by kernel_rfl
theorem ty10 : tyOf Tryz.prog 10 = some ⟨.prim .string, 1, 16, [.string ⟨#[]⟩]⟩ := by kernel_rfl
theorem ty11 : tyOf Tryz.prog 11 = some ⟨.prim .string, 1, 16, [.string ⟨#[]⟩]⟩ := by kernel_rfl
theorem ty12 : tyOf Tryz.prog 12 = some ⟨.prim (.int .u64), 1, 8, [.int .u64 (0)]⟩ := by kernel_rfl
theorem ty13 : tyOf Tryz.prog 13 = some ⟨.struct [(0, 9), (1, 12)] false, 2, 24, [.string ⟨#[]⟩, .int .u64 (0)]⟩ := by kernel_rfl
theorem ty14 : tyOf Tryz.prog 14 = some ⟨.struct [(0, 9), (1, 12)] false, 2, 24, [.string ⟨#[]⟩, .int .u64 (0)]⟩ := by kernel_rfl
theorem ty15 : tyOf Tryz.prog 15 = some ⟨.prim (.pointer 139), 1, 8, [.pointer none]⟩ := by kernel_rfl
theorem ty16 : tyOf Tryz.prog 16 = some ⟨.prim (.pointer 142), 1, 8, [.pointer none]⟩ := by kernel_rfl
theorem ty17 : tyOf Tryz.prog 17 = some ⟨.prim (.pointer 150), 1, 8, [.pointer none]⟩ := by kernel_rfl
theorem ty18 : tyOf Tryz.prog 18 = some ⟨.struct [(0, 17)] false, 1, 8, [.pointer none]⟩ := by kernel_rfl
theorem ty19 : tyOf Tryz.prog 19 = some ⟨.struct [(0, 17)] false, 1, 8, [.pointer none]⟩ := by kernel_rfl
theorem ty20 : tyOf Tryz.prog 20 = some ⟨.prim (.interface #[]), 1, 16, [.nilIface]⟩ := by kernel_rfl
theorem ty21 : tyOf Tryz.prog 21 = some ⟨.prim (.int .i32), 1, 4, [.int .i32 (0)]⟩ := by kernel_rfl
theorem ty22 : tyOf Tryz.prog 22 = some ⟨.slice 9, 1, 24, [.slice none 0 0]⟩ := by kernel_rfl
theorem ty23 : tyOf Tryz.prog 23 = some ⟨.struct [(0, 4), (1, 2), (2, 9)] true, 3, 32, [.bool false, .int .i64 (0), .string ⟨#[]⟩]⟩ := by kernel_rfl
theorem ty24 : tyOf Tryz.prog 24 = some ⟨.struct [(0, 4), (1, 2), (2, 9)] true, 3, 32, [.bool false, .int .i64 (0), .string ⟨#[]⟩]⟩ := by kernel_rfl
theorem ty25 : tyOf Tryz.prog 25 = some ⟨.slice 27, 1, 24, [.slice none 0 0]⟩ := by kernel_rfl
theorem ty26 : tyOf Tryz.prog 26 = some ⟨.struct [(0, 3), (1, 9), (2, 3), (3, 24), (6, 3), (7, 9), (8, 25)] true, 9, 112, [.int .i64 (0), .string ⟨#[]⟩, .int .i64 (0), .bool false, .int .i64 (0), .string ⟨#[]⟩, .int .i64 (0), .string ⟨#[]⟩, .slice none 0 0]⟩ := by kernel_rfl
theorem ty27 : tyOf Tryz.prog 27 = some ⟨.struct [(0, 3), (1, 9), (2, 3), (3, 24), (6, 3), (7, 9), (8, 25)] true, 9, 112, [.int .i64 (0), .string ⟨#[]⟩, .int .i64 (0), .bool false, .int .i64 (0), .string ⟨#[]⟩, .int .i64 (0), .string ⟨#[]⟩, .slice none 0 0]⟩ := by kernel_rfl
theorem ty28 : tyOf Tryz.prog 28 = some ⟨.slice 36, 1, 24, [.slice none 0 0]⟩ := by kernel_rfl
theorem ty29 : tyOf Tryz.prog 29 = some ⟨.struct [(0, 9), (1, 22), (2, 27), (11, 28), (12, 9)] true, 13, 192, [.string ⟨#[]⟩, .slice none 0 0, .int .i64 (0), .string ⟨#[]⟩, .int .i64 (0), .bool false, .int .i64 (0), .string ⟨#[]⟩, .int .i64 (0), .string ⟨#[]⟩, .slice none 0 0, .slice none 0 0, .string ⟨#[]⟩]⟩ := by kernel_rfl
theorem ty30 : tyOf Tryz.prog 30 = some ⟨.struct [(0, 9), (1, 22), (2, 27), (11, 28), (12, 9)] true, 13, 192, [.string ⟨#[]⟩, .slice none 0 0, .int .i64 (0), .string ⟨#[]⟩, .int .i64 (0), .bool false, .int .i64 (0), .string ⟨#[]⟩, .int .i64 (0), .string ⟨#[]⟩, .slice none 0 0, .slice none 0 0, .string ⟨#[]⟩]⟩ := by kernel_rfl
theorem ty31 : tyOf Tryz.prog 31 = some ⟨.prim (.func #[30] #[4] false), 1, 8, [.nilFunc]⟩ := by kernel_rfl
theorem ty32 : tyOf Tryz.prog 32 = some ⟨.prim (.func #[] #[4] false), 1, 8, [.nilFunc]⟩ := by kernel_rfl
theorem ty33 : tyOf Tryz.prog 33 = some ⟨.prim (.func #[30] #[9] false), 1, 8, [.nilFunc]⟩ := by kernel_rfl
theorem ty34 : tyOf Tryz.prog 34 = some ⟨.prim (.func #[30, 30] #[4] false), 1, 8, [.nilFunc]⟩ := by kernel_rfl
theorem ty35 : tyOf Tryz.prog 35 = some ⟨.struct [(0, 3), (1, 9)] true, 2, 24, [.int .i64 (0), .string ⟨#[]⟩]⟩ := by kernel_rfl
theorem ty36 : tyOf Tryz.prog 36 = some ⟨.struct [(0, 3), (1, 9)] true, 2, 24, [.int .i64 (0), .string ⟨#[]⟩]⟩ := by kernel_rfl
theorem ty37 : tyOf Tryz.prog 37 = some ⟨.prim (.func #[27, 3] #[4] false), 1, 8, [.nilFunc]⟩ := by kernel_rfl
theorem ty38 : tyOf Tryz.prog 38 = some ⟨.prim (.func #[30] #[22] false), 1, 8, [.nilFunc]⟩ := by kernel_rfl
theorem ty39 : tyOf Tryz.prog 39 = some ⟨.prim (.func #[22, 9] #[9] false), 1, 8, [.nilFunc]⟩ := by kernel_rfl
theorem ty40 : tyOf Tryz.prog 40 = some ⟨.prim (.func #[27] #[9] false), 1, 8, [.nilFunc]⟩ := by kernel_rfl
theorem ty41 : tyOf Tryz.prog 41 = some ⟨.prim (.func #[36] #[9] false), 1, 8, [.nilFunc]⟩ := by kernel_rfl
theorem ty42 : tyOf Tryz.prog 42 = some ⟨.prim (.func #[22, 22] #[4] false), 1, 8, [.nilFunc]⟩ := by kernel_rfl
theorem ty43 : tyOf Tryz.prog 43 = some ⟨.prim (.func #[28, 28] #[4] false), 1, 8, [.nilFunc]⟩ := by kernel_rfl
theorem ty44 : tyOf Tryz.prog 44 = some ⟨.prim (.func #[27, 27] #[4] false), 1, 8, [.nilFunc]⟩ := by kernel_rfl
theorem ty45 : tyOf Tryz.prog 45 = some ⟨.prim (.func #[9] #[4] false), 1, 8, [.nilFunc]⟩ := by kernel_rfl
theorem ty46 : tyOf Tryz.prog 46 = some ⟨.prim (.func #[27] #[4] false), 1, 8, [.nilFunc]⟩ := by kernel_rfl
theorem ty47 : tyOf Tryz.prog 47 = some ⟨.prim (.func #[36] #[4] false), 1, 8, [.nilFunc]⟩ := by kernel_rfl
theorem ty48 : tyOf Tryz.prog 48 = some ⟨.prim (.func #[22, 45] #[4] false), 1, 8, [.nilFunc]⟩ := by kernel_rfl
theorem ty49 : tyOf Tryz.prog 49 = some ⟨.prim (.func #[22] #[4] false), 1, 8, [.nilFunc]⟩ := by kernel_rfl
theorem ty50 : tyOf Tryz.prog 50 = some ⟨.prim (.func #[28, 47] #[4] false), 1, 8, [.nilFunc]⟩ := by kernel_rfl
theorem ty51 : tyOf Tryz.prog 51 = some ⟨.prim (.func #[22] #[22] false), 1, 8, [.nilFunc]⟩ := by kernel_rfl
theorem ty52 : tyOf Tryz.prog 52 = some ⟨.prim (.pointer 55), 1, 8, [.pointer none]⟩ := by kernel_rfl
theorem ty53 : tyOf Tryz.prog 53 = some ⟨.slice 5, 1, 24, [.slice none 0 0]⟩ := by kernel_rfl
theorem ty54 : tyOf Tryz.prog 54 = some ⟨.struct [(0, 52), (1, 53)] true, 2, 32, [.pointer none, .slice none 0 0]⟩ := by kernel_rfl
theorem ty55 : tyOf Tryz.prog 55 = some ⟨.struct [(0, 52), (1, 53)] true, 2, 32, [.pointer none, .slice none 0 0]⟩ := by kernel_rfl
theorem ty56 : tyOf Tryz.prog 56 = some ⟨.prim (.func #[3] #[] false), 1, 8, [.nilFunc]⟩ := by kernel_rfl
theorem ty57 : tyOf Tryz.prog 57 = some ⟨.prim (.interface #[("Error", 61)]), 1, 16, [.nilIface]⟩ := by kernel_rfl
theorem ty58 : tyOf Tryz.prog 58 = some ⟨.prim (.interface #[("Error", 61)]), 1, 16, [.nilIface]⟩ := by kernel_rfl
theorem ty60 : tyOf Tryz.prog 60 = some ⟨.prim (.func #[9] #[3, 58] false), 1, 8, [.nilFunc]⟩ := by kernel_rfl
theorem ty61 : tyOf Tryz.prog 61 = some ⟨.prim (.func #[] #[9] false), 1, 8, [.nilFunc]⟩ := by kernel_rfl
theorem ty62 : tyOf Tryz.prog 62 = some ⟨.prim (.func #[25, 25, 44] #[4] false), 1, 8, [.nilFunc]⟩ := by kernel_rfl
theorem ty63 : tyOf Tryz.prog 63 = some ⟨.prim (.func #[] #[22] false), 1, 8, [.nilFunc]⟩ := by kernel_rfl
theorem ty64 : tyOf Tryz.prog 64 = some ⟨.prim (.func #[27, 3, 3] #[3] false), 1, 8, [.nilFunc]⟩ := by kernel_rfl
theorem ty65 : tyOf Tryz.prog 65 = some ⟨.prim (.func #[27, 3, 46] #[4] false), 1, 8, [.nilFunc]⟩ := by kernel_rfl
theorem ty66 : tyOf Tryz.prog 66 = some ⟨.prim (.func #[68] #[22] false), 1, 8, [.nilFunc]⟩ := by kernel_rfl
theorem ty67 : tyOf Tryz.prog 67 = some ⟨.prim (.func #[45] #[] false), 1, 8, [.nilFunc]⟩ := by kernel_rfl
theorem ty68 : tyOf Tryz.prog 68 = some ⟨.prim (.func #[45] #[] false), 1, 8, [.nilFunc]⟩ := by kernel_rfl
theorem ty69 : tyOf Tryz.prog 69 = some ⟨.prim (.func #[22] #[68] false), 1, 8, [.nilFunc]⟩ := by kernel_rfl
theorem ty70 : tyOf Tryz.prog 70 = some ⟨.prim (.pointer 5), 1, 8, [.pointer none]⟩ := by kernel_rfl
theorem ty71 : tyOf Tryz.prog 71 = some ⟨.prim (.func #[3] #[9] false), 1, 8, [.nilFunc]⟩ := by kernel_rfl
theorem ty72 : tyOf Tryz.prog 72 = some ⟨.prim (.func #[3, 24] #[9] false), 1, 8, [.nilFunc]⟩ := by kernel_rfl
theorem ty73 : tyOf Tryz.prog 73 = some ⟨.prim (.func #[9] #[9] false), 1, 8, [.nilFunc]⟩ := by kernel_rfl
theorem ty74 : tyOf Tryz.prog 74 = some ⟨.prim (.func #[27, 4] #[9] false), 1, 8, [.nilFunc]⟩ := by kernel_rfl
theorem ty75 : tyOf Tryz.prog 75 = some ⟨.prim (.func #[3, 4, 24] #[4] false), 1, 8, [.nilFunc]⟩ := by kernel_rfl
theorem ty76 : tyOf Tryz.prog 76 = some ⟨.prim (.func #[27] #[27] false), 1, 8, [.nilFunc]⟩ := by kernel_rfl
theorem ty77 : tyOf Tryz.prog 77 = some ⟨.prim (.func #[25, 46] #[4] false), 1, 8, [.nilFunc]⟩ := by kernel_rfl
theorem ty78 : tyOf Tryz.prog 78 = some ⟨.prim (.func #[22, 45] #[3] false), 1, 8, [.nilFunc]⟩ := by kernel_rfl
theorem ty79 : tyOf Tryz.prog 79 = some ⟨.prim (.func #[22] #[] false), 1, 8, [.nilFunc]⟩ := by kernel_rfl
theorem ty80 : tyOf Tryz.prog 80 = some ⟨.prim (.func #[28, 47] #[3] false), 1, 8, [.nilFunc]⟩ := by kernel_rfl
theorem ty82 : tyOf Tryz.prog 82 = some ⟨.prim (.func #[81] #[81] false), 1, 8, [.nilFunc]⟩ := by kernel_rfl
theorem ty83 : tyOf Tryz.prog 83 = some ⟨.prim (.func #[3] #[53] false), 1, 8, [.nilFunc]⟩ := by kernel_rfl
theorem ty84 : tyOf Tryz.prog 84 = some ⟨.array 7 9, 7, 112, [.string ⟨#[]⟩, .string ⟨#[]⟩, .string ⟨#[]⟩, .string ⟨#[]⟩, .string ⟨#[]⟩, .string ⟨#[]⟩, .string ⟨#[]⟩]⟩ := by kernel_rfl
theorem ty85 : tyOf Tryz.prog 85 = some ⟨.prim (.func #[2] #[9] false), 1, 8, [.nilFunc]⟩ := by kernel_rfl
theorem ty86 : tyOf Tryz.prog 86 = some ⟨.prim (.func #[9, 9, 9] #[9] false), 1, 8, [.nilFunc]⟩ := by kernel_rfl
theorem ty87 : tyOf Tryz.prog 87 = some ⟨.prim (.func #[25, 46] #[3] false), 1, 8, [.nilFunc]⟩ := by kernel_rfl
theorem ty88 : tyOf Tryz.prog 88 = some ⟨.prim (.func #[22, 68] #[22] false), 1, 8, [.nilFunc]⟩ := by kernel_rfl
theorem ty89 : tyOf Tryz.prog 89 = some ⟨.prim (.func #[22, 3, 3, 3] #[] false), 1, 8, [.nilFunc]⟩ := by kernel_rfl
theorem ty90 : tyOf Tryz.prog 90 = some ⟨.prim (.func #[91] #[3] false), 1, 8, [.nilFunc]⟩ := by kernel_rfl
theorem ty91 : tyOf Tryz.prog 91 = some ⟨.prim (.int .u64), 1, 8, [.int .u64 (0)]⟩ := by kernel_rfl
theorem ty92 : tyOf Tryz.prog 92 = some ⟨.prim (.func #[2, 3] #[9] false), 1, 8, [.nilFunc]⟩ := by kernel_rfl
theorem ty93 : tyOf Tryz.prog 93 = some ⟨.prim (.func #[9, 9, 9, 3] #[9] false), 1, 8, [.nilFunc]⟩ := by kernel_rfl
theorem ty94 : tyOf Tryz.prog 94 = some ⟨.prim (.int .u64), 1, 8, [.int .u64 (0)]⟩ := by kernel_rfl
theorem ty95 : tyOf Tryz.prog 95 = some ⟨.prim (.func #[22, 3, 3] #[] false), 1, 8, [.nilFunc]⟩ := by kernel_rfl
theorem ty96 : tyOf Tryz.prog 96 = some ⟨.prim (.int .i64), 1, 8, [.int .i64 (0)]⟩ := by kernel_rfl
theorem ty98 : tyOf Tryz.prog 98 = some ⟨.prim (.func #[22, 3, 3] #[3, 96] false), 1, 8, [.nilFunc]⟩ := by kernel_rfl
theorem ty99 : tyOf Tryz.prog 99 = some ⟨.prim (.func #[22, 3, 3] #[4] false), 1, 8, [.nilFunc]⟩ := by kernel_rfl
theorem ty100 : tyOf Tryz.prog 100 = some ⟨.prim (.func #[9, 9] #[4] false), 1, 8, [.nilFunc]⟩ := by kernel_rfl
theorem ty101 : tyOf Tryz.prog 101 = some ⟨.prim (.func #[22, 3, 3, 3] #[3] false), 1, 8, [.nilFunc]⟩ := by kernel_rfl
theorem ty103 : tyOf Tryz.prog 103 = some ⟨.prim (.func #[22, 3, 3, 3] #[3, 4] false), 1, 8, [.nilFunc]⟩ := by kernel_rfl
theorem ty104 : tyOf Tryz.prog 104 = some ⟨.prim (.func #[105] #[3] false), 1, 8, [.nilFunc]⟩ := by kernel_rfl
theorem ty105 : tyOf Tryz.prog 105 = some ⟨.prim (.int .u32), 1, 4, [.int .u32 (0)]⟩ := by kernel_rfl
theorem ty106 : tyOf Tryz.prog 106 = some ⟨.prim (.func #[94] #[3] false), 1, 8, [.nilFunc]⟩ := by kernel_rfl
theorem ty107 : tyOf Tryz.prog 107 = some ⟨.prim (.func #[9, 9] #[3] false), 1, 8, [.nilFunc]⟩ := by kernel_rfl
theorem ty109 : tyOf Tryz.prog 109 = some ⟨.prim (.func #[9] #[21, 3] false), 1, 8, [.nilFunc]⟩ := by kernel_rfl
theorem ty110 : tyOf Tryz.prog 110 = some ⟨.prim (.int .u64), 1, 8, [.int .u64 (0)]⟩ := by kernel_rfl
theorem ty111 : tyOf Tryz.prog 111 = some ⟨.prim (.func #[3] #[91] false), 1, 8, [.nilFunc]⟩ := by kernel_rfl
theorem ty112 : tyOf Tryz.prog 112 = some ⟨.prim (.func #[] #[94] false), 1, 8, [.nilFunc]⟩ := by kernel_rfl
theorem ty113 : tyOf Tryz.prog 113 = some ⟨.prim (.func #[22, 3, 114] #[3] false), 1, 8, [.nilFunc]⟩ := by kernel_rfl
theorem ty114 : tyOf Tryz.prog 114 = some ⟨.prim (.pointer 3), 1, 8, [.pointer none]⟩ := by kernel_rfl
theorem ty115 : tyOf Tryz.prog 115 = some ⟨.prim (.func #[22, 3, 3, 3, 114] #[3] false), 1, 8, [.nilFunc]⟩ := by kernel_rfl
theorem ty116 : tyOf Tryz.prog 116 = some ⟨.array 24 5, 24, 24, [.int .u8 (0), .int .u8 (0), .int .u8 (0), .int .u8 (0), .int .u8 (0), .int .u8 (0), .int .u8 (0), .int .u8 (0), .int .u8 (0), .int .u8 (0), .int .u8 (0), .int .u8 (0), .int .u8 (0), .int .u8 (0), .int .u8 (0), .int .u8 (0), .int .u8 (0), .int .u8 (0), .int .u8 (0), .int .u8 (0), .int .u8 (0), .int .u8 (0), .int .u8 (0), .int .u8 (0)]⟩ := by kernel_rfl
theorem ty117 : tyOf Tryz.prog 117 = some ⟨.prim (.func #[53, 94] #[] false), 1, 8, [.nilFunc]⟩ := by kernel_rfl
theorem ty119 : tyOf Tryz.prog 119 = some ⟨.prim (.func #[53, 94, 3, 4, 4] #[53, 9] false), 1, 8, [.nilFunc]⟩ := by kernel_rfl
theorem ty120 : tyOf Tryz.prog 120 = some ⟨.prim (.func #[9] #[3] false), 1, 8, [.nilFunc]⟩ := by kernel_rfl
theorem ty121 : tyOf Tryz.prog 121 = some ⟨.prim (.func #[9, 5] #[3] false), 1, 8, [.nilFunc]⟩ := by kernel_rfl
theorem ty122 : tyOf Tryz.prog 122 = some ⟨.prim (.pointer 110), 1, 8, [.pointer none]⟩ := by kernel_rfl
theorem ty124 : tyOf Tryz.prog 124 = some ⟨.prim (.func #[22, 3, 3, 114] #[3, 3] false), 1, 8, [.nilFunc]⟩ := by kernel_rfl
theorem ty125 : tyOf Tryz.prog 125 = some ⟨.prim (.func #[3] #[3] false), 1, 8, [.nilFunc]⟩ := by kernel_rfl
theorem ty126 : tyOf Tryz.prog 126 = some ⟨.prim (.func #[4] #[3] false), 1, 8, [.nilFunc]⟩ := by kernel_rfl
theorem ty127 : tyOf Tryz.prog 127 = some ⟨.array 20 94, 20, 160, [.int .u64 (0), .int .u64 (0), .int .u64 (0), .int .u64 (0), .int .u64 (0), .int .u64 (0), .int .u64 (0), .int .u64 (0), .int .u64 (0), .int .u64 (0), .int .u64 (0), .int .u64 (0), .int .u64 (0), .int .u64 (0), .int .u64 (0), .int .u64 (0), .int .u64 (0), .int .u64 (0), .int .u64 (0), .int .u64 (0)]⟩ := by kernel_rfl
theorem ty129 : tyOf Tryz.prog 129 = some ⟨.prim (.func #[3] #[4] false), 1, 8, [.nilFunc]⟩ := by kernel_rfl
theorem ty131 : tyOf Tryz.prog 131 = some ⟨.struct [(0, 5), (1, 5)] true, 2, 2, [.int .u8 (0), .int .u8 (0)]⟩ := by kernel_rfl
theorem ty132 : tyOf Tryz.prog 132 = some ⟨.struct [(0, 5), (1, 5)] true, 2, 2, [.int .u8 (0), .int .u8 (0)]⟩ := by kernel_rfl
theorem ty133 : tyOf Tryz.prog 133 = some ⟨.array 16 132, 32, 32, [.int .u8 (0), .int .u8 (0), .int .u8 (0), .int .u8 (0), .int .u8 (0), .int .u8 (0), .int .u8 (0), .int .u8 (0), .int .u8 (0), .int .u8 (0), .int .u8 (0), .int .u8 (0), .int .u8 (0), .int .u8 (0), .int .u8 (0), .int .u8 (0), .int .u8 (0), .int .u8 (0), .int .u8 (0), .int .u8 (0), .int .u8 (0), .int .u8 (0), .int .u8 (0), .int .u8 (0), .int .u8 (0), .int .u8 (0), .int .u8 (0), .int .u8 (0), .int .u8 (0), .int .u8 (0), .int .u8 (0), .int .u8 (0)]⟩ := by kernel_rfl
theorem ty135 : tyOf Tryz.prog 135 = some ⟨.prim (.func #[9] #[105, 105] false), 1, 8, [.nilFunc]⟩ := by kernel_rfl
theorem ty136 : tyOf Tryz.prog 136 = some ⟨.array 32 5, 32, 32, [.int .u8 (0), .int .u8 (0), .int .u8 (0), .int .u8 (0), .int .u8 (0), .int .u8 (0), .int .u8 (0), .int .u8 (0), .int .u8 (0), .int .u8 (0), .int .u8 (0), .int .u8 (0), .int .u8 (0), .int .u8 (0), .int .u8 (0), .int .u8 (0), .int .u8 (0), .int .u8 (0), .int .u8 (0), .int .u8 (0), .int .u8 (0), .int .u8 (0), .int .u8 (0), .int .u8 (0), .int .u8 (0), .int .u8 (0), .int .u8 (0), .int .u8 (0), .int .u8 (0), .int .u8 (0), .int .u8 (0), .int .u8 (0)]⟩ := by kernel_rfl
theorem ty137 : tyOf Tryz.prog 137 = some ⟨.array 64 5, 64, 64, [.int .u8 (0), .int .u8 (0), .int .u8 (0), .int .u8 (0), .int .u8 (0), .int .u8 (0), .int .u8 (0), .int .u8 (0), .int .u8 (0), .int .u8 (0), .int .u8 (0), .int .u8 (0), .int .u8 (0), .int .u8 (0), .int .u8 (0), .int .u8 (0), .int .u8 (0), .int .u8 (0), .int .u8 (0), .int .u8 (0), .int .u8 (0), .int .u8 (0), .int .u8 (0), .int .u8 (0), .int .u8 (0), .int .u8 (0), .int .u8 (0), .int .u8 (0), .int .u8 (0), .int .u8 (0), .int .u8 (0), .int .u8 (0), .int .u8 (0), .int .u8 (0), .int .u8 (0), .int .u8 (0), .int .u8 (0), .int .u8 (0), .int .u8 (0), .int .u8 (0), .int .u8 (0), .int .u8 (0), .int .u8 (0), .int .u8 (0), .int .u8 (0), .int .u8 (0), .int .u8 (0), .int .u8 (0), .int .u8 (0), .int .u8 (0), .int .u8 (0), .int .u8 (0), .int .u8 (0), .int .u8 (0), .int .u8 (0), .int .u8 (0), .int .u8 (0), .int .u8 (0), .int .u8 (0), .int .u8 (0), .int .u8 (0), .int .u8 (0), .int .u8 (0), .int .u8 (0)]⟩ := by kernel_rfl
theorem ty138 : tyOf Tryz.prog 138 = some ⟨.struct [(0, 17), (1, 17), (2, 17), (3, 9)] false, 4, 40, [.pointer none, .pointer none, .pointer none, .string ⟨#[]⟩]⟩ := by kernel_rfl
theorem ty139 : tyOf Tryz.prog 139 = some ⟨.struct [(0, 17), (1, 17), (2, 17), (3, 9)] false, 4, 40, [.pointer none, .pointer none, .pointer none, .string ⟨#[]⟩]⟩ := by kernel_rfl
theorem ty140 : tyOf Tryz.prog 140 = some ⟨.array 0 16, 0, 0, []⟩ := by kernel_rfl
theorem ty141 : tyOf Tryz.prog 141 = some ⟨.struct [(0, 140)] false, 0, 0, []⟩ := by kernel_rfl
theorem ty142 : tyOf Tryz.prog 142 = some ⟨.struct [(0, 140)] false, 0, 0, []⟩ := by kernel_rfl
theorem ty143 : tyOf Tryz.prog 143 = some ⟨.prim (.func #[] #[3] false), 1, 8, [.nilFunc]⟩ := by kernel_rfl
theorem ty144 : tyOf Tryz.prog 144 = some ⟨.prim (.int .u8), 1, 1, [.int .u8 (0)]⟩ := by kernel_rfl
theorem ty145 : tyOf Tryz.prog 145 = some ⟨.prim (.int .u8), 1, 1, [.int .u8 (0)]⟩ := by kernel_rfl
theorem ty146 : tyOf Tryz.prog 146 = some ⟨.prim (.func #[81, 81] #[4] false), 1, 8, [.nilFunc]⟩ := by kernel_rfl
theorem ty147 : tyOf Tryz.prog 147 = some ⟨.prim (.int .i32), 1, 4, [.int .i32 (0)]⟩ := by kernel_rfl
theorem ty148 : tyOf Tryz.prog 148 = some ⟨.prim (.int .i32), 1, 4, [.int .i32 (0)]⟩ := by kernel_rfl
theorem ty149 : tyOf Tryz.prog 149 = some ⟨.struct [(0, 12), (1, 12), (2, 105), (3, 144), (4, 5), (5, 5), (6, 145), (7, 146), (8, 70), (9, 147), (10, 148)] false, 11, 48, [.int .u64 (0), .int .u64 (0), .int .u32 (0), .int .u8 (0), .int .u8 (0), .int .u8 (0), .int .u8 (0), .nilFunc, .pointer none, .int .i32 (0), .int .i32 (0)]⟩ := by kernel_rfl
theorem ty150 : tyOf Tryz.prog 150 = some ⟨.struct [(0, 12), (1, 12), (2, 105), (3, 144), (4, 5), (5, 5), (6, 145), (7, 146), (8, 70), (9, 147), (10, 148)] false, 11, 48, [.int .u64 (0), .int .u64 (0), .int .u32 (0), .int .u8 (0), .int .u8 (0), .int .u8 (0), .int .u8 (0), .nilFunc, .pointer none, .int .i32 (0), .int .i32 (0)]⟩ := by kernel_rfl
end Go.Proofs.YthinpbnnpelhhaaGreatDoor.V
