/-
  The types of the program, as the abstract walk has them. No condition. Written by a program.
-/
import Derived.Test.YtednhgiabpgleaaAbsN
namespace Go.Proofs.Ytednhgiabpgleaa
open Go.RowKit
open Ab
def ty2 : TI := ⟨1, false, [.int .i64 0], [.v (.int .i64 0)], 8, .int .i64, none⟩
theorem ty2_ok : TIok Try.prog 2 ty2 := ⟨by kernel_rfl, by kernel_rfl, rfl, rfl, rfl, by show Try.prog.underlying 2 = some (TypeDesc.int .i64); kernel_rfl, fun ks h => by cases h⟩
def ty3 : TI := ⟨1, false, [.int .i64 0], [.v (.int .i64 0)], 8, .int .i64, none⟩
theorem ty3_ok : TIok Try.prog 3 ty3 := ⟨by kernel_rfl, by kernel_rfl, rfl, rfl, rfl, by show Try.prog.underlying 3 = some (TypeDesc.int .i64); kernel_rfl, fun ks h => by cases h⟩
def ty4 : TI := ⟨1, false, [.bool false], [.v (.bool false)], 1, .bool, none⟩
theorem ty4_ok : TIok Try.prog 4 ty4 := ⟨by kernel_rfl, by kernel_rfl, rfl, rfl, rfl, by show Try.prog.underlying 4 = some TypeDesc.bool; kernel_rfl, fun ks h => by cases h⟩
def ty5 : TI := ⟨1, false, [.int .u8 0], [.v (.int .u8 0)], 1, .int .u8, none⟩
theorem ty5_ok : TIok Try.prog 5 ty5 := ⟨by kernel_rfl, by kernel_rfl, rfl, rfl, rfl, by show Try.prog.underlying 5 = some (TypeDesc.int .u8); kernel_rfl, fun ks h => by cases h⟩
def ty9 : TI := ⟨1, false, [.string ⟨#[]⟩], [.v (.string ⟨#[]⟩)], 16, .str, none⟩
theorem ty9_ok : TIok Try.prog 9 ty9 := ⟨by kernel_rfl, by kernel_rfl, rfl, rfl, rfl, by show Try.prog.underlying 9 = some TypeDesc.string; kernel_rfl, fun ks h => by cases h⟩
def ty12 : TI := ⟨1, false, [.int .u64 0], [.v (.int .u64 0)], 8, .int .u64, none⟩
theorem ty12_ok : TIok Try.prog 12 ty12 := ⟨by kernel_rfl, by kernel_rfl, rfl, rfl, rfl, by show Try.prog.underlying 12 = some (TypeDesc.int .u64); kernel_rfl, fun ks h => by cases h⟩
def ty15 : TI := ⟨1, false, [.pointer none], [.v (.pointer none)], 8, .ptr 119, none⟩
theorem ty15_ok : TIok Try.prog 15 ty15 := ⟨by kernel_rfl, by kernel_rfl, rfl, rfl, rfl, by show Try.prog.underlying 15 = some (TypeDesc.pointer 119); kernel_rfl, fun ks h => by cases h⟩
def ty16 : TI := ⟨1, false, [.pointer none], [.v (.pointer none)], 8, .ptr 122, none⟩
theorem ty16_ok : TIok Try.prog 16 ty16 := ⟨by kernel_rfl, by kernel_rfl, rfl, rfl, rfl, by show Try.prog.underlying 16 = some (TypeDesc.pointer 122); kernel_rfl, fun ks h => by cases h⟩
def ty17 : TI := ⟨1, false, [.pointer none], [.v (.pointer none)], 8, .ptr 132, none⟩
theorem ty17_ok : TIok Try.prog 17 ty17 := ⟨by kernel_rfl, by kernel_rfl, rfl, rfl, rfl, by show Try.prog.underlying 17 = some (TypeDesc.pointer 132); kernel_rfl, fun ks h => by cases h⟩
def ty22 : TI := ⟨1, false, [.slice none 0 0], [.v (.slice none 0 0)], 24, .slice 5 1 .bytes, none⟩
theorem ty22_ok : TIok Try.prog 22 ty22 := ⟨by kernel_rfl, by kernel_rfl, rfl, rfl, rfl, ⟨by kernel_rfl, by kernel_rfl, by kernel_rfl, rfl⟩, fun ks h => by cases h⟩
def ty23 : TI := ⟨1, false, [.slice none 0 0], [.v (.slice none 0 0)], 24, .slice 3 1 .ints, none⟩
theorem ty23_ok : TIok Try.prog 23 ty23 := ⟨by kernel_rfl, by kernel_rfl, rfl, rfl, rfl, ⟨by kernel_rfl, by kernel_rfl, by kernel_rfl, rfl⟩, fun ks h => by cases h⟩
def ty25 : TI := ⟨2, true, [.int .i64 0, .slice none 0 0], [.v (.int .i64 0), .v (.slice none 0 0)], 32, .struct [(0, 1, false), (1, 1, false)], none⟩
theorem ty25_ok : TIok Try.prog 25 ty25 := ⟨by kernel_rfl, by kernel_rfl, rfl, rfl, rfl, ⟨by kernel_rfl, by kernel_rfl⟩, fun ks h => by cases h⟩
def ty35 : TI := ⟨2, true, [.int .i64 0, .slice none 0 0], [.v (.int .i64 0), .v (.slice none 0 0)], 32, .struct [(0, 1, false), (1, 1, false)], none⟩
theorem ty35_ok : TIok Try.prog 35 ty35 := ⟨by kernel_rfl, by kernel_rfl, rfl, rfl, rfl, ⟨by kernel_rfl, by kernel_rfl⟩, fun ks h => by cases h⟩
def ty40 : TI := ⟨1, false, [.slice none 0 0], [.v (.slice none 0 0)], 24, .slice 45 2 .gots, none⟩
theorem ty40_ok : TIok Try.prog 40 ty40 := ⟨by kernel_rfl, by kernel_rfl, rfl, rfl, rfl, ⟨by kernel_rfl, by kernel_rfl, by kernel_rfl, rfl⟩, fun ks h => by cases h⟩
def ty42 : TI := ⟨5, true, [.int .i64 0, .int .i64 0, .slice none 0 0, .bool false, .int .i64 0], [.v (.int .i64 0), .v (.int .i64 0), .v (.slice none 0 0), .v (.bool false), .v (.int .i64 0)], 56, .struct [(0, 1, false), (1, 1, false), (2, 1, false), (3, 1, false), (4, 1, false)], none⟩
theorem ty42_ok : TIok Try.prog 42 ty42 := ⟨by kernel_rfl, by kernel_rfl, rfl, rfl, rfl, ⟨by kernel_rfl, by kernel_rfl⟩, fun ks h => by cases h⟩
def ty45 : TI := ⟨2, true, [.int .i64 0, .int .i64 0], [.v (.int .i64 0), .v (.int .i64 0)], 16, .struct [(0, 1, false), (1, 1, false)], some [some .i64, some .i64]⟩
theorem ty45_ok : TIok Try.prog 45 ty45 := ⟨by kernel_rfl, by kernel_rfl, rfl, rfl, rfl, ⟨by kernel_rfl, by kernel_rfl⟩, fun ks h => by cases h; exact ⟨by kernel_rfl, by kernel_rfl, by kernel_rfl, by kernel_rfl⟩⟩
def ty54 : TI := ⟨4, true, [.int .i64 0, .slice none 0 0, .int .i64 0, .int .i64 0], [.v (.int .i64 0), .v (.slice none 0 0), .v (.int .i64 0), .v (.int .i64 0)], 48, .struct [(0, 1, false), (1, 1, false), (2, 1, false), (3, 1, false)], none⟩
theorem ty54_ok : TIok Try.prog 54 ty54 := ⟨by kernel_rfl, by kernel_rfl, rfl, rfl, rfl, ⟨by kernel_rfl, by kernel_rfl⟩, fun ks h => by cases h⟩
def ty61 : TI := ⟨1, false, [.slice none 0 0], [.v (.slice none 0 0)], 24, .slice 116 2 .gots, none⟩
theorem ty61_ok : TIok Try.prog 61 ty61 := ⟨by kernel_rfl, by kernel_rfl, rfl, rfl, rfl, ⟨by kernel_rfl, by kernel_rfl, by kernel_rfl, rfl⟩, fun ks h => by cases h⟩
def ty63 : TI := ⟨5, true, [.int .i64 0, .int .i64 0, .slice none 0 0, .bool false, .int .i64 0], [.v (.int .i64 0), .v (.int .i64 0), .v (.slice none 0 0), .v (.bool false), .v (.int .i64 0)], 56, .struct [(0, 1, false), (1, 1, false), (2, 1, false), (3, 1, false), (4, 1, false)], none⟩
theorem ty63_ok : TIok Try.prog 63 ty63 := ⟨by kernel_rfl, by kernel_rfl, rfl, rfl, rfl, ⟨by kernel_rfl, by kernel_rfl⟩, fun ks h => by cases h⟩
def ty69 : TI := ⟨4, true, [.int .i64 0, .slice none 0 0, .int .i64 0, .int .i64 0], [.v (.int .i64 0), .v (.slice none 0 0), .v (.int .i64 0), .v (.int .i64 0)], 48, .struct [(0, 1, false), (1, 1, false), (2, 1, false), (3, 1, false)], none⟩
theorem ty69_ok : TIok Try.prog 69 ty69 := ⟨by kernel_rfl, by kernel_rfl, rfl, rfl, rfl, ⟨by kernel_rfl, by kernel_rfl⟩, fun ks h => by cases h⟩
def ty75 : TI := ⟨1, false, [.pointer none], [.v (.pointer none)], 8, .ptr 107, none⟩
theorem ty75_ok : TIok Try.prog 75 ty75 := ⟨by kernel_rfl, by kernel_rfl, rfl, rfl, rfl, by show Try.prog.underlying 75 = some (TypeDesc.pointer 107); kernel_rfl, fun ks h => by cases h⟩
def ty77 : TI := ⟨1, false, [.pointer none], [.v (.pointer none)], 8, .ptr 110, none⟩
theorem ty77_ok : TIok Try.prog 77 ty77 := ⟨by kernel_rfl, by kernel_rfl, rfl, rfl, rfl, by show Try.prog.underlying 77 = some (TypeDesc.pointer 110); kernel_rfl, fun ks h => by cases h⟩
def ty87 : TI := ⟨1, false, [.pointer none], [.v (.pointer none)], 8, .ptr 96, none⟩
theorem ty87_ok : TIok Try.prog 87 ty87 := ⟨by kernel_rfl, by kernel_rfl, rfl, rfl, rfl, by show Try.prog.underlying 87 = some (TypeDesc.pointer 96); kernel_rfl, fun ks h => by cases h⟩
def ty94 : TI := ⟨1, false, [.pointer none], [.v (.pointer none)], 8, .ptr 114, none⟩
theorem ty94_ok : TIok Try.prog 94 ty94 := ⟨by kernel_rfl, by kernel_rfl, rfl, rfl, rfl, by show Try.prog.underlying 94 = some (TypeDesc.pointer 114); kernel_rfl, fun ks h => by cases h⟩
def ty96 : TI := ⟨3, true, [.pointer none, .pointer none, .int .i64 0], [.v (.pointer none), .v (.pointer none), .v (.int .i64 0)], 24, .struct [(0, 1, false), (1, 1, false), (2, 1, false)], none⟩
theorem ty96_ok : TIok Try.prog 96 ty96 := ⟨by kernel_rfl, by kernel_rfl, rfl, rfl, rfl, ⟨by kernel_rfl, by kernel_rfl⟩, fun ks h => by cases h⟩
def ty107 : TI := ⟨2, true, [.slice none 0 0, .int .i64 0], [.v (.slice none 0 0), .v (.int .i64 0)], 32, .struct [(0, 1, false), (1, 1, false)], none⟩
theorem ty107_ok : TIok Try.prog 107 ty107 := ⟨by kernel_rfl, by kernel_rfl, rfl, rfl, rfl, ⟨by kernel_rfl, by kernel_rfl⟩, fun ks h => by cases h⟩
def ty108 : TI := ⟨16, true, [.int .i64 0, .int .i64 0, .int .i64 0, .int .i64 0, .int .i64 0, .int .i64 0, .int .i64 0, .int .i64 0, .int .i64 0, .int .i64 0, .int .i64 0, .int .i64 0, .int .i64 0, .int .i64 0, .int .i64 0, .int .i64 0], [.v (.int .i64 0), .v (.int .i64 0), .v (.int .i64 0), .v (.int .i64 0), .v (.int .i64 0), .v (.int .i64 0), .v (.int .i64 0), .v (.int .i64 0), .v (.int .i64 0), .v (.int .i64 0), .v (.int .i64 0), .v (.int .i64 0), .v (.int .i64 0), .v (.int .i64 0), .v (.int .i64 0), .v (.int .i64 0)], 128, .arr 16 3 1 false, none⟩
theorem ty108_ok : TIok Try.prog 108 ty108 := ⟨by kernel_rfl, by kernel_rfl, rfl, rfl, rfl, ⟨by kernel_rfl, by kernel_rfl, by kernel_rfl⟩, fun ks h => by cases h⟩
def ty110 : TI := ⟨19, true, [.int .i64 0, .int .i64 0, .int .i64 0, .int .i64 0, .int .i64 0, .int .i64 0, .int .i64 0, .int .i64 0, .int .i64 0, .int .i64 0, .int .i64 0, .int .i64 0, .int .i64 0, .int .i64 0, .int .i64 0, .int .i64 0, .int .i64 0, .int .i64 0, .int .i64 0], [.v (.int .i64 0), .v (.int .i64 0), .v (.int .i64 0), .v (.int .i64 0), .v (.int .i64 0), .v (.int .i64 0), .v (.int .i64 0), .v (.int .i64 0), .v (.int .i64 0), .v (.int .i64 0), .v (.int .i64 0), .v (.int .i64 0), .v (.int .i64 0), .v (.int .i64 0), .v (.int .i64 0), .v (.int .i64 0), .v (.int .i64 0), .v (.int .i64 0), .v (.int .i64 0)], 152, .struct [(0, 16, true), (16, 1, false), (17, 1, false), (18, 1, false)], none⟩
theorem ty110_ok : TIok Try.prog 110 ty110 := ⟨by kernel_rfl, by kernel_rfl, rfl, rfl, rfl, ⟨by kernel_rfl, by kernel_rfl⟩, fun ks h => by cases h⟩
def ty114 : TI := ⟨3, true, [.int .i64 0, .int .i64 0, .pointer none], [.v (.int .i64 0), .v (.int .i64 0), .v (.pointer none)], 24, .struct [(0, 2, true), (2, 1, false)], none⟩
theorem ty114_ok : TIok Try.prog 114 ty114 := ⟨by kernel_rfl, by kernel_rfl, rfl, rfl, rfl, ⟨by kernel_rfl, by kernel_rfl⟩, fun ks h => by cases h⟩
def ty116 : TI := ⟨2, true, [.int .i64 0, .int .i64 0], [.v (.int .i64 0), .v (.int .i64 0)], 16, .struct [(0, 1, false), (1, 1, false)], some [some .i64, some .i64]⟩
theorem ty116_ok : TIok Try.prog 116 ty116 := ⟨by kernel_rfl, by kernel_rfl, rfl, rfl, rfl, ⟨by kernel_rfl, by kernel_rfl⟩, fun ks h => by cases h; exact ⟨by kernel_rfl, by kernel_rfl, by kernel_rfl, by kernel_rfl⟩⟩
def ty128 : TI := ⟨1, false, [.pointer none], [.v (.pointer none)], 8, .ptr 5, none⟩
theorem ty128_ok : TIok Try.prog 128 ty128 := ⟨by kernel_rfl, by kernel_rfl, rfl, rfl, rfl, by show Try.prog.underlying 128 = some (TypeDesc.pointer 5); kernel_rfl, fun ks h => by cases h⟩
def tab : Tab := [(2, ty2), (3, ty3), (4, ty4), (5, ty5), (9, ty9), (12, ty12), (15, ty15), (16, ty16), (17, ty17), (22, ty22), (23, ty23), (25, ty25), (35, ty35), (40, ty40), (42, ty42), (45, ty45), (54, ty54), (61, ty61), (63, ty63), (69, ty69), (75, ty75), (77, ty77), (87, ty87), (94, ty94), (96, ty96), (107, ty107), (108, ty108), (110, ty110), (114, ty114), (116, ty116), (128, ty128)]
theorem tab_ok : TabOk Try.prog tab := tabAll_ok ⟨ty2_ok, ty3_ok, ty4_ok, ty5_ok, ty9_ok, ty12_ok, ty15_ok, ty16_ok, ty17_ok, ty22_ok, ty23_ok, ty25_ok, ty35_ok, ty40_ok, ty42_ok, ty45_ok, ty54_ok, ty61_ok, ty63_ok, ty69_ok, ty75_ok, ty77_ok, ty87_ok, ty94_ok, ty96_ok, ty107_ok, ty108_ok, ty110_ok, ty114_ok, ty116_ok, ty128_ok, trivial⟩
theorem mixed_ok : Try.prog.follows .mixedOrders = true := by kernel_rfl
end Go.Proofs.Ytednhgiabpgleaa
