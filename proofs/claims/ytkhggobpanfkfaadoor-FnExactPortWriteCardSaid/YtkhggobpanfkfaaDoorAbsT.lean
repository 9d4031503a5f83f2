/-
  The types of the program, as the abstract walk has them. No condition. Written by a program.
-/
import Derived.Test.YtkhggobpanfkfaaDoorAbsN
namespace Go.Proofs.YtkhggobpanfkfaaDoor
open Go.RowKit
open Ab
def ty2 : TI := ⟨1, false, [.int .i64 0], [.v (.int .i64 0)], 8, .int .i64, none, []⟩
theorem ty2_ok : TIok Tryd.prog 2 ty2 := ⟨by kernel_rfl, by kernel_rfl, rfl, rfl, rfl, by show Tryd.prog.underlying 2 = some (TypeDesc.int .i64); kernel_rfl, (fun ks h => by cases h), fun m h => by cases h⟩
def ty3 : TI := ⟨1, false, [.int .i64 0], [.v (.int .i64 0)], 8, .int .i64, none, []⟩
theorem ty3_ok : TIok Tryd.prog 3 ty3 := ⟨by kernel_rfl, by kernel_rfl, rfl, rfl, rfl, by show Tryd.prog.underlying 3 = some (TypeDesc.int .i64); kernel_rfl, (fun ks h => by cases h), fun m h => by cases h⟩
def ty4 : TI := ⟨1, false, [.bool false], [.v (.bool false)], 1, .bool, none, []⟩
theorem ty4_ok : TIok Tryd.prog 4 ty4 := ⟨by kernel_rfl, by kernel_rfl, rfl, rfl, rfl, by show Tryd.prog.underlying 4 = some TypeDesc.bool; kernel_rfl, (fun ks h => by cases h), fun m h => by cases h⟩
def ty5 : TI := ⟨1, false, [.int .u8 0], [.v (.int .u8 0)], 1, .int .u8, none, []⟩
theorem ty5_ok : TIok Tryd.prog 5 ty5 := ⟨by kernel_rfl, by kernel_rfl, rfl, rfl, rfl, by show Tryd.prog.underlying 5 = some (TypeDesc.int .u8); kernel_rfl, (fun ks h => by cases h), fun m h => by cases h⟩
def ty9 : TI := ⟨1, false, [.string ⟨#[]⟩], [.v (.string ⟨#[]⟩)], 16, .str, none, []⟩
theorem ty9_ok : TIok Tryd.prog 9 ty9 := ⟨by kernel_rfl, by kernel_rfl, rfl, rfl, rfl, by show Tryd.prog.underlying 9 = some TypeDesc.string; kernel_rfl, (fun ks h => by cases h), fun m h => by cases h⟩
def ty12 : TI := ⟨1, false, [.int .u64 0], [.v (.int .u64 0)], 8, .int .u64, none, []⟩
theorem ty12_ok : TIok Tryd.prog 12 ty12 := ⟨by kernel_rfl, by kernel_rfl, rfl, rfl, rfl, by show Tryd.prog.underlying 12 = some (TypeDesc.int .u64); kernel_rfl, (fun ks h => by cases h), fun m h => by cases h⟩
def ty15 : TI := ⟨1, false, [.pointer none], [.v (.pointer none)], 8, .ptr 190, none, []⟩
theorem ty15_ok : TIok Tryd.prog 15 ty15 := ⟨by kernel_rfl, by kernel_rfl, rfl, rfl, rfl, by show Tryd.prog.underlying 15 = some (TypeDesc.pointer 190); kernel_rfl, (fun ks h => by cases h), fun m h => by cases h⟩
def ty16 : TI := ⟨1, false, [.pointer none], [.v (.pointer none)], 8, .ptr 193, none, []⟩
theorem ty16_ok : TIok Tryd.prog 16 ty16 := ⟨by kernel_rfl, by kernel_rfl, rfl, rfl, rfl, by show Tryd.prog.underlying 16 = some (TypeDesc.pointer 193); kernel_rfl, (fun ks h => by cases h), fun m h => by cases h⟩
def ty17 : TI := ⟨1, false, [.pointer none], [.v (.pointer none)], 8, .ptr 202, none, []⟩
theorem ty17_ok : TIok Tryd.prog 17 ty17 := ⟨by kernel_rfl, by kernel_rfl, rfl, rfl, rfl, by show Tryd.prog.underlying 17 = some (TypeDesc.pointer 202); kernel_rfl, (fun ks h => by cases h), fun m h => by cases h⟩
def ty23 : TI := ⟨3, true, [.int .i64 0, .int .i64 0, .int .i64 0], [.v (.int .i64 0), .v (.int .i64 0), .v (.int .i64 0)], 24, .struct [(0, 1, false), (1, 1, false), (2, 1, false)], some [some .i64, some .i64, some .i64], []⟩
theorem ty23_ok : TIok Tryd.prog 23 ty23 := ⟨by kernel_rfl, by kernel_rfl, rfl, rfl, rfl, ⟨by kernel_rfl, by kernel_rfl⟩, (fun ks h => by cases h; exact ⟨by kernel_rfl, by kernel_rfl, by kernel_rfl, by kernel_rfl⟩), fun m h => by cases h⟩
def ty24 : TI := ⟨1, false, [.slice none 0 0], [.v (.slice none 0 0)], 24, .slice 137 2 .gots, none, []⟩
theorem ty24_ok : TIok Tryd.prog 24 ty24 := ⟨by kernel_rfl, by kernel_rfl, rfl, rfl, rfl, ⟨by kernel_rfl, by kernel_rfl, by kernel_rfl, rfl⟩, (fun ks h => by cases h), fun m h => by cases h⟩
def ty26 : TI := ⟨5, true, [.int .i64 0, .int .i64 0, .slice none 0 0, .bool false, .int .i64 0], [.v (.int .i64 0), .v (.int .i64 0), .v (.slice none 0 0), .v (.bool false), .v (.int .i64 0)], 56, .struct [(0, 1, false), (1, 1, false), (2, 1, false), (3, 1, false), (4, 1, false)], none, []⟩
theorem ty26_ok : TIok Tryd.prog 26 ty26 := ⟨by kernel_rfl, by kernel_rfl, rfl, rfl, rfl, ⟨by kernel_rfl, by kernel_rfl⟩, (fun ks h => by cases h), fun m h => by cases h⟩
def ty27 : TI := ⟨1, false, [.slice none 0 0], [.v (.slice none 0 0)], 24, .slice 3 1 .ints, none, []⟩
theorem ty27_ok : TIok Tryd.prog 27 ty27 := ⟨by kernel_rfl, by kernel_rfl, rfl, rfl, rfl, ⟨by kernel_rfl, by kernel_rfl, by kernel_rfl, rfl⟩, (fun ks h => by cases h), fun m h => by cases h⟩
def ty29 : TI := ⟨4, true, [.int .i64 0, .slice none 0 0, .int .i64 0, .int .i64 0], [.v (.int .i64 0), .v (.slice none 0 0), .v (.int .i64 0), .v (.int .i64 0)], 48, .struct [(0, 1, false), (1, 1, false), (2, 1, false), (3, 1, false)], none, []⟩
theorem ty29_ok : TIok Tryd.prog 29 ty29 := ⟨by kernel_rfl, by kernel_rfl, rfl, rfl, rfl, ⟨by kernel_rfl, by kernel_rfl⟩, (fun ks h => by cases h), fun m h => by cases h⟩
def ty31 : TI := ⟨4, true, [.bool false, .bool false, .bool false, .bool false], [.v (.bool false), .v (.bool false), .v (.bool false), .v (.bool false)], 4, .struct [(0, 1, false), (1, 1, false), (2, 1, false), (3, 1, false)], some [none, none, none, none], []⟩
theorem ty31_ok : TIok Tryd.prog 31 ty31 := ⟨by kernel_rfl, by kernel_rfl, rfl, rfl, rfl, ⟨by kernel_rfl, by kernel_rfl⟩, (fun ks h => by cases h; exact ⟨by kernel_rfl, by kernel_rfl, by kernel_rfl, by kernel_rfl⟩), fun m h => by cases h⟩
def ty33 : TI := ⟨18, true, [.int .i64 0, .int .i64 0, .int .i64 0, .int .i64 0, .int .i64 0, .int .i64 0, .int .i64 0, .slice none 0 0, .bool false, .int .i64 0, .int .i64 0, .slice none 0 0, .int .i64 0, .int .i64 0, .bool false, .bool false, .bool false, .bool false], [.v (.int .i64 0), .v (.int .i64 0), .v (.int .i64 0), .v (.int .i64 0), .v (.int .i64 0), .v (.int .i64 0), .v (.int .i64 0), .v (.slice none 0 0), .v (.bool false), .v (.int .i64 0), .v (.int .i64 0), .v (.slice none 0 0), .v (.int .i64 0), .v (.int .i64 0), .v (.bool false), .v (.bool false), .v (.bool false), .v (.bool false)], 152, .struct [(0, 3, true), (3, 1, false), (4, 1, false), (5, 5, true), (10, 4, true), (14, 4, true)], none, []⟩
theorem ty33_ok : TIok Tryd.prog 33 ty33 := ⟨by kernel_rfl, by kernel_rfl, rfl, rfl, rfl, ⟨by kernel_rfl, by kernel_rfl⟩, (fun ks h => by cases h), fun m h => by cases h⟩
def ty35 : TI := ⟨3, true, [.int .i64 0, .int .i64 0, .int .i64 0], [.v (.int .i64 0), .v (.int .i64 0), .v (.int .i64 0)], 24, .struct [(0, 1, false), (1, 1, false), (2, 1, false)], some [some .i64, some .i64, some .i64], []⟩
theorem ty35_ok : TIok Tryd.prog 35 ty35 := ⟨by kernel_rfl, by kernel_rfl, rfl, rfl, rfl, ⟨by kernel_rfl, by kernel_rfl⟩, (fun ks h => by cases h; exact ⟨by kernel_rfl, by kernel_rfl, by kernel_rfl, by kernel_rfl⟩), fun m h => by cases h⟩
def ty36 : TI := ⟨1, false, [.slice none 0 0], [.v (.slice none 0 0)], 24, .slice 78 2 .gots, none, []⟩
theorem ty36_ok : TIok Tryd.prog 36 ty36 := ⟨by kernel_rfl, by kernel_rfl, rfl, rfl, rfl, ⟨by kernel_rfl, by kernel_rfl, by kernel_rfl, rfl⟩, (fun ks h => by cases h), fun m h => by cases h⟩
def ty38 : TI := ⟨5, true, [.int .i64 0, .int .i64 0, .slice none 0 0, .bool false, .int .i64 0], [.v (.int .i64 0), .v (.int .i64 0), .v (.slice none 0 0), .v (.bool false), .v (.int .i64 0)], 56, .struct [(0, 1, false), (1, 1, false), (2, 1, false), (3, 1, false), (4, 1, false)], none, []⟩
theorem ty38_ok : TIok Tryd.prog 38 ty38 := ⟨by kernel_rfl, by kernel_rfl, rfl, rfl, rfl, ⟨by kernel_rfl, by kernel_rfl⟩, (fun ks h => by cases h), fun m h => by cases h⟩
def ty39 : TI := ⟨4, true, [.int .i64 0, .slice none 0 0, .int .i64 0, .int .i64 0], [.v (.int .i64 0), .v (.slice none 0 0), .v (.int .i64 0), .v (.int .i64 0)], 48, .struct [(0, 1, false), (1, 1, false), (2, 1, false), (3, 1, false)], none, []⟩
theorem ty39_ok : TIok Tryd.prog 39 ty39 := ⟨by kernel_rfl, by kernel_rfl, rfl, rfl, rfl, ⟨by kernel_rfl, by kernel_rfl⟩, (fun ks h => by cases h), fun m h => by cases h⟩
def ty40 : TI := ⟨4, true, [.bool false, .bool false, .bool false, .bool false], [.v (.bool false), .v (.bool false), .v (.bool false), .v (.bool false)], 4, .struct [(0, 1, false), (1, 1, false), (2, 1, false), (3, 1, false)], some [none, none, none, none], []⟩
theorem ty40_ok : TIok Tryd.prog 40 ty40 := ⟨by kernel_rfl, by kernel_rfl, rfl, rfl, rfl, ⟨by kernel_rfl, by kernel_rfl⟩, (fun ks h => by cases h; exact ⟨by kernel_rfl, by kernel_rfl, by kernel_rfl, by kernel_rfl⟩), fun m h => by cases h⟩
def ty42 : TI := ⟨18, true, [.int .i64 0, .int .i64 0, .int .i64 0, .int .i64 0, .int .i64 0, .int .i64 0, .int .i64 0, .slice none 0 0, .bool false, .int .i64 0, .int .i64 0, .slice none 0 0, .int .i64 0, .int .i64 0, .bool false, .bool false, .bool false, .bool false], [.v (.int .i64 0), .v (.int .i64 0), .v (.int .i64 0), .v (.int .i64 0), .v (.int .i64 0), .v (.int .i64 0), .v (.int .i64 0), .v (.slice none 0 0), .v (.bool false), .v (.int .i64 0), .v (.int .i64 0), .v (.slice none 0 0), .v (.int .i64 0), .v (.int .i64 0), .v (.bool false), .v (.bool false), .v (.bool false), .v (.bool false)], 152, .struct [(0, 3, true), (3, 1, false), (4, 1, false), (5, 5, true), (10, 4, true), (14, 4, true)], none, []⟩
theorem ty42_ok : TIok Tryd.prog 42 ty42 := ⟨by kernel_rfl, by kernel_rfl, rfl, rfl, rfl, ⟨by kernel_rfl, by kernel_rfl⟩, (fun ks h => by cases h), fun m h => by cases h⟩
def ty49 : TI := ⟨1, false, [.slice none 0 0], [.v (.slice none 0 0)], 24, .slice 5 1 .bytes, none, []⟩
theorem ty49_ok : TIok Tryd.prog 49 ty49 := ⟨by kernel_rfl, by kernel_rfl, rfl, rfl, rfl, ⟨by kernel_rfl, by kernel_rfl, by kernel_rfl, rfl⟩, (fun ks h => by cases h), fun m h => by cases h⟩
def ty73 : TI := ⟨1, false, [.pointer none], [.v (.pointer none)], 8, .ptr 114, none, []⟩
theorem ty73_ok : TIok Tryd.prog 73 ty73 := ⟨by kernel_rfl, by kernel_rfl, rfl, rfl, rfl, by show Tryd.prog.underlying 73 = some (TypeDesc.pointer 114); kernel_rfl, (fun ks h => by cases h), fun m h => by cases h⟩
def ty78 : TI := ⟨2, true, [.int .i64 0, .int .i64 0], [.v (.int .i64 0), .v (.int .i64 0)], 16, .struct [(0, 1, false), (1, 1, false)], some [some .i64, some .i64], []⟩
theorem ty78_ok : TIok Tryd.prog 78 ty78 := ⟨by kernel_rfl, by kernel_rfl, rfl, rfl, rfl, ⟨by kernel_rfl, by kernel_rfl⟩, (fun ks h => by cases h; exact ⟨by kernel_rfl, by kernel_rfl, by kernel_rfl, by kernel_rfl⟩), fun m h => by cases h⟩
def ty84 : TI := ⟨9, true, [.int .i64 0, .int .i64 0, .slice none 0 0, .bool false, .int .i64 0, .int .i64 0, .slice none 0 0, .int .i64 0, .int .i64 0], [.v (.int .i64 0), .v (.int .i64 0), .v (.slice none 0 0), .v (.bool false), .v (.int .i64 0), .v (.int .i64 0), .v (.slice none 0 0), .v (.int .i64 0), .v (.int .i64 0)], 104, .struct [(0, 5, true), (5, 4, true)], none, []⟩
theorem ty84_ok : TIok Tryd.prog 84 ty84 := ⟨by kernel_rfl, by kernel_rfl, rfl, rfl, rfl, ⟨by kernel_rfl, by kernel_rfl⟩, (fun ks h => by cases h), fun m h => by cases h⟩
def ty101 : TI := ⟨2, true, [.int .i64 0, .slice none 0 0], [.v (.int .i64 0), .v (.slice none 0 0)], 32, .struct [(0, 1, false), (1, 1, false)], none, []⟩
theorem ty101_ok : TIok Tryd.prog 101 ty101 := ⟨by kernel_rfl, by kernel_rfl, rfl, rfl, rfl, ⟨by kernel_rfl, by kernel_rfl⟩, (fun ks h => by cases h), fun m h => by cases h⟩
def ty114 : TI := ⟨2, true, [.slice none 0 0, .int .i64 0], [.v (.slice none 0 0), .v (.int .i64 0)], 32, .struct [(0, 1, false), (1, 1, false)], none, []⟩
theorem ty114_ok : TIok Tryd.prog 114 ty114 := ⟨by kernel_rfl, by kernel_rfl, rfl, rfl, rfl, ⟨by kernel_rfl, by kernel_rfl⟩, (fun ks h => by cases h), fun m h => by cases h⟩
def ty119 : TI := ⟨1, false, [.pointer none], [.v (.pointer none)], 8, .ptr 151, none, []⟩
theorem ty119_ok : TIok Tryd.prog 119 ty119 := ⟨by kernel_rfl, by kernel_rfl, rfl, rfl, rfl, by show Tryd.prog.underlying 119 = some (TypeDesc.pointer 151); kernel_rfl, (fun ks h => by cases h), fun m h => by cases h⟩
def ty128 : TI := ⟨1, false, [.pointer none], [.v (.pointer none)], 8, .ptr 4, none, []⟩
theorem ty128_ok : TIok Tryd.prog 128 ty128 := ⟨by kernel_rfl, by kernel_rfl, rfl, rfl, rfl, by show Tryd.prog.underlying 128 = some (TypeDesc.pointer 4); kernel_rfl, (fun ks h => by cases h), fun m h => by cases h⟩
def ty130 : TI := ⟨2, true, [.pointer none, .pointer none], [.v (.pointer none), .v (.pointer none)], 16, .struct [(0, 1, false), (1, 1, false)], none, []⟩
theorem ty130_ok : TIok Tryd.prog 130 ty130 := ⟨by kernel_rfl, by kernel_rfl, rfl, rfl, rfl, ⟨by kernel_rfl, by kernel_rfl⟩, (fun ks h => by cases h), fun m h => by cases h⟩
def ty131 : TI := ⟨4, true, [.pointer none, .pointer none, .pointer none, .pointer none], [.v (.pointer none), .v (.pointer none), .v (.pointer none), .v (.pointer none)], 32, .arr 2 130 2 true, none, []⟩
theorem ty131_ok : TIok Tryd.prog 131 ty131 := ⟨by kernel_rfl, by kernel_rfl, rfl, rfl, rfl, ⟨by kernel_rfl, by kernel_rfl, by kernel_rfl⟩, (fun ks h => by cases h), fun m h => by cases h⟩
def ty133 : TI := ⟨1, false, [.pointer none], [.v (.pointer none)], 8, .ptr 40, none, []⟩
theorem ty133_ok : TIok Tryd.prog 133 ty133 := ⟨by kernel_rfl, by kernel_rfl, rfl, rfl, rfl, by show Tryd.prog.underlying 133 = some (TypeDesc.pointer 40); kernel_rfl, (fun ks h => by cases h), fun m h => by cases h⟩
def ty137 : TI := ⟨2, true, [.int .i64 0, .int .i64 0], [.v (.int .i64 0), .v (.int .i64 0)], 16, .struct [(0, 1, false), (1, 1, false)], some [some .i64, some .i64], []⟩
theorem ty137_ok : TIok Tryd.prog 137 ty137 := ⟨by kernel_rfl, by kernel_rfl, rfl, rfl, rfl, ⟨by kernel_rfl, by kernel_rfl⟩, (fun ks h => by cases h; exact ⟨by kernel_rfl, by kernel_rfl, by kernel_rfl, by kernel_rfl⟩), fun m h => by cases h⟩
def ty140 : TI := ⟨1, false, [.pointer none], [.v (.pointer none)], 8, .ptr 167, none, []⟩
theorem ty140_ok : TIok Tryd.prog 140 ty140 := ⟨by kernel_rfl, by kernel_rfl, rfl, rfl, rfl, by show Tryd.prog.underlying 140 = some (TypeDesc.pointer 167); kernel_rfl, (fun ks h => by cases h), fun m h => by cases h⟩
def ty142 : TI := ⟨1, false, [.int .u64 0], [.v (.int .u64 0)], 8, .int .u64, none, []⟩
theorem ty142_ok : TIok Tryd.prog 142 ty142 := ⟨by kernel_rfl, by kernel_rfl, rfl, rfl, rfl, by show Tryd.prog.underlying 142 = some (TypeDesc.int .u64); kernel_rfl, (fun ks h => by cases h), fun m h => by cases h⟩
def ty149 : TI := ⟨1, false, [.pointer none], [.v (.pointer none)], 8, .ptr 154, none, []⟩
theorem ty149_ok : TIok Tryd.prog 149 ty149 := ⟨by kernel_rfl, by kernel_rfl, rfl, rfl, rfl, by show Tryd.prog.underlying 149 = some (TypeDesc.pointer 154); kernel_rfl, (fun ks h => by cases h), fun m h => by cases h⟩
def ty151 : TI := ⟨3, true, [.pointer none, .pointer none, .int .i64 0], [.v (.pointer none), .v (.pointer none), .v (.int .i64 0)], 24, .struct [(0, 1, false), (1, 1, false), (2, 1, false)], none, []⟩
theorem ty151_ok : TIok Tryd.prog 151 ty151 := ⟨by kernel_rfl, by kernel_rfl, rfl, rfl, rfl, ⟨by kernel_rfl, by kernel_rfl⟩, (fun ks h => by cases h), fun m h => by cases h⟩
def ty154 : TI := ⟨3, true, [.int .i64 0, .int .i64 0, .pointer none], [.v (.int .i64 0), .v (.int .i64 0), .v (.pointer none)], 24, .struct [(0, 2, true), (2, 1, false)], none, []⟩
theorem ty154_ok : TIok Tryd.prog 154 ty154 := ⟨by kernel_rfl, by kernel_rfl, rfl, rfl, rfl, ⟨by kernel_rfl, by kernel_rfl⟩, (fun ks h => by cases h), fun m h => by cases h⟩
def ty155 : TI := ⟨1, false, [.pointer none], [.v (.pointer none)], 8, .ptr 157, none, [("Len", 104, false), ("Less", 126, false), ("Pop", 127, true), ("Push", 128, true), ("Swap", 129, false)]⟩
theorem ty155_ok : TIok Tryd.prog 155 ty155 := ⟨by kernel_rfl, by kernel_rfl, rfl, rfl, rfl, by show Tryd.prog.underlying 155 = some (TypeDesc.pointer 157); kernel_rfl, (fun ks h => by cases h), (by
  intro m hm n w
  change m ∈ ([("Len", 104, false), ("Less", 126, false), ("Pop", 127, true), ("Push", 128, true), ("Swap", 129, false)] : List (String × FuncId × Bool)) at hm
  simp only [List.mem_cons, List.not_mem_nil, or_false] at hm
  rcases hm with rfl | rfl | rfl | rfl | rfl
  · exact ⟨fun h => (by cases h), fun _ e he => by
    replace he : TK.ptr 157 = TK.ptr e := he
    obtain rfl := TK.ptr.inj he
    show Sem.run _ _ _ = Sem.run _ _ _
    kernel_rfl⟩
  · exact ⟨fun h => (by cases h), fun _ e he => by
    replace he : TK.ptr 157 = TK.ptr e := he
    obtain rfl := TK.ptr.inj he
    show Sem.run _ _ _ = Sem.run _ _ _
    kernel_rfl⟩
  · exact ⟨fun _ => by kernel_rfl, fun h => by cases h⟩
  · exact ⟨fun _ => by kernel_rfl, fun h => by cases h⟩
  · exact ⟨fun h => (by cases h), fun _ e he => by
    replace he : TK.ptr 157 = TK.ptr e := he
    obtain rfl := TK.ptr.inj he
    show Sem.run _ _ _ = Sem.run _ _ _
    kernel_rfl⟩)⟩
def ty156 : TI := ⟨1, false, [.slice none 0 0], [.v (.slice none 0 0)], 24, .slice 159 3 .k3, none, []⟩
theorem ty156_ok : TIok Tryd.prog 156 ty156 := ⟨by kernel_rfl, by kernel_rfl, rfl, rfl, rfl, ⟨by kernel_rfl, by kernel_rfl, by kernel_rfl, rfl⟩, (fun ks h => by cases h), fun m h => by cases h⟩
def ty157 : TI := ⟨1, false, [.slice none 0 0], [.v (.slice none 0 0)], 24, .slice 159 3 .k3, none, []⟩
theorem ty157_ok : TIok Tryd.prog 157 ty157 := ⟨by kernel_rfl, by kernel_rfl, rfl, rfl, rfl, ⟨by kernel_rfl, by kernel_rfl, by kernel_rfl, rfl⟩, (fun ks h => by cases h), fun m h => by cases h⟩
def ty159 : TI := ⟨3, true, [.int .i64 0, .int .i64 0, .int .i64 0], [.v (.int .i64 0), .v (.int .i64 0), .v (.int .i64 0)], 24, .struct [(0, 1, false), (1, 1, false), (2, 1, false)], some [some .i64, some .i64, some .i64], []⟩
theorem ty159_ok : TIok Tryd.prog 159 ty159 := ⟨by kernel_rfl, by kernel_rfl, rfl, rfl, rfl, ⟨by kernel_rfl, by kernel_rfl⟩, (fun ks h => by cases h; exact ⟨by kernel_rfl, by kernel_rfl, by kernel_rfl, by kernel_rfl⟩), fun m h => by cases h⟩
def ty160 : TI := ⟨18, true, [.int .i64 0, .int .i64 0, .int .i64 0, .int .i64 0, .int .i64 0, .int .i64 0, .int .i64 0, .int .i64 0, .int .i64 0, .int .i64 0, .int .i64 0, .int .i64 0, .int .i64 0, .int .i64 0, .int .i64 0, .int .i64 0, .int .i64 0, .int .i64 0], [.v (.int .i64 0), .v (.int .i64 0), .v (.int .i64 0), .v (.int .i64 0), .v (.int .i64 0), .v (.int .i64 0), .v (.int .i64 0), .v (.int .i64 0), .v (.int .i64 0), .v (.int .i64 0), .v (.int .i64 0), .v (.int .i64 0), .v (.int .i64 0), .v (.int .i64 0), .v (.int .i64 0), .v (.int .i64 0), .v (.int .i64 0), .v (.int .i64 0)], 144, .arr 6 159 3 true, none, []⟩
theorem ty160_ok : TIok Tryd.prog 160 ty160 := ⟨by kernel_rfl, by kernel_rfl, rfl, rfl, rfl, ⟨by kernel_rfl, by kernel_rfl, by kernel_rfl⟩, (fun ks h => by cases h), fun m h => by cases h⟩
def ty165 : TI := ⟨16, true, [.int .i64 0, .int .i64 0, .int .i64 0, .int .i64 0, .int .i64 0, .int .i64 0, .int .i64 0, .int .i64 0, .int .i64 0, .int .i64 0, .int .i64 0, .int .i64 0, .int .i64 0, .int .i64 0, .int .i64 0, .int .i64 0], [.v (.int .i64 0), .v (.int .i64 0), .v (.int .i64 0), .v (.int .i64 0), .v (.int .i64 0), .v (.int .i64 0), .v (.int .i64 0), .v (.int .i64 0), .v (.int .i64 0), .v (.int .i64 0), .v (.int .i64 0), .v (.int .i64 0), .v (.int .i64 0), .v (.int .i64 0), .v (.int .i64 0), .v (.int .i64 0)], 128, .arr 16 3 1 false, none, []⟩
theorem ty165_ok : TIok Tryd.prog 165 ty165 := ⟨by kernel_rfl, by kernel_rfl, rfl, rfl, rfl, ⟨by kernel_rfl, by kernel_rfl, by kernel_rfl⟩, (fun ks h => by cases h), fun m h => by cases h⟩
def ty167 : TI := ⟨19, true, [.int .i64 0, .int .i64 0, .int .i64 0, .int .i64 0, .int .i64 0, .int .i64 0, .int .i64 0, .int .i64 0, .int .i64 0, .int .i64 0, .int .i64 0, .int .i64 0, .int .i64 0, .int .i64 0, .int .i64 0, .int .i64 0, .int .i64 0, .int .i64 0, .int .i64 0], [.v (.int .i64 0), .v (.int .i64 0), .v (.int .i64 0), .v (.int .i64 0), .v (.int .i64 0), .v (.int .i64 0), .v (.int .i64 0), .v (.int .i64 0), .v (.int .i64 0), .v (.int .i64 0), .v (.int .i64 0), .v (.int .i64 0), .v (.int .i64 0), .v (.int .i64 0), .v (.int .i64 0), .v (.int .i64 0), .v (.int .i64 0), .v (.int .i64 0), .v (.int .i64 0)], 152, .struct [(0, 16, true), (16, 1, false), (17, 1, false), (18, 1, false)], none, []⟩
theorem ty167_ok : TIok Tryd.prog 167 ty167 := ⟨by kernel_rfl, by kernel_rfl, rfl, rfl, rfl, ⟨by kernel_rfl, by kernel_rfl⟩, (fun ks h => by cases h), fun m h => by cases h⟩
def ty170 : TI := ⟨1, false, [.pointer none], [.v (.pointer none)], 8, .ptr 210, none, []⟩
theorem ty170_ok : TIok Tryd.prog 170 ty170 := ⟨by kernel_rfl, by kernel_rfl, rfl, rfl, rfl, by show Tryd.prog.underlying 170 = some (TypeDesc.pointer 210); kernel_rfl, (fun ks h => by cases h), fun m h => by cases h⟩
def ty177 : TI := ⟨1, false, [.slice none 0 0], [.v (.slice none 0 0)], 24, .osl 106, none, []⟩
theorem ty177_ok : TIok Tryd.prog 177 ty177 := ⟨by kernel_rfl, by kernel_rfl, rfl, rfl, rfl, by show Tryd.prog.underlying 177 = some (TypeDesc.slice 106); kernel_rfl, (fun ks h => by cases h), fun m h => by cases h⟩
def ty187 : TI := ⟨1, false, [.pointer none], [.v (.pointer none)], 8, .ptr 212, none, []⟩
theorem ty187_ok : TIok Tryd.prog 187 ty187 := ⟨by kernel_rfl, by kernel_rfl, rfl, rfl, rfl, by show Tryd.prog.underlying 187 = some (TypeDesc.pointer 212); kernel_rfl, (fun ks h => by cases h), fun m h => by cases h⟩
def ty198 : TI := ⟨1, false, [.pointer none], [.v (.pointer none)], 8, .ptr 5, none, []⟩
theorem ty198_ok : TIok Tryd.prog 198 ty198 := ⟨by kernel_rfl, by kernel_rfl, rfl, rfl, rfl, by show Tryd.prog.underlying 198 = some (TypeDesc.pointer 5); kernel_rfl, (fun ks h => by cases h), fun m h => by cases h⟩
def ty214 : TI := ⟨1, false, [.pointer none], [.v (.pointer none)], 8, .ptr 218, none, []⟩
theorem ty214_ok : TIok Tryd.prog 214 ty214 := ⟨by kernel_rfl, by kernel_rfl, rfl, rfl, rfl, by show Tryd.prog.underlying 214 = some (TypeDesc.pointer 218); kernel_rfl, (fun ks h => by cases h), fun m h => by cases h⟩
def ty219 : TI := ⟨1, false, [.slice none 0 0], [.v (.slice none 0 0)], 24, .osl 222, none, []⟩
theorem ty219_ok : TIok Tryd.prog 219 ty219 := ⟨by kernel_rfl, by kernel_rfl, rfl, rfl, rfl, by show Tryd.prog.underlying 219 = some (TypeDesc.slice 222); kernel_rfl, (fun ks h => by cases h), fun m h => by cases h⟩
def tab : Tab := [(2, ty2), (3, ty3), (4, ty4), (5, ty5), (9, ty9), (12, ty12), (15, ty15), (16, ty16), (17, ty17), (23, ty23), (24, ty24), (26, ty26), (27, ty27), (29, ty29), (31, ty31), (33, ty33), (35, ty35), (36, ty36), (38, ty38), (39, ty39), (40, ty40), (42, ty42), (49, ty49), (73, ty73), (78, ty78), (84, ty84), (101, ty101), (114, ty114), (119, ty119), (128, ty128), (130, ty130), (131, ty131), (133, ty133), (137, ty137), (140, ty140), (142, ty142), (149, ty149), (151, ty151), (154, ty154), (155, ty155), (156, ty156), (157, ty157), (159, ty159), (160, ty160), (165, ty165), (167, ty167), (170, ty170), (177, ty177), (187, ty187), (198, ty198), (214, ty214), (219, ty219)]
theorem tab_ok : TabOk Tryd.prog tab := tabAll_ok ⟨ty2_ok, ty3_ok, ty4_ok, ty5_ok, ty9_ok, ty12_ok, ty15_ok, ty16_ok, ty17_ok, ty23_ok, ty24_ok, ty26_ok, ty27_ok, ty29_ok, ty31_ok, ty33_ok, ty35_ok, ty36_ok, ty38_ok, ty39_ok, ty40_ok, ty42_ok, ty49_ok, ty73_ok, ty78_ok, ty84_ok, ty101_ok, ty114_ok, ty119_ok, ty128_ok, ty130_ok, ty131_ok, ty133_ok, ty137_ok, ty140_ok, ty142_ok, ty149_ok, ty151_ok, ty154_ok, ty155_ok, ty156_ok, ty157_ok, ty159_ok, ty160_ok, ty165_ok, ty167_ok, ty170_ok, ty177_ok, ty187_ok, ty198_ok, ty214_ok, ty219_ok, trivial⟩
theorem mixed_ok : Tryd.prog.follows .mixedOrders = true := by kernel_rfl
end Go.Proofs.YtkhggobpanfkfaaDoor
