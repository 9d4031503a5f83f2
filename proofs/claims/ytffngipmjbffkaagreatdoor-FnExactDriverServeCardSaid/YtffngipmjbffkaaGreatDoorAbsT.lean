/-
  The types of the program, as the abstract walk has them. No condition. Written by a program.
-/
import Derived.Test.YtffngipmjbffkaaGreatDoorAbsN
namespace Go.Proofs.YtffngipmjbffkaaGreatDoor
open Go.RowKit
open Ab
def ty2 : TI := ⟨1, false, [.int .i64 0], [.v (.int .i64 0)], 8, .int .i64, none, []⟩
theorem ty2_ok : TIok Tryz.prog 2 ty2 := ⟨by kernel_rfl, by kernel_rfl, rfl, rfl, rfl, by show Tryz.prog.underlying 2 = some (TypeDesc.int .i64); kernel_rfl, (fun ks h => by cases h), fun m h => by cases h⟩
def ty3 : TI := ⟨1, false, [.int .i64 0], [.v (.int .i64 0)], 8, .int .i64, none, []⟩
theorem ty3_ok : TIok Tryz.prog 3 ty3 := ⟨by kernel_rfl, by kernel_rfl, rfl, rfl, rfl, by show Tryz.prog.underlying 3 = some (TypeDesc.int .i64); kernel_rfl, (fun ks h => by cases h), fun m h => by cases h⟩
def ty4 : TI := ⟨1, false, [.bool false], [.v (.bool false)], 1, .bool, none, []⟩
theorem ty4_ok : TIok Tryz.prog 4 ty4 := ⟨by kernel_rfl, by kernel_rfl, rfl, rfl, rfl, by show Tryz.prog.underlying 4 = some TypeDesc.bool; kernel_rfl, (fun ks h => by cases h), fun m h => by cases h⟩
def ty5 : TI := ⟨1, false, [.int .u8 0], [.v (.int .u8 0)], 1, .int .u8, none, []⟩
theorem ty5_ok : TIok Tryz.prog 5 ty5 := ⟨by kernel_rfl, by kernel_rfl, rfl, rfl, rfl, by show Tryz.prog.underlying 5 = some (TypeDesc.int .u8); kernel_rfl, (fun ks h => by cases h), fun m h => by cases h⟩
def ty9 : TI := ⟨1, false, [.string ⟨#[]⟩], [.v (.string ⟨#[]⟩)], 16, .str, none, []⟩
theorem ty9_ok : TIok Tryz.prog 9 ty9 := ⟨by kernel_rfl, by kernel_rfl, rfl, rfl, rfl, by show Tryz.prog.underlying 9 = some TypeDesc.string; kernel_rfl, (fun ks h => by cases h), fun m h => by cases h⟩
def ty12 : TI := ⟨1, false, [.int .u64 0], [.v (.int .u64 0)], 8, .int .u64, none, []⟩
theorem ty12_ok : TIok Tryz.prog 12 ty12 := ⟨by kernel_rfl, by kernel_rfl, rfl, rfl, rfl, by show Tryz.prog.underlying 12 = some (TypeDesc.int .u64); kernel_rfl, (fun ks h => by cases h), fun m h => by cases h⟩
def ty15 : TI := ⟨1, false, [.pointer none], [.v (.pointer none)], 8, .ptr 209, none, []⟩
theorem ty15_ok : TIok Tryz.prog 15 ty15 := ⟨by kernel_rfl, by kernel_rfl, rfl, rfl, rfl, by show Tryz.prog.underlying 15 = some (TypeDesc.pointer 209); kernel_rfl, (fun ks h => by cases h), fun m h => by cases h⟩
def ty16 : TI := ⟨1, false, [.pointer none], [.v (.pointer none)], 8, .ptr 212, none, []⟩
theorem ty16_ok : TIok Tryz.prog 16 ty16 := ⟨by kernel_rfl, by kernel_rfl, rfl, rfl, rfl, by show Tryz.prog.underlying 16 = some (TypeDesc.pointer 212); kernel_rfl, (fun ks h => by cases h), fun m h => by cases h⟩
def ty17 : TI := ⟨1, false, [.pointer none], [.v (.pointer none)], 8, .ptr 221, none, []⟩
theorem ty17_ok : TIok Tryz.prog 17 ty17 := ⟨by kernel_rfl, by kernel_rfl, rfl, rfl, rfl, by show Tryz.prog.underlying 17 = some (TypeDesc.pointer 221); kernel_rfl, (fun ks h => by cases h), fun m h => by cases h⟩
def ty22 : TI := ⟨1, false, [.slice none 0 0], [.v (.slice none 0 0)], 24, .slice 5 1 .bytes, none, []⟩
theorem ty22_ok : TIok Tryz.prog 22 ty22 := ⟨by kernel_rfl, by kernel_rfl, rfl, rfl, rfl, ⟨by kernel_rfl, by kernel_rfl, by kernel_rfl, rfl⟩, (fun ks h => by cases h), fun m h => by cases h⟩
def ty24 : TI := ⟨3, true, [.int .i64 0, .int .i64 0, .int .i64 0], [.v (.int .i64 0), .v (.int .i64 0), .v (.int .i64 0)], 24, .struct [(0, 1, false), (1, 1, false), (2, 1, false)], some [some .i64, some .i64, some .i64], []⟩
theorem ty24_ok : TIok Tryz.prog 24 ty24 := ⟨by kernel_rfl, by kernel_rfl, rfl, rfl, rfl, ⟨by kernel_rfl, by kernel_rfl⟩, (fun ks h => by cases h; exact ⟨by kernel_rfl, by kernel_rfl, by kernel_rfl, by kernel_rfl⟩), fun m h => by cases h⟩
def ty25 : TI := ⟨1, false, [.slice none 0 0], [.v (.slice none 0 0)], 24, .slice 46 2 .gots, none, []⟩
theorem ty25_ok : TIok Tryz.prog 25 ty25 := ⟨by kernel_rfl, by kernel_rfl, rfl, rfl, rfl, ⟨by kernel_rfl, by kernel_rfl, by kernel_rfl, rfl⟩, (fun ks h => by cases h), fun m h => by cases h⟩
def ty27 : TI := ⟨5, true, [.int .i64 0, .int .i64 0, .slice none 0 0, .bool false, .int .i64 0], [.v (.int .i64 0), .v (.int .i64 0), .v (.slice none 0 0), .v (.bool false), .v (.int .i64 0)], 56, .struct [(0, 1, false), (1, 1, false), (2, 1, false), (3, 1, false), (4, 1, false)], none, []⟩
theorem ty27_ok : TIok Tryz.prog 27 ty27 := ⟨by kernel_rfl, by kernel_rfl, rfl, rfl, rfl, ⟨by kernel_rfl, by kernel_rfl⟩, (fun ks h => by cases h), fun m h => by cases h⟩
def ty28 : TI := ⟨1, false, [.slice none 0 0], [.v (.slice none 0 0)], 24, .slice 3 1 .ints, none, []⟩
theorem ty28_ok : TIok Tryz.prog 28 ty28 := ⟨by kernel_rfl, by kernel_rfl, rfl, rfl, rfl, ⟨by kernel_rfl, by kernel_rfl, by kernel_rfl, rfl⟩, (fun ks h => by cases h), fun m h => by cases h⟩
def ty30 : TI := ⟨4, true, [.int .i64 0, .slice none 0 0, .int .i64 0, .int .i64 0], [.v (.int .i64 0), .v (.slice none 0 0), .v (.int .i64 0), .v (.int .i64 0)], 48, .struct [(0, 1, false), (1, 1, false), (2, 1, false), (3, 1, false)], none, []⟩
theorem ty30_ok : TIok Tryz.prog 30 ty30 := ⟨by kernel_rfl, by kernel_rfl, rfl, rfl, rfl, ⟨by kernel_rfl, by kernel_rfl⟩, (fun ks h => by cases h), fun m h => by cases h⟩
def ty32 : TI := ⟨4, true, [.bool false, .bool false, .bool false, .bool false], [.v (.bool false), .v (.bool false), .v (.bool false), .v (.bool false)], 4, .struct [(0, 1, false), (1, 1, false), (2, 1, false), (3, 1, false)], some [none, none, none, none], []⟩
theorem ty32_ok : TIok Tryz.prog 32 ty32 := ⟨by kernel_rfl, by kernel_rfl, rfl, rfl, rfl, ⟨by kernel_rfl, by kernel_rfl⟩, (fun ks h => by cases h; exact ⟨by kernel_rfl, by kernel_rfl, by kernel_rfl, by kernel_rfl⟩), fun m h => by cases h⟩
def ty34 : TI := ⟨18, true, [.int .i64 0, .int .i64 0, .int .i64 0, .int .i64 0, .int .i64 0, .int .i64 0, .int .i64 0, .slice none 0 0, .bool false, .int .i64 0, .int .i64 0, .slice none 0 0, .int .i64 0, .int .i64 0, .bool false, .bool false, .bool false, .bool false], [.v (.int .i64 0), .v (.int .i64 0), .v (.int .i64 0), .v (.int .i64 0), .v (.int .i64 0), .v (.int .i64 0), .v (.int .i64 0), .v (.slice none 0 0), .v (.bool false), .v (.int .i64 0), .v (.int .i64 0), .v (.slice none 0 0), .v (.int .i64 0), .v (.int .i64 0), .v (.bool false), .v (.bool false), .v (.bool false), .v (.bool false)], 152, .struct [(0, 3, true), (3, 1, false), (4, 1, false), (5, 5, true), (10, 4, true), (14, 4, true)], none, []⟩
theorem ty34_ok : TIok Tryz.prog 34 ty34 := ⟨by kernel_rfl, by kernel_rfl, rfl, rfl, rfl, ⟨by kernel_rfl, by kernel_rfl⟩, (fun ks h => by cases h), fun m h => by cases h⟩
def ty36 : TI := ⟨22, true, [.int .i64 0, .int .i64 0, .int .i64 0, .int .i64 0, .int .i64 0, .int .i64 0, .int .i64 0, .slice none 0 0, .bool false, .int .i64 0, .int .i64 0, .slice none 0 0, .int .i64 0, .int .i64 0, .bool false, .bool false, .bool false, .bool false, .slice none 0 0, .slice none 0 0, .int .i64 0, .int .i64 0], [.v (.int .i64 0), .v (.int .i64 0), .v (.int .i64 0), .v (.int .i64 0), .v (.int .i64 0), .v (.int .i64 0), .v (.int .i64 0), .v (.slice none 0 0), .v (.bool false), .v (.int .i64 0), .v (.int .i64 0), .v (.slice none 0 0), .v (.int .i64 0), .v (.int .i64 0), .v (.bool false), .v (.bool false), .v (.bool false), .v (.bool false), .v (.slice none 0 0), .v (.slice none 0 0), .v (.int .i64 0), .v (.int .i64 0)], 216, .struct [(0, 18, true), (18, 1, false), (19, 1, false), (20, 1, false), (21, 1, false)], none, []⟩
theorem ty36_ok : TIok Tryz.prog 36 ty36 := ⟨by kernel_rfl, by kernel_rfl, rfl, rfl, rfl, ⟨by kernel_rfl, by kernel_rfl⟩, (fun ks h => by cases h), fun m h => by cases h⟩
def ty46 : TI := ⟨2, true, [.int .i64 0, .int .i64 0], [.v (.int .i64 0), .v (.int .i64 0)], 16, .struct [(0, 1, false), (1, 1, false)], some [some .i64, some .i64], []⟩
theorem ty46_ok : TIok Tryz.prog 46 ty46 := ⟨by kernel_rfl, by kernel_rfl, rfl, rfl, rfl, ⟨by kernel_rfl, by kernel_rfl⟩, (fun ks h => by cases h; exact ⟨by kernel_rfl, by kernel_rfl, by kernel_rfl, by kernel_rfl⟩), fun m h => by cases h⟩
def ty47 : TI := ⟨3, true, [.int .i64 0, .int .i64 0, .int .i64 0], [.v (.int .i64 0), .v (.int .i64 0), .v (.int .i64 0)], 24, .struct [(0, 1, false), (1, 1, false), (2, 1, false)], some [some .i64, some .i64, some .i64], []⟩
theorem ty47_ok : TIok Tryz.prog 47 ty47 := ⟨by kernel_rfl, by kernel_rfl, rfl, rfl, rfl, ⟨by kernel_rfl, by kernel_rfl⟩, (fun ks h => by cases h; exact ⟨by kernel_rfl, by kernel_rfl, by kernel_rfl, by kernel_rfl⟩), fun m h => by cases h⟩
def ty48 : TI := ⟨1, false, [.slice none 0 0], [.v (.slice none 0 0)], 24, .slice 175 2 .gots, none, []⟩
theorem ty48_ok : TIok Tryz.prog 48 ty48 := ⟨by kernel_rfl, by kernel_rfl, rfl, rfl, rfl, ⟨by kernel_rfl, by kernel_rfl, by kernel_rfl, rfl⟩, (fun ks h => by cases h), fun m h => by cases h⟩
def ty50 : TI := ⟨5, true, [.int .i64 0, .int .i64 0, .slice none 0 0, .bool false, .int .i64 0], [.v (.int .i64 0), .v (.int .i64 0), .v (.slice none 0 0), .v (.bool false), .v (.int .i64 0)], 56, .struct [(0, 1, false), (1, 1, false), (2, 1, false), (3, 1, false), (4, 1, false)], none, []⟩
theorem ty50_ok : TIok Tryz.prog 50 ty50 := ⟨by kernel_rfl, by kernel_rfl, rfl, rfl, rfl, ⟨by kernel_rfl, by kernel_rfl⟩, (fun ks h => by cases h), fun m h => by cases h⟩
def ty51 : TI := ⟨4, true, [.int .i64 0, .slice none 0 0, .int .i64 0, .int .i64 0], [.v (.int .i64 0), .v (.slice none 0 0), .v (.int .i64 0), .v (.int .i64 0)], 48, .struct [(0, 1, false), (1, 1, false), (2, 1, false), (3, 1, false)], none, []⟩
theorem ty51_ok : TIok Tryz.prog 51 ty51 := ⟨by kernel_rfl, by kernel_rfl, rfl, rfl, rfl, ⟨by kernel_rfl, by kernel_rfl⟩, (fun ks h => by cases h), fun m h => by cases h⟩
def ty52 : TI := ⟨4, true, [.bool false, .bool false, .bool false, .bool false], [.v (.bool false), .v (.bool false), .v (.bool false), .v (.bool false)], 4, .struct [(0, 1, false), (1, 1, false), (2, 1, false), (3, 1, false)], some [none, none, none, none], []⟩
theorem ty52_ok : TIok Tryz.prog 52 ty52 := ⟨by kernel_rfl, by kernel_rfl, rfl, rfl, rfl, ⟨by kernel_rfl, by kernel_rfl⟩, (fun ks h => by cases h; exact ⟨by kernel_rfl, by kernel_rfl, by kernel_rfl, by kernel_rfl⟩), fun m h => by cases h⟩
def ty54 : TI := ⟨18, true, [.int .i64 0, .int .i64 0, .int .i64 0, .int .i64 0, .int .i64 0, .int .i64 0, .int .i64 0, .slice none 0 0, .bool false, .int .i64 0, .int .i64 0, .slice none 0 0, .int .i64 0, .int .i64 0, .bool false, .bool false, .bool false, .bool false], [.v (.int .i64 0), .v (.int .i64 0), .v (.int .i64 0), .v (.int .i64 0), .v (.int .i64 0), .v (.int .i64 0), .v (.int .i64 0), .v (.slice none 0 0), .v (.bool false), .v (.int .i64 0), .v (.int .i64 0), .v (.slice none 0 0), .v (.int .i64 0), .v (.int .i64 0), .v (.bool false), .v (.bool false), .v (.bool false), .v (.bool false)], 152, .struct [(0, 3, true), (3, 1, false), (4, 1, false), (5, 5, true), (10, 4, true), (14, 4, true)], none, []⟩
theorem ty54_ok : TIok Tryz.prog 54 ty54 := ⟨by kernel_rfl, by kernel_rfl, rfl, rfl, rfl, ⟨by kernel_rfl, by kernel_rfl⟩, (fun ks h => by cases h), fun m h => by cases h⟩
def ty56 : TI := ⟨22, true, [.int .i64 0, .int .i64 0, .int .i64 0, .int .i64 0, .int .i64 0, .int .i64 0, .int .i64 0, .slice none 0 0, .bool false, .int .i64 0, .int .i64 0, .slice none 0 0, .int .i64 0, .int .i64 0, .bool false, .bool false, .bool false, .bool false, .slice none 0 0, .slice none 0 0, .int .i64 0, .int .i64 0], [.v (.int .i64 0), .v (.int .i64 0), .v (.int .i64 0), .v (.int .i64 0), .v (.int .i64 0), .v (.int .i64 0), .v (.int .i64 0), .v (.slice none 0 0), .v (.bool false), .v (.int .i64 0), .v (.int .i64 0), .v (.slice none 0 0), .v (.int .i64 0), .v (.int .i64 0), .v (.bool false), .v (.bool false), .v (.bool false), .v (.bool false), .v (.slice none 0 0), .v (.slice none 0 0), .v (.int .i64 0), .v (.int .i64 0)], 216, .struct [(0, 18, true), (18, 1, false), (19, 1, false), (20, 1, false), (21, 1, false)], none, []⟩
theorem ty56_ok : TIok Tryz.prog 56 ty56 := ⟨by kernel_rfl, by kernel_rfl, rfl, rfl, rfl, ⟨by kernel_rfl, by kernel_rfl⟩, (fun ks h => by cases h), fun m h => by cases h⟩
def ty62 : TI := ⟨1, false, [.pointer none], [.v (.pointer none)], 8, .ptr 89, none, []⟩
theorem ty62_ok : TIok Tryz.prog 62 ty62 := ⟨by kernel_rfl, by kernel_rfl, rfl, rfl, rfl, by show Tryz.prog.underlying 62 = some (TypeDesc.pointer 89); kernel_rfl, (fun ks h => by cases h), fun m h => by cases h⟩
def ty65 : TI := ⟨1, false, [.pointer none], [.v (.pointer none)], 8, .ptr 36, none, []⟩
theorem ty65_ok : TIok Tryz.prog 65 ty65 := ⟨by kernel_rfl, by kernel_rfl, rfl, rfl, rfl, by show Tryz.prog.underlying 65 = some (TypeDesc.pointer 36); kernel_rfl, (fun ks h => by cases h), fun m h => by cases h⟩
def ty66 : TI := ⟨1, false, [.map none], [.v (.map none)], 8, .map, none, []⟩
theorem ty66_ok : TIok Tryz.prog 66 ty66 := ⟨by kernel_rfl, by kernel_rfl, rfl, rfl, rfl, (by kernel_rfl : (Tryz.prog.underlying 66).bind (fun d => match d with | .map k _ => (Tryz.prog.underlying k).map isI64 | _ => none) = some true), (fun ks h => by cases h), fun m h => by cases h⟩
def ty75 : TI := ⟨9, true, [.int .i64 0, .int .i64 0, .slice none 0 0, .bool false, .int .i64 0, .int .i64 0, .slice none 0 0, .int .i64 0, .int .i64 0], [.v (.int .i64 0), .v (.int .i64 0), .v (.slice none 0 0), .v (.bool false), .v (.int .i64 0), .v (.int .i64 0), .v (.slice none 0 0), .v (.int .i64 0), .v (.int .i64 0)], 104, .struct [(0, 5, true), (5, 4, true)], none, []⟩
theorem ty75_ok : TIok Tryz.prog 75 ty75 := ⟨by kernel_rfl, by kernel_rfl, rfl, rfl, rfl, ⟨by kernel_rfl, by kernel_rfl⟩, (fun ks h => by cases h), fun m h => by cases h⟩
def ty89 : TI := ⟨2, true, [.slice none 0 0, .int .i64 0], [.v (.slice none 0 0), .v (.int .i64 0)], 32, .struct [(0, 1, false), (1, 1, false)], none, []⟩
theorem ty89_ok : TIok Tryz.prog 89 ty89 := ⟨by kernel_rfl, by kernel_rfl, rfl, rfl, rfl, ⟨by kernel_rfl, by kernel_rfl⟩, (fun ks h => by cases h), fun m h => by cases h⟩
def ty100 : TI := ⟨1, false, [.pointer none], [.v (.pointer none)], 8, .ptr 102, none, [("Len", 74, false), ("Less", 171, false), ("Pop", 172, true), ("Push", 173, true), ("Swap", 174, false)]⟩
theorem ty100_ok : TIok Tryz.prog 100 ty100 := ⟨by kernel_rfl, by kernel_rfl, rfl, rfl, rfl, by show Tryz.prog.underlying 100 = some (TypeDesc.pointer 102); kernel_rfl, (fun ks h => by cases h), (by
  intro m hm n w
  change m ∈ ([("Len", 74, false), ("Less", 171, false), ("Pop", 172, true), ("Push", 173, true), ("Swap", 174, false)] : List (String × FuncId × Bool)) at hm
  simp only [List.mem_cons, List.not_mem_nil, or_false] at hm
  rcases hm with rfl | rfl | rfl | rfl | rfl
  · exact ⟨fun h => (by cases h), fun _ e he => by
    replace he : TK.ptr 102 = TK.ptr e := he
    obtain rfl := TK.ptr.inj he
    show Sem.run _ _ _ = Sem.run _ _ _
    kernel_rfl⟩
  · exact ⟨fun h => (by cases h), fun _ e he => by
    replace he : TK.ptr 102 = TK.ptr e := he
    obtain rfl := TK.ptr.inj he
    show Sem.run _ _ _ = Sem.run _ _ _
    kernel_rfl⟩
  · exact ⟨fun _ => by kernel_rfl, fun h => by cases h⟩
  · exact ⟨fun _ => by kernel_rfl, fun h => by cases h⟩
  · exact ⟨fun h => (by cases h), fun _ e he => by
    replace he : TK.ptr 102 = TK.ptr e := he
    obtain rfl := TK.ptr.inj he
    show Sem.run _ _ _ = Sem.run _ _ _
    kernel_rfl⟩)⟩
def ty101 : TI := ⟨1, false, [.slice none 0 0], [.v (.slice none 0 0)], 24, .slice 104 3 .k3, none, []⟩
theorem ty101_ok : TIok Tryz.prog 101 ty101 := ⟨by kernel_rfl, by kernel_rfl, rfl, rfl, rfl, ⟨by kernel_rfl, by kernel_rfl, by kernel_rfl, rfl⟩, (fun ks h => by cases h), fun m h => by cases h⟩
def ty102 : TI := ⟨1, false, [.slice none 0 0], [.v (.slice none 0 0)], 24, .slice 104 3 .k3, none, []⟩
theorem ty102_ok : TIok Tryz.prog 102 ty102 := ⟨by kernel_rfl, by kernel_rfl, rfl, rfl, rfl, ⟨by kernel_rfl, by kernel_rfl, by kernel_rfl, rfl⟩, (fun ks h => by cases h), fun m h => by cases h⟩
def ty104 : TI := ⟨3, true, [.int .i64 0, .int .i64 0, .int .i64 0], [.v (.int .i64 0), .v (.int .i64 0), .v (.int .i64 0)], 24, .struct [(0, 1, false), (1, 1, false), (2, 1, false)], some [some .i64, some .i64, some .i64], []⟩
theorem ty104_ok : TIok Tryz.prog 104 ty104 := ⟨by kernel_rfl, by kernel_rfl, rfl, rfl, rfl, ⟨by kernel_rfl, by kernel_rfl⟩, (fun ks h => by cases h; exact ⟨by kernel_rfl, by kernel_rfl, by kernel_rfl, by kernel_rfl⟩), fun m h => by cases h⟩
def ty105 : TI := ⟨18, true, [.int .i64 0, .int .i64 0, .int .i64 0, .int .i64 0, .int .i64 0, .int .i64 0, .int .i64 0, .int .i64 0, .int .i64 0, .int .i64 0, .int .i64 0, .int .i64 0, .int .i64 0, .int .i64 0, .int .i64 0, .int .i64 0, .int .i64 0, .int .i64 0], [.v (.int .i64 0), .v (.int .i64 0), .v (.int .i64 0), .v (.int .i64 0), .v (.int .i64 0), .v (.int .i64 0), .v (.int .i64 0), .v (.int .i64 0), .v (.int .i64 0), .v (.int .i64 0), .v (.int .i64 0), .v (.int .i64 0), .v (.int .i64 0), .v (.int .i64 0), .v (.int .i64 0), .v (.int .i64 0), .v (.int .i64 0), .v (.int .i64 0)], 144, .arr 6 104 3 true, none, []⟩
theorem ty105_ok : TIok Tryz.prog 105 ty105 := ⟨by kernel_rfl, by kernel_rfl, rfl, rfl, rfl, ⟨by kernel_rfl, by kernel_rfl, by kernel_rfl⟩, (fun ks h => by cases h), fun m h => by cases h⟩
def ty112 : TI := ⟨1, false, [.pointer none], [.v (.pointer none)], 8, .ptr 4, none, []⟩
theorem ty112_ok : TIok Tryz.prog 112 ty112 := ⟨by kernel_rfl, by kernel_rfl, rfl, rfl, rfl, by show Tryz.prog.underlying 112 = some (TypeDesc.pointer 4); kernel_rfl, (fun ks h => by cases h), fun m h => by cases h⟩
def ty114 : TI := ⟨2, true, [.pointer none, .pointer none], [.v (.pointer none), .v (.pointer none)], 16, .struct [(0, 1, false), (1, 1, false)], none, []⟩
theorem ty114_ok : TIok Tryz.prog 114 ty114 := ⟨by kernel_rfl, by kernel_rfl, rfl, rfl, rfl, ⟨by kernel_rfl, by kernel_rfl⟩, (fun ks h => by cases h), fun m h => by cases h⟩
def ty115 : TI := ⟨4, true, [.pointer none, .pointer none, .pointer none, .pointer none], [.v (.pointer none), .v (.pointer none), .v (.pointer none), .v (.pointer none)], 32, .arr 2 114 2 true, none, []⟩
theorem ty115_ok : TIok Tryz.prog 115 ty115 := ⟨by kernel_rfl, by kernel_rfl, rfl, rfl, rfl, ⟨by kernel_rfl, by kernel_rfl, by kernel_rfl⟩, (fun ks h => by cases h), fun m h => by cases h⟩
def ty117 : TI := ⟨1, false, [.pointer none], [.v (.pointer none)], 8, .ptr 32, none, []⟩
theorem ty117_ok : TIok Tryz.prog 117 ty117 := ⟨by kernel_rfl, by kernel_rfl, rfl, rfl, rfl, by show Tryz.prog.underlying 117 = some (TypeDesc.pointer 32); kernel_rfl, (fun ks h => by cases h), fun m h => by cases h⟩
def ty159 : TI := ⟨2, true, [.int .i64 0, .slice none 0 0], [.v (.int .i64 0), .v (.slice none 0 0)], 32, .struct [(0, 1, false), (1, 1, false)], none, []⟩
theorem ty159_ok : TIok Tryz.prog 159 ty159 := ⟨by kernel_rfl, by kernel_rfl, rfl, rfl, rfl, ⟨by kernel_rfl, by kernel_rfl⟩, (fun ks h => by cases h), fun m h => by cases h⟩
def ty168 : TI := ⟨1, false, [.pointer none], [.v (.pointer none)], 8, .ptr 188, none, []⟩
theorem ty168_ok : TIok Tryz.prog 168 ty168 := ⟨by kernel_rfl, by kernel_rfl, rfl, rfl, rfl, by show Tryz.prog.underlying 168 = some (TypeDesc.pointer 188); kernel_rfl, (fun ks h => by cases h), fun m h => by cases h⟩
def ty175 : TI := ⟨2, true, [.int .i64 0, .int .i64 0], [.v (.int .i64 0), .v (.int .i64 0)], 16, .struct [(0, 1, false), (1, 1, false)], some [some .i64, some .i64], []⟩
theorem ty175_ok : TIok Tryz.prog 175 ty175 := ⟨by kernel_rfl, by kernel_rfl, rfl, rfl, rfl, ⟨by kernel_rfl, by kernel_rfl⟩, (fun ks h => by cases h; exact ⟨by kernel_rfl, by kernel_rfl, by kernel_rfl, by kernel_rfl⟩), fun m h => by cases h⟩
def ty179 : TI := ⟨1, false, [.pointer none], [.v (.pointer none)], 8, .ptr 194, none, []⟩
theorem ty179_ok : TIok Tryz.prog 179 ty179 := ⟨by kernel_rfl, by kernel_rfl, rfl, rfl, rfl, by show Tryz.prog.underlying 179 = some (TypeDesc.pointer 194); kernel_rfl, (fun ks h => by cases h), fun m h => by cases h⟩
def ty181 : TI := ⟨1, false, [.int .u64 0], [.v (.int .u64 0)], 8, .int .u64, none, []⟩
theorem ty181_ok : TIok Tryz.prog 181 ty181 := ⟨by kernel_rfl, by kernel_rfl, rfl, rfl, rfl, by show Tryz.prog.underlying 181 = some (TypeDesc.int .u64); kernel_rfl, (fun ks h => by cases h), fun m h => by cases h⟩
def ty186 : TI := ⟨1, false, [.pointer none], [.v (.pointer none)], 8, .ptr 191, none, []⟩
theorem ty186_ok : TIok Tryz.prog 186 ty186 := ⟨by kernel_rfl, by kernel_rfl, rfl, rfl, rfl, by show Tryz.prog.underlying 186 = some (TypeDesc.pointer 191); kernel_rfl, (fun ks h => by cases h), fun m h => by cases h⟩
def ty188 : TI := ⟨3, true, [.pointer none, .pointer none, .int .i64 0], [.v (.pointer none), .v (.pointer none), .v (.int .i64 0)], 24, .struct [(0, 1, false), (1, 1, false), (2, 1, false)], none, []⟩
theorem ty188_ok : TIok Tryz.prog 188 ty188 := ⟨by kernel_rfl, by kernel_rfl, rfl, rfl, rfl, ⟨by kernel_rfl, by kernel_rfl⟩, (fun ks h => by cases h), fun m h => by cases h⟩
def ty191 : TI := ⟨3, true, [.int .i64 0, .int .i64 0, .pointer none], [.v (.int .i64 0), .v (.int .i64 0), .v (.pointer none)], 24, .struct [(0, 2, true), (2, 1, false)], none, []⟩
theorem ty191_ok : TIok Tryz.prog 191 ty191 := ⟨by kernel_rfl, by kernel_rfl, rfl, rfl, rfl, ⟨by kernel_rfl, by kernel_rfl⟩, (fun ks h => by cases h), fun m h => by cases h⟩
def ty192 : TI := ⟨16, true, [.int .i64 0, .int .i64 0, .int .i64 0, .int .i64 0, .int .i64 0, .int .i64 0, .int .i64 0, .int .i64 0, .int .i64 0, .int .i64 0, .int .i64 0, .int .i64 0, .int .i64 0, .int .i64 0, .int .i64 0, .int .i64 0], [.v (.int .i64 0), .v (.int .i64 0), .v (.int .i64 0), .v (.int .i64 0), .v (.int .i64 0), .v (.int .i64 0), .v (.int .i64 0), .v (.int .i64 0), .v (.int .i64 0), .v (.int .i64 0), .v (.int .i64 0), .v (.int .i64 0), .v (.int .i64 0), .v (.int .i64 0), .v (.int .i64 0), .v (.int .i64 0)], 128, .arr 16 3 1 false, none, []⟩
theorem ty192_ok : TIok Tryz.prog 192 ty192 := ⟨by kernel_rfl, by kernel_rfl, rfl, rfl, rfl, ⟨by kernel_rfl, by kernel_rfl, by kernel_rfl⟩, (fun ks h => by cases h), fun m h => by cases h⟩
def ty194 : TI := ⟨19, true, [.int .i64 0, .int .i64 0, .int .i64 0, .int .i64 0, .int .i64 0, .int .i64 0, .int .i64 0, .int .i64 0, .int .i64 0, .int .i64 0, .int .i64 0, .int .i64 0, .int .i64 0, .int .i64 0, .int .i64 0, .int .i64 0, .int .i64 0, .int .i64 0, .int .i64 0], [.v (.int .i64 0), .v (.int .i64 0), .v (.int .i64 0), .v (.int .i64 0), .v (.int .i64 0), .v (.int .i64 0), .v (.int .i64 0), .v (.int .i64 0), .v (.int .i64 0), .v (.int .i64 0), .v (.int .i64 0), .v (.int .i64 0), .v (.int .i64 0), .v (.int .i64 0), .v (.int .i64 0), .v (.int .i64 0), .v (.int .i64 0), .v (.int .i64 0), .v (.int .i64 0)], 152, .struct [(0, 16, true), (16, 1, false), (17, 1, false), (18, 1, false)], none, []⟩
theorem ty194_ok : TIok Tryz.prog 194 ty194 := ⟨by kernel_rfl, by kernel_rfl, rfl, rfl, rfl, ⟨by kernel_rfl, by kernel_rfl⟩, (fun ks h => by cases h), fun m h => by cases h⟩
def ty197 : TI := ⟨1, false, [.pointer none], [.v (.pointer none)], 8, .ptr 229, none, []⟩
theorem ty197_ok : TIok Tryz.prog 197 ty197 := ⟨by kernel_rfl, by kernel_rfl, rfl, rfl, rfl, by show Tryz.prog.underlying 197 = some (TypeDesc.pointer 229); kernel_rfl, (fun ks h => by cases h), fun m h => by cases h⟩
def ty204 : TI := ⟨1, false, [.slice none 0 0], [.v (.slice none 0 0)], 24, .osl 164, none, []⟩
theorem ty204_ok : TIok Tryz.prog 204 ty204 := ⟨by kernel_rfl, by kernel_rfl, rfl, rfl, rfl, by show Tryz.prog.underlying 204 = some (TypeDesc.slice 164); kernel_rfl, (fun ks h => by cases h), fun m h => by cases h⟩
def ty206 : TI := ⟨1, false, [.pointer none], [.v (.pointer none)], 8, .ptr 231, none, []⟩
theorem ty206_ok : TIok Tryz.prog 206 ty206 := ⟨by kernel_rfl, by kernel_rfl, rfl, rfl, rfl, by show Tryz.prog.underlying 206 = some (TypeDesc.pointer 231); kernel_rfl, (fun ks h => by cases h), fun m h => by cases h⟩
def ty217 : TI := ⟨1, false, [.pointer none], [.v (.pointer none)], 8, .ptr 5, none, []⟩
theorem ty217_ok : TIok Tryz.prog 217 ty217 := ⟨by kernel_rfl, by kernel_rfl, rfl, rfl, rfl, by show Tryz.prog.underlying 217 = some (TypeDesc.pointer 5); kernel_rfl, (fun ks h => by cases h), fun m h => by cases h⟩
def ty233 : TI := ⟨1, false, [.pointer none], [.v (.pointer none)], 8, .ptr 237, none, []⟩
theorem ty233_ok : TIok Tryz.prog 233 ty233 := ⟨by kernel_rfl, by kernel_rfl, rfl, rfl, rfl, by show Tryz.prog.underlying 233 = some (TypeDesc.pointer 237); kernel_rfl, (fun ks h => by cases h), fun m h => by cases h⟩
def ty238 : TI := ⟨1, false, [.slice none 0 0], [.v (.slice none 0 0)], 24, .osl 241, none, []⟩
theorem ty238_ok : TIok Tryz.prog 238 ty238 := ⟨by kernel_rfl, by kernel_rfl, rfl, rfl, rfl, by show Tryz.prog.underlying 238 = some (TypeDesc.slice 241); kernel_rfl, (fun ks h => by cases h), fun m h => by cases h⟩
def tab : Tab := [(2, ty2), (3, ty3), (4, ty4), (5, ty5), (9, ty9), (12, ty12), (15, ty15), (16, ty16), (17, ty17), (22, ty22), (24, ty24), (25, ty25), (27, ty27), (28, ty28), (30, ty30), (32, ty32), (34, ty34), (36, ty36), (46, ty46), (47, ty47), (48, ty48), (50, ty50), (51, ty51), (52, ty52), (54, ty54), (56, ty56), (62, ty62), (65, ty65), (66, ty66), (75, ty75), (89, ty89), (100, ty100), (101, ty101), (102, ty102), (104, ty104), (105, ty105), (112, ty112), (114, ty114), (115, ty115), (117, ty117), (159, ty159), (168, ty168), (175, ty175), (179, ty179), (181, ty181), (186, ty186), (188, ty188), (191, ty191), (192, ty192), (194, ty194), (197, ty197), (204, ty204), (206, ty206), (217, ty217), (233, ty233), (238, ty238)]
theorem tab_ok : TabOk Tryz.prog tab := tabAll_ok ⟨ty2_ok, ty3_ok, ty4_ok, ty5_ok, ty9_ok, ty12_ok, ty15_ok, ty16_ok, ty17_ok, ty22_ok, ty24_ok, ty25_ok, ty27_ok, ty28_ok, ty30_ok, ty32_ok, ty34_ok, ty36_ok, ty46_ok, ty47_ok, ty48_ok, ty50_ok, ty51_ok, ty52_ok, ty54_ok, ty56_ok, ty62_ok, ty65_ok, ty66_ok, ty75_ok, ty89_ok, ty100_ok, ty101_ok, ty102_ok, ty104_ok, ty105_ok, ty112_ok, ty114_ok, ty115_ok, ty117_ok, ty159_ok, ty168_ok, ty175_ok, ty179_ok, ty181_ok, ty186_ok, ty188_ok, ty191_ok, ty192_ok, ty194_ok, ty197_ok, ty204_ok, ty206_ok, ty217_ok, ty233_ok, ty238_ok, trivial⟩
theorem mixed_ok : Tryz.prog.follows .mixedOrders = true := by kernel_rfl
end Go.Proofs.YtffngipmjbffkaaGreatDoor
