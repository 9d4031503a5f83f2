/-
  The types of the program, as the abstract walk has them. No condition. Written by a program.
-/
import Derived.Test.YtacjfkodndkaeaaAbsN
namespace Go.Proofs.Ytacjfkodndkaeaa
open Go.RowKit
open Ab
def ty2 : TI := ⟨1, false, [.int .i64 0], [.v (.int .i64 0)], 8, .int .i64, none, []⟩
theorem ty2_ok : TIok Try.prog 2 ty2 := ⟨by kernel_rfl, by kernel_rfl, rfl, rfl, rfl, by show Try.prog.underlying 2 = some (TypeDesc.int .i64); kernel_rfl, (fun ks h => by cases h), fun m h => by cases h⟩
def ty3 : TI := ⟨1, false, [.int .i64 0], [.v (.int .i64 0)], 8, .int .i64, none, []⟩
theorem ty3_ok : TIok Try.prog 3 ty3 := ⟨by kernel_rfl, by kernel_rfl, rfl, rfl, rfl, by show Try.prog.underlying 3 = some (TypeDesc.int .i64); kernel_rfl, (fun ks h => by cases h), fun m h => by cases h⟩
def ty4 : TI := ⟨1, false, [.bool false], [.v (.bool false)], 1, .bool, none, []⟩
theorem ty4_ok : TIok Try.prog 4 ty4 := ⟨by kernel_rfl, by kernel_rfl, rfl, rfl, rfl, by show Try.prog.underlying 4 = some TypeDesc.bool; kernel_rfl, (fun ks h => by cases h), fun m h => by cases h⟩
def ty5 : TI := ⟨1, false, [.int .u8 0], [.v (.int .u8 0)], 1, .int .u8, none, []⟩
theorem ty5_ok : TIok Try.prog 5 ty5 := ⟨by kernel_rfl, by kernel_rfl, rfl, rfl, rfl, by show Try.prog.underlying 5 = some (TypeDesc.int .u8); kernel_rfl, (fun ks h => by cases h), fun m h => by cases h⟩
def ty9 : TI := ⟨1, false, [.string ⟨#[]⟩], [.v (.string ⟨#[]⟩)], 16, .str, none, []⟩
theorem ty9_ok : TIok Try.prog 9 ty9 := ⟨by kernel_rfl, by kernel_rfl, rfl, rfl, rfl, by show Try.prog.underlying 9 = some TypeDesc.string; kernel_rfl, (fun ks h => by cases h), fun m h => by cases h⟩
def ty12 : TI := ⟨1, false, [.int .u64 0], [.v (.int .u64 0)], 8, .int .u64, none, []⟩
theorem ty12_ok : TIok Try.prog 12 ty12 := ⟨by kernel_rfl, by kernel_rfl, rfl, rfl, rfl, by show Try.prog.underlying 12 = some (TypeDesc.int .u64); kernel_rfl, (fun ks h => by cases h), fun m h => by cases h⟩
def ty15 : TI := ⟨1, false, [.pointer none], [.v (.pointer none)], 8, .ptr 161, none, []⟩
theorem ty15_ok : TIok Try.prog 15 ty15 := ⟨by kernel_rfl, by kernel_rfl, rfl, rfl, rfl, by show Try.prog.underlying 15 = some (TypeDesc.pointer 161); kernel_rfl, (fun ks h => by cases h), fun m h => by cases h⟩
def ty16 : TI := ⟨1, false, [.pointer none], [.v (.pointer none)], 8, .ptr 164, none, []⟩
theorem ty16_ok : TIok Try.prog 16 ty16 := ⟨by kernel_rfl, by kernel_rfl, rfl, rfl, rfl, by show Try.prog.underlying 16 = some (TypeDesc.pointer 164); kernel_rfl, (fun ks h => by cases h), fun m h => by cases h⟩
def ty17 : TI := ⟨1, false, [.pointer none], [.v (.pointer none)], 8, .ptr 173, none, []⟩
theorem ty17_ok : TIok Try.prog 17 ty17 := ⟨by kernel_rfl, by kernel_rfl, rfl, rfl, rfl, by show Try.prog.underlying 17 = some (TypeDesc.pointer 173); kernel_rfl, (fun ks h => by cases h), fun m h => by cases h⟩
def ty22 : TI := ⟨1, false, [.slice none 0 0], [.v (.slice none 0 0)], 24, .slice 5 1 .bytes, none, []⟩
theorem ty22_ok : TIok Try.prog 22 ty22 := ⟨by kernel_rfl, by kernel_rfl, rfl, rfl, rfl, ⟨by kernel_rfl, by kernel_rfl, by kernel_rfl, rfl⟩, (fun ks h => by cases h), fun m h => by cases h⟩
def ty26 : TI := ⟨3, true, [.int .i64 0, .int .i64 0, .int .i64 0], [.v (.int .i64 0), .v (.int .i64 0), .v (.int .i64 0)], 24, .struct [(0, 1, false), (1, 1, false), (2, 1, false)], some [some .i64, some .i64, some .i64], []⟩
theorem ty26_ok : TIok Try.prog 26 ty26 := ⟨by kernel_rfl, by kernel_rfl, rfl, rfl, rfl, ⟨by kernel_rfl, by kernel_rfl⟩, (fun ks h => by cases h; exact ⟨by kernel_rfl, by kernel_rfl, by kernel_rfl, by kernel_rfl⟩), fun m h => by cases h⟩
def ty27 : TI := ⟨1, false, [.slice none 0 0], [.v (.slice none 0 0)], 24, .slice 53 2 .gots, none, []⟩
theorem ty27_ok : TIok Try.prog 27 ty27 := ⟨by kernel_rfl, by kernel_rfl, rfl, rfl, rfl, ⟨by kernel_rfl, by kernel_rfl, by kernel_rfl, rfl⟩, (fun ks h => by cases h), fun m h => by cases h⟩
def ty29 : TI := ⟨5, true, [.int .i64 0, .int .i64 0, .slice none 0 0, .bool false, .int .i64 0], [.v (.int .i64 0), .v (.int .i64 0), .v (.slice none 0 0), .v (.bool false), .v (.int .i64 0)], 56, .struct [(0, 1, false), (1, 1, false), (2, 1, false), (3, 1, false), (4, 1, false)], none, []⟩
theorem ty29_ok : TIok Try.prog 29 ty29 := ⟨by kernel_rfl, by kernel_rfl, rfl, rfl, rfl, ⟨by kernel_rfl, by kernel_rfl⟩, (fun ks h => by cases h), fun m h => by cases h⟩
def ty30 : TI := ⟨1, false, [.slice none 0 0], [.v (.slice none 0 0)], 24, .slice 3 1 .ints, none, []⟩
theorem ty30_ok : TIok Try.prog 30 ty30 := ⟨by kernel_rfl, by kernel_rfl, rfl, rfl, rfl, ⟨by kernel_rfl, by kernel_rfl, by kernel_rfl, rfl⟩, (fun ks h => by cases h), fun m h => by cases h⟩
def ty32 : TI := ⟨4, true, [.int .i64 0, .slice none 0 0, .int .i64 0, .int .i64 0], [.v (.int .i64 0), .v (.slice none 0 0), .v (.int .i64 0), .v (.int .i64 0)], 48, .struct [(0, 1, false), (1, 1, false), (2, 1, false), (3, 1, false)], none, []⟩
theorem ty32_ok : TIok Try.prog 32 ty32 := ⟨by kernel_rfl, by kernel_rfl, rfl, rfl, rfl, ⟨by kernel_rfl, by kernel_rfl⟩, (fun ks h => by cases h), fun m h => by cases h⟩
def ty34 : TI := ⟨4, true, [.bool false, .bool false, .bool false, .bool false], [.v (.bool false), .v (.bool false), .v (.bool false), .v (.bool false)], 4, .struct [(0, 1, false), (1, 1, false), (2, 1, false), (3, 1, false)], some [none, none, none, none], []⟩
theorem ty34_ok : TIok Try.prog 34 ty34 := ⟨by kernel_rfl, by kernel_rfl, rfl, rfl, rfl, ⟨by kernel_rfl, by kernel_rfl⟩, (fun ks h => by cases h; exact ⟨by kernel_rfl, by kernel_rfl, by kernel_rfl, by kernel_rfl⟩), fun m h => by cases h⟩
def ty36 : TI := ⟨18, true, [.int .i64 0, .int .i64 0, .int .i64 0, .int .i64 0, .int .i64 0, .int .i64 0, .int .i64 0, .slice none 0 0, .bool false, .int .i64 0, .int .i64 0, .slice none 0 0, .int .i64 0, .int .i64 0, .bool false, .bool false, .bool false, .bool false], [.v (.int .i64 0), .v (.int .i64 0), .v (.int .i64 0), .v (.int .i64 0), .v (.int .i64 0), .v (.int .i64 0), .v (.int .i64 0), .v (.slice none 0 0), .v (.bool false), .v (.int .i64 0), .v (.int .i64 0), .v (.slice none 0 0), .v (.int .i64 0), .v (.int .i64 0), .v (.bool false), .v (.bool false), .v (.bool false), .v (.bool false)], 152, .struct [(0, 3, true), (3, 1, false), (4, 1, false), (5, 5, true), (10, 4, true), (14, 4, true)], none, []⟩
theorem ty36_ok : TIok Try.prog 36 ty36 := ⟨by kernel_rfl, by kernel_rfl, rfl, rfl, rfl, ⟨by kernel_rfl, by kernel_rfl⟩, (fun ks h => by cases h), fun m h => by cases h⟩
def ty53 : TI := ⟨2, true, [.int .i64 0, .int .i64 0], [.v (.int .i64 0), .v (.int .i64 0)], 16, .struct [(0, 1, false), (1, 1, false)], some [some .i64, some .i64], []⟩
theorem ty53_ok : TIok Try.prog 53 ty53 := ⟨by kernel_rfl, by kernel_rfl, rfl, rfl, rfl, ⟨by kernel_rfl, by kernel_rfl⟩, (fun ks h => by cases h; exact ⟨by kernel_rfl, by kernel_rfl, by kernel_rfl, by kernel_rfl⟩), fun m h => by cases h⟩
def ty61 : TI := ⟨3, true, [.int .i64 0, .int .i64 0, .int .i64 0], [.v (.int .i64 0), .v (.int .i64 0), .v (.int .i64 0)], 24, .struct [(0, 1, false), (1, 1, false), (2, 1, false)], some [some .i64, some .i64, some .i64], []⟩
theorem ty61_ok : TIok Try.prog 61 ty61 := ⟨by kernel_rfl, by kernel_rfl, rfl, rfl, rfl, ⟨by kernel_rfl, by kernel_rfl⟩, (fun ks h => by cases h; exact ⟨by kernel_rfl, by kernel_rfl, by kernel_rfl, by kernel_rfl⟩), fun m h => by cases h⟩
def ty62 : TI := ⟨1, false, [.slice none 0 0], [.v (.slice none 0 0)], 24, .slice 157 2 .gots, none, []⟩
theorem ty62_ok : TIok Try.prog 62 ty62 := ⟨by kernel_rfl, by kernel_rfl, rfl, rfl, rfl, ⟨by kernel_rfl, by kernel_rfl, by kernel_rfl, rfl⟩, (fun ks h => by cases h), fun m h => by cases h⟩
def ty64 : TI := ⟨5, true, [.int .i64 0, .int .i64 0, .slice none 0 0, .bool false, .int .i64 0], [.v (.int .i64 0), .v (.int .i64 0), .v (.slice none 0 0), .v (.bool false), .v (.int .i64 0)], 56, .struct [(0, 1, false), (1, 1, false), (2, 1, false), (3, 1, false), (4, 1, false)], none, []⟩
theorem ty64_ok : TIok Try.prog 64 ty64 := ⟨by kernel_rfl, by kernel_rfl, rfl, rfl, rfl, ⟨by kernel_rfl, by kernel_rfl⟩, (fun ks h => by cases h), fun m h => by cases h⟩
def ty65 : TI := ⟨4, true, [.int .i64 0, .slice none 0 0, .int .i64 0, .int .i64 0], [.v (.int .i64 0), .v (.slice none 0 0), .v (.int .i64 0), .v (.int .i64 0)], 48, .struct [(0, 1, false), (1, 1, false), (2, 1, false), (3, 1, false)], none, []⟩
theorem ty65_ok : TIok Try.prog 65 ty65 := ⟨by kernel_rfl, by kernel_rfl, rfl, rfl, rfl, ⟨by kernel_rfl, by kernel_rfl⟩, (fun ks h => by cases h), fun m h => by cases h⟩
def ty66 : TI := ⟨4, true, [.bool false, .bool false, .bool false, .bool false], [.v (.bool false), .v (.bool false), .v (.bool false), .v (.bool false)], 4, .struct [(0, 1, false), (1, 1, false), (2, 1, false), (3, 1, false)], some [none, none, none, none], []⟩
theorem ty66_ok : TIok Try.prog 66 ty66 := ⟨by kernel_rfl, by kernel_rfl, rfl, rfl, rfl, ⟨by kernel_rfl, by kernel_rfl⟩, (fun ks h => by cases h; exact ⟨by kernel_rfl, by kernel_rfl, by kernel_rfl, by kernel_rfl⟩), fun m h => by cases h⟩
def ty68 : TI := ⟨18, true, [.int .i64 0, .int .i64 0, .int .i64 0, .int .i64 0, .int .i64 0, .int .i64 0, .int .i64 0, .slice none 0 0, .bool false, .int .i64 0, .int .i64 0, .slice none 0 0, .int .i64 0, .int .i64 0, .bool false, .bool false, .bool false, .bool false], [.v (.int .i64 0), .v (.int .i64 0), .v (.int .i64 0), .v (.int .i64 0), .v (.int .i64 0), .v (.int .i64 0), .v (.int .i64 0), .v (.slice none 0 0), .v (.bool false), .v (.int .i64 0), .v (.int .i64 0), .v (.slice none 0 0), .v (.int .i64 0), .v (.int .i64 0), .v (.bool false), .v (.bool false), .v (.bool false), .v (.bool false)], 152, .struct [(0, 3, true), (3, 1, false), (4, 1, false), (5, 5, true), (10, 4, true), (14, 4, true)], none, []⟩
theorem ty68_ok : TIok Try.prog 68 ty68 := ⟨by kernel_rfl, by kernel_rfl, rfl, rfl, rfl, ⟨by kernel_rfl, by kernel_rfl⟩, (fun ks h => by cases h), fun m h => by cases h⟩
def ty73 : TI := ⟨1, false, [.pointer none], [.v (.pointer none)], 8, .ptr 121, none, []⟩
theorem ty73_ok : TIok Try.prog 73 ty73 := ⟨by kernel_rfl, by kernel_rfl, rfl, rfl, rfl, by show Try.prog.underlying 73 = some (TypeDesc.pointer 121); kernel_rfl, (fun ks h => by cases h), fun m h => by cases h⟩
def ty78 : TI := ⟨9, true, [.int .i64 0, .int .i64 0, .slice none 0 0, .bool false, .int .i64 0, .int .i64 0, .slice none 0 0, .int .i64 0, .int .i64 0], [.v (.int .i64 0), .v (.int .i64 0), .v (.slice none 0 0), .v (.bool false), .v (.int .i64 0), .v (.int .i64 0), .v (.slice none 0 0), .v (.int .i64 0), .v (.int .i64 0)], 104, .struct [(0, 5, true), (5, 4, true)], none, []⟩
theorem ty78_ok : TIok Try.prog 78 ty78 := ⟨by kernel_rfl, by kernel_rfl, rfl, rfl, rfl, ⟨by kernel_rfl, by kernel_rfl⟩, (fun ks h => by cases h), fun m h => by cases h⟩
def ty87 : TI := ⟨1, false, [.pointer none], [.v (.pointer none)], 8, .ptr 89, none, [("Len", 59, false), ("Less", 136, false), ("Pop", 137, true), ("Push", 138, true), ("Swap", 139, false)]⟩
theorem ty87_ok : TIok Try.prog 87 ty87 := ⟨by kernel_rfl, by kernel_rfl, rfl, rfl, rfl, by show Try.prog.underlying 87 = some (TypeDesc.pointer 89); kernel_rfl, (fun ks h => by cases h), (by
  intro m hm n w
  change m ∈ ([("Len", 59, false), ("Less", 136, false), ("Pop", 137, true), ("Push", 138, true), ("Swap", 139, false)] : List (String × FuncId × Bool)) at hm
  simp only [List.mem_cons, List.not_mem_nil, or_false] at hm
  rcases hm with rfl | rfl | rfl | rfl | rfl
  · exact ⟨fun h => (by cases h), fun _ e he => by
    replace he : TK.ptr 89 = TK.ptr e := he
    obtain rfl := TK.ptr.inj he
    show Sem.run _ _ _ = Sem.run _ _ _
    kernel_rfl⟩
  · exact ⟨fun h => (by cases h), fun _ e he => by
    replace he : TK.ptr 89 = TK.ptr e := he
    obtain rfl := TK.ptr.inj he
    show Sem.run _ _ _ = Sem.run _ _ _
    kernel_rfl⟩
  · exact ⟨fun _ => by kernel_rfl, fun h => by cases h⟩
  · exact ⟨fun _ => by kernel_rfl, fun h => by cases h⟩
  · exact ⟨fun h => (by cases h), fun _ e he => by
    replace he : TK.ptr 89 = TK.ptr e := he
    obtain rfl := TK.ptr.inj he
    show Sem.run _ _ _ = Sem.run _ _ _
    kernel_rfl⟩)⟩
def ty88 : TI := ⟨1, false, [.slice none 0 0], [.v (.slice none 0 0)], 24, .slice 91 3 .k3, none, []⟩
theorem ty88_ok : TIok Try.prog 88 ty88 := ⟨by kernel_rfl, by kernel_rfl, rfl, rfl, rfl, ⟨by kernel_rfl, by kernel_rfl, by kernel_rfl, rfl⟩, (fun ks h => by cases h), fun m h => by cases h⟩
def ty89 : TI := ⟨1, false, [.slice none 0 0], [.v (.slice none 0 0)], 24, .slice 91 3 .k3, none, []⟩
theorem ty89_ok : TIok Try.prog 89 ty89 := ⟨by kernel_rfl, by kernel_rfl, rfl, rfl, rfl, ⟨by kernel_rfl, by kernel_rfl, by kernel_rfl, rfl⟩, (fun ks h => by cases h), fun m h => by cases h⟩
def ty91 : TI := ⟨3, true, [.int .i64 0, .int .i64 0, .int .i64 0], [.v (.int .i64 0), .v (.int .i64 0), .v (.int .i64 0)], 24, .struct [(0, 1, false), (1, 1, false), (2, 1, false)], some [some .i64, some .i64, some .i64], []⟩
theorem ty91_ok : TIok Try.prog 91 ty91 := ⟨by kernel_rfl, by kernel_rfl, rfl, rfl, rfl, ⟨by kernel_rfl, by kernel_rfl⟩, (fun ks h => by cases h; exact ⟨by kernel_rfl, by kernel_rfl, by kernel_rfl, by kernel_rfl⟩), fun m h => by cases h⟩
def ty92 : TI := ⟨18, true, [.int .i64 0, .int .i64 0, .int .i64 0, .int .i64 0, .int .i64 0, .int .i64 0, .int .i64 0, .int .i64 0, .int .i64 0, .int .i64 0, .int .i64 0, .int .i64 0, .int .i64 0, .int .i64 0, .int .i64 0, .int .i64 0, .int .i64 0, .int .i64 0], [.v (.int .i64 0), .v (.int .i64 0), .v (.int .i64 0), .v (.int .i64 0), .v (.int .i64 0), .v (.int .i64 0), .v (.int .i64 0), .v (.int .i64 0), .v (.int .i64 0), .v (.int .i64 0), .v (.int .i64 0), .v (.int .i64 0), .v (.int .i64 0), .v (.int .i64 0), .v (.int .i64 0), .v (.int .i64 0), .v (.int .i64 0), .v (.int .i64 0)], 144, .arr 6 91 3 true, none, []⟩
theorem ty92_ok : TIok Try.prog 92 ty92 := ⟨by kernel_rfl, by kernel_rfl, rfl, rfl, rfl, ⟨by kernel_rfl, by kernel_rfl, by kernel_rfl⟩, (fun ks h => by cases h), fun m h => by cases h⟩
def ty97 : TI := ⟨1, false, [.pointer none], [.v (.pointer none)], 8, .ptr 4, none, []⟩
theorem ty97_ok : TIok Try.prog 97 ty97 := ⟨by kernel_rfl, by kernel_rfl, rfl, rfl, rfl, by show Try.prog.underlying 97 = some (TypeDesc.pointer 4); kernel_rfl, (fun ks h => by cases h), fun m h => by cases h⟩
def ty99 : TI := ⟨2, true, [.pointer none, .pointer none], [.v (.pointer none), .v (.pointer none)], 16, .struct [(0, 1, false), (1, 1, false)], none, []⟩
theorem ty99_ok : TIok Try.prog 99 ty99 := ⟨by kernel_rfl, by kernel_rfl, rfl, rfl, rfl, ⟨by kernel_rfl, by kernel_rfl⟩, (fun ks h => by cases h), fun m h => by cases h⟩
def ty100 : TI := ⟨4, true, [.pointer none, .pointer none, .pointer none, .pointer none], [.v (.pointer none), .v (.pointer none), .v (.pointer none), .v (.pointer none)], 32, .arr 2 99 2 true, none, []⟩
theorem ty100_ok : TIok Try.prog 100 ty100 := ⟨by kernel_rfl, by kernel_rfl, rfl, rfl, rfl, ⟨by kernel_rfl, by kernel_rfl, by kernel_rfl⟩, (fun ks h => by cases h), fun m h => by cases h⟩
def ty102 : TI := ⟨1, false, [.pointer none], [.v (.pointer none)], 8, .ptr 34, none, []⟩
theorem ty102_ok : TIok Try.prog 102 ty102 := ⟨by kernel_rfl, by kernel_rfl, rfl, rfl, rfl, by show Try.prog.underlying 102 = some (TypeDesc.pointer 34); kernel_rfl, (fun ks h => by cases h), fun m h => by cases h⟩
def ty103 : TI := ⟨1, false, [.pointer none], [.v (.pointer none)], 8, .ptr 141, none, []⟩
theorem ty103_ok : TIok Try.prog 103 ty103 := ⟨by kernel_rfl, by kernel_rfl, rfl, rfl, rfl, by show Try.prog.underlying 103 = some (TypeDesc.pointer 141); kernel_rfl, (fun ks h => by cases h), fun m h => by cases h⟩
def ty121 : TI := ⟨2, true, [.slice none 0 0, .int .i64 0], [.v (.slice none 0 0), .v (.int .i64 0)], 32, .struct [(0, 1, false), (1, 1, false)], none, []⟩
theorem ty121_ok : TIok Try.prog 121 ty121 := ⟨by kernel_rfl, by kernel_rfl, rfl, rfl, rfl, ⟨by kernel_rfl, by kernel_rfl⟩, (fun ks h => by cases h), fun m h => by cases h⟩
def ty139 : TI := ⟨1, false, [.pointer none], [.v (.pointer none)], 8, .ptr 144, none, []⟩
theorem ty139_ok : TIok Try.prog 139 ty139 := ⟨by kernel_rfl, by kernel_rfl, rfl, rfl, rfl, by show Try.prog.underlying 139 = some (TypeDesc.pointer 144); kernel_rfl, (fun ks h => by cases h), fun m h => by cases h⟩
def ty141 : TI := ⟨3, true, [.pointer none, .pointer none, .int .i64 0], [.v (.pointer none), .v (.pointer none), .v (.int .i64 0)], 24, .struct [(0, 1, false), (1, 1, false), (2, 1, false)], none, []⟩
theorem ty141_ok : TIok Try.prog 141 ty141 := ⟨by kernel_rfl, by kernel_rfl, rfl, rfl, rfl, ⟨by kernel_rfl, by kernel_rfl⟩, (fun ks h => by cases h), fun m h => by cases h⟩
def ty144 : TI := ⟨3, true, [.int .i64 0, .int .i64 0, .pointer none], [.v (.int .i64 0), .v (.int .i64 0), .v (.pointer none)], 24, .struct [(0, 2, true), (2, 1, false)], none, []⟩
theorem ty144_ok : TIok Try.prog 144 ty144 := ⟨by kernel_rfl, by kernel_rfl, rfl, rfl, rfl, ⟨by kernel_rfl, by kernel_rfl⟩, (fun ks h => by cases h), fun m h => by cases h⟩
def ty147 : TI := ⟨2, true, [.int .i64 0, .slice none 0 0], [.v (.int .i64 0), .v (.slice none 0 0)], 32, .struct [(0, 1, false), (1, 1, false)], none, []⟩
theorem ty147_ok : TIok Try.prog 147 ty147 := ⟨by kernel_rfl, by kernel_rfl, rfl, rfl, rfl, ⟨by kernel_rfl, by kernel_rfl⟩, (fun ks h => by cases h), fun m h => by cases h⟩
def ty157 : TI := ⟨2, true, [.int .i64 0, .int .i64 0], [.v (.int .i64 0), .v (.int .i64 0)], 16, .struct [(0, 1, false), (1, 1, false)], some [some .i64, some .i64], []⟩
theorem ty157_ok : TIok Try.prog 157 ty157 := ⟨by kernel_rfl, by kernel_rfl, rfl, rfl, rfl, ⟨by kernel_rfl, by kernel_rfl⟩, (fun ks h => by cases h; exact ⟨by kernel_rfl, by kernel_rfl, by kernel_rfl, by kernel_rfl⟩), fun m h => by cases h⟩
def ty169 : TI := ⟨1, false, [.pointer none], [.v (.pointer none)], 8, .ptr 5, none, []⟩
theorem ty169_ok : TIok Try.prog 169 ty169 := ⟨by kernel_rfl, by kernel_rfl, rfl, rfl, rfl, by show Try.prog.underlying 169 = some (TypeDesc.pointer 5); kernel_rfl, (fun ks h => by cases h), fun m h => by cases h⟩
def tab : Tab := [(2, ty2), (3, ty3), (4, ty4), (5, ty5), (9, ty9), (12, ty12), (15, ty15), (16, ty16), (17, ty17), (22, ty22), (26, ty26), (27, ty27), (29, ty29), (30, ty30), (32, ty32), (34, ty34), (36, ty36), (53, ty53), (61, ty61), (62, ty62), (64, ty64), (65, ty65), (66, ty66), (68, ty68), (73, ty73), (78, ty78), (87, ty87), (88, ty88), (89, ty89), (91, ty91), (92, ty92), (97, ty97), (99, ty99), (100, ty100), (102, ty102), (103, ty103), (121, ty121), (139, ty139), (141, ty141), (144, ty144), (147, ty147), (157, ty157), (169, ty169)]
theorem tab_ok : TabOk Try.prog tab := tabAll_ok ⟨ty2_ok, ty3_ok, ty4_ok, ty5_ok, ty9_ok, ty12_ok, ty15_ok, ty16_ok, ty17_ok, ty22_ok, ty26_ok, ty27_ok, ty29_ok, ty30_ok, ty32_ok, ty34_ok, ty36_ok, ty53_ok, ty61_ok, ty62_ok, ty64_ok, ty65_ok, ty66_ok, ty68_ok, ty73_ok, ty78_ok, ty87_ok, ty88_ok, ty89_ok, ty91_ok, ty92_ok, ty97_ok, ty99_ok, ty100_ok, ty102_ok, ty103_ok, ty121_ok, ty139_ok, ty141_ok, ty144_ok, ty147_ok, ty157_ok, ty169_ok, trivial⟩
theorem mixed_ok : Try.prog.follows .mixedOrders = true := by kernel_rfl
end Go.Proofs.Ytacjfkodndkaeaa
