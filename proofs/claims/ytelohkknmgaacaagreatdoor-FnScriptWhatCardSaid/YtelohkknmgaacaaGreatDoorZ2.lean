/-
  The program of the lone walks (part 2). No condition.
-/
import Derived.Test.YtelohkknmgaacaaGreatDoorZ1
import Derived.Test.YtelohkknmgaacaaGreatDoorProg
set_option linter.unusedSimpArgs false
set_option linter.unusedVariables false
set_option linter.unusedSectionVars false
set_option linter.defProp false
open Go renaming Value→Y,World→V,callFunc→dp
open Bool renaming true→E,false→H
open Option renaming some→C,none→U
namespace Go.Proofs.YtelohkknmgaacaaGreatDoor
open Go
namespace Rn
def zin:Nat:=3557133032554134934296611518778472359055669218036146979860030846882613924443717624
@[irreducible]noncomputable def c5:Program:=O1 Tryz.prog zin
def gv:c5=O1 Tryz.prog zin:=by unfold c5;rfl
def fM{k:Nat}{fn:Func}(h:Tryz.prog.funcs[k]?=C fn)(b:Nat.testBit zin k=E:=by kernel_rfl):c5.funcs[k]?=C fn:=by rw[gv];exact zcO h b
section
variable(t:TypeId)(w:V)
@[simp,go_sem]def zsl:(typeInfo t).run c5 w=(typeInfo t).run Tryz.prog w:=by rw[gv];exact qp t
@[simp,go_sem]def zoc:(underlying t).run c5 w=(underlying t).run Tryz.prog w:=by rw[gv];exact uI t
@[simp,go_sem]def zvE:(sizeOf t).run c5 w=(sizeOf t).run Tryz.prog w:=by rw[gv];exact Su t
@[simp,go_sem]def zww:(isAgg t).run c5 w=(isAgg t).run Tryz.prog w:=by rw[gv];exact Ur t
@[simp,go_sem]def zpn:(zeroValue t).run c5 w=(zeroValue t).run Tryz.prog w:=by rw[gv];exact ID t
@[simp,go_sem]def Ch:c5.underlying t=Tryz.prog.underlying t:=by rw[gv];exact CJ t
@[simp,go_sem]def zzc:c5.info? t=Tryz.prog.info? t:=by rw[gv];exact qW t
@[simp,go_sem]def zwu:c5.depth=Tryz.prog.depth:=by rw[gv];exact zfU
@[simp,go_sem]def zzb:c5.stoodInHeld t=Tryz.prog.stoodInHeld t:=by rw[gv];exact Z0 t
@[simp,go_sem]def zwv(d:Nat):c5.eqGuardType d t=Tryz.prog.eqGuardType d t:=by rw[gv];exact Vx d t
@[simp,go_sem]def zDj:c5.rt=Tryz.prog.rt:=by rw[gv];exact zrX
@[simp,go_sem]def zwx:c5.types=Tryz.prog.types:=by rw[gv];exact zgR
end
def pg:PG c5 Tryz.prog:=by rw[gv];exact zkD (by kernel_rfl) (by kernel_rfl)
def gp:GP c5:=by rw[gv];exact zkC (by kernel_rfl)
end Rn
open Rn
end Go.Proofs.YtelohkknmgaacaaGreatDoor
namespace Go.Proofs
open YtelohkknmgaacaaGreatDoor.Rn
noncomputable abbrev aa.prog:Program:=c5
@[simp]def aa.func96:c5.funcs[96]?=C Tryz.f96:=fM Tryz.func96
@[simp]def aa.zza(args:Array Y)(w:V):(dp 96 args).run c5 w=.ok (.enter 96 args) w:=eM aa.func96 (by kernel_rfl) (by kernel_rfl) args w
@[simp]def aa.func116:c5.funcs[116]?=C Tryz.f116:=fM Tryz.func116
@[simp]def aa.zwk(args:Array Y)(w:V):(dp 116 args).run c5 w=.ok (.enter 116 args) w:=eM aa.func116 (by kernel_rfl) (by kernel_rfl) args w
@[simp]def aa.func173:c5.funcs[173]?=C Tryz.f173:=fM Tryz.func173
@[simp]def aa.zwm(args:Array Y)(w:V):(dp 173 args).run c5 w=.ok (.enter 173 args) w:=eM aa.func173 (by kernel_rfl) (by kernel_rfl) args w
@[simp]def aa.func117:c5.funcs[117]?=C Tryz.f117:=fM Tryz.func117
@[simp]def aa.zwl(args:Array Y)(w:V):(dp 117 args).run c5 w=.ok (.enter 117 args) w:=eM aa.func117 (by kernel_rfl) (by kernel_rfl) args w
@[simp]def aa.func214:c5.funcs[214]?=C Tryz.f214:=fM Tryz.func214
@[simp]def aa.zwp(args:Array Y)(w:V):(dp 214 args).run c5 w=.ok (.enter 214 args) w:=eM aa.func214 (by kernel_rfl) (by kernel_rfl) args w
@[simp]def aa.func80:c5.funcs[80]?=C Tryz.f80:=fM Tryz.func80
@[simp]def aa.zy9(args:Array Y)(w:V):(dp 80 args).run c5 w=.ok (.enter 80 args) w:=eM aa.func80 (by kernel_rfl) (by kernel_rfl) args w
@[simp]def aa.func105:c5.funcs[105]?=C Tryz.f105:=fM Tryz.func105
@[simp]def aa.zwj(args:Array Y)(w:V):(dp 105 args).run c5 w=.ok (.enter 105 args) w:=eM aa.func105 (by kernel_rfl) (by kernel_rfl) args w
@[simp]def aa.func190:c5.funcs[190]?=C Tryz.f190:=fM Tryz.func190
@[simp]def aa.zwo(args:Array Y)(w:V):(dp 190 args).run c5 w=.ok (.enter 190 args) w:=eM aa.func190 (by kernel_rfl) (by kernel_rfl) args w
@[simp]def aa.func174:c5.funcs[174]?=C Tryz.f174:=fM Tryz.func174
@[simp]def aa.zwn(args:Array Y)(w:V):(dp 174 args).run c5 w=.ok (.enter 174 args) w:=eM aa.func174 (by kernel_rfl) (by kernel_rfl) args w
@[simp]def aa.func215:c5.funcs[215]?=C Tryz.f215:=fM Tryz.func215
@[simp]def aa.zwq(args:Array Y)(w:V):(dp 215 args).run c5 w=.ok (.enter 215 args) w:=eM aa.func215 (by kernel_rfl) (by kernel_rfl) args w
@[simp]def aa.func216:c5.funcs[216]?=C Tryz.f216:=fM Tryz.func216
@[simp]def aa.zwr(args:Array Y)(w:V):(dp 216 args).run c5 w=.ok (.enter 216 args) w:=eM aa.func216 (by kernel_rfl) (by kernel_rfl) args w
@[simp]def aa.func235:c5.funcs[235]?=C Tryz.f235:=fM Tryz.func235
@[simp]def aa.zws(args:Array Y)(w:V):(dp 235 args).run c5 w=.ok (.enter 235 args) w:=eM aa.func235 (by kernel_rfl) (by kernel_rfl) args w
@[simp]def aa.func244:c5.funcs[244]?=C Tryz.f244:=fM Tryz.func244
@[simp]def aa.zwt(args:Array Y)(w:V):(dp 244 args).run c5 w=.ok (.enter 244 args) w:=eM aa.func244 (by kernel_rfl) (by kernel_rfl) args w
@[simp]def aa.func17:c5.funcs[17]?=C Tryz.f17:=fM Tryz.func17
@[simp]def aa.func118:c5.funcs[118]?=C Tryz.f118:=fM Tryz.func118
@[simp]def aa.func239:c5.funcs[239]?=C Tryz.f239:=fM Tryz.func239
@[simp]def aa.func189:c5.funcs[189]?=C Tryz.f189:=fM Tryz.func189
@[simp]def aa.func146:c5.funcs[146]?=C Tryz.f146:=fM Tryz.func146
@[simp]def aa.func236:c5.funcs[236]?=C Tryz.f236:=fM Tryz.func236
@[simp]def aa.func144:c5.funcs[144]?=C Tryz.f144:=fM Tryz.func144
@[simp]def aa.func97:c5.funcs[97]?=C Tryz.f97:=fM Tryz.func97
@[simp]def aa.func132:c5.funcs[132]?=C Tryz.f132:=fM Tryz.func132
@[simp]def aa.func133:c5.funcs[133]?=C Tryz.f133:=fM Tryz.func133
@[simp]def aa.func91:c5.funcs[91]?=C Tryz.f91:=fM Tryz.func91
@[simp]def aa.func136:c5.funcs[136]?=C Tryz.f136:=fM Tryz.func136
@[simp]def aa.func94:c5.funcs[94]?=C Tryz.f94:=fM Tryz.func94
@[simp]def aa.func89:c5.funcs[89]?=C Tryz.f89:=fM Tryz.func89
@[simp]def aa.func16:c5.funcs[16]?=C Tryz.f16:=fM Tryz.func16
def aa.underlying22:type_of%((Ch 22).trans Tryz.underlying22):=(Ch 22).trans Tryz.underlying22
def aa.underlying34:type_of%((Ch 34).trans Tryz.underlying34):=(Ch 34).trans Tryz.underlying34
def aa.underlying37:type_of%((Ch 37).trans Tryz.underlying37):=(Ch 37).trans Tryz.underlying37
end Go.Proofs
