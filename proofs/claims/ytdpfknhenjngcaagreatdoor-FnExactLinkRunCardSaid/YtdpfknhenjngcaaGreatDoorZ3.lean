/-
  The program of the lone walks (part 3). No condition.
-/
import Derived.Test.YtdpfknhenjngcaaGreatDoorZ1
import Derived.Test.YtdpfknhenjngcaaGreatDoorProg
set_option linter.unusedSimpArgs false
set_option linter.unusedVariables false
set_option linter.unusedSectionVars false
open Go renaming Value→aj,World→ai,callFunc→fJ
open Go.Proofs.Tryz renaming prog→an
open Bool renaming true→ae,false→aa
open Option renaming some→ab,none→ak
namespace Go.Proofs.YtdpfknhenjngcaaGreatDoor
open Go
namespace Rn
def zhk:Nat:=889283973174011318797056178003743773869997371289395458984704517118414129865949176
@[irreducible] noncomputable def dM:Program:=Pn an zhk
theorem pY:dM=Pn an zhk:=by unfold dM;rfl
theorem fM{k:Nat}{fn:Func}(h:an.funcs[k]?=ab fn)(hb:Nat.testBit zhk k=ae:=by kernel_rfl):dM.funcs[k]?=ab fn:=by rw[pY];exact zbP h hb
section
variable(t:TypeId)(w:ai)
@[simp,go_sem] theorem zHn:(typeInfo t).run dM w=(typeInfo t).run an w:=by rw[pY];exact yf t
@[simp,go_sem] theorem zoe:(underlying t).run dM w=(underlying t).run an w:=by rw[pY];exact uX t
@[simp,go_sem] theorem zwa:(sizeOf t).run dM w=(sizeOf t).run an w:=by rw[pY];exact Sg t
@[simp,go_sem] theorem zw5:(isAgg t).run dM w=(isAgg t).run an w:=by rw[pY];exact Uc t
@[simp,go_sem] theorem zpV:(zeroValue t).run dM w=(zeroValue t).run an w:=by rw[pY];exact Jl t
@[simp,go_sem] theorem Cz:dM.underlying t=an.underlying t:=by rw[pY];exact CY t
@[simp,go_sem] theorem zHs:dM.info? t=an.info? t:=by rw[pY];exact tS t
@[simp,go_sem] theorem zHo:dM.depth=an.depth:=by rw[pY];exact ib
@[simp,go_sem] theorem zHr:dM.stoodInHeld t=an.stoodInHeld t:=by rw[pY];exact ziC t
@[simp,go_sem] theorem zHp(d:Nat):dM.eqGuardType d t=an.eqGuardType d t:=by rw[pY];exact eo d t
@[simp,go_sem] theorem zD5:dM.rt=an.rt:=by rw[pY];exact zr4
@[simp,go_sem] theorem zHq:dM.types=an.types:=by rw[pY];exact r7
end
theorem pg:PG dM an:=by rw[pY];exact zi5 (by kernel_rfl) (by kernel_rfl)
theorem gp:GP dM:=by rw[pY];exact zi4 (by kernel_rfl)
end Rn
open Rn
end Go.Proofs.YtdpfknhenjngcaaGreatDoor
namespace Go.Proofs
open YtdpfknhenjngcaaGreatDoor.Rn
noncomputable abbrev al.prog:Program:=dM
@[simp] theorem al.func146:dM.funcs[146]?=ab Tryz.f146:=fM Tryz.func146
@[simp] theorem al.call146(args:Array aj)(w:ai):(fJ 146 args).run dM w=.ok (.enter 146 args) w:=ly al.func146 (by kernel_rfl) (by kernel_rfl) args w
@[simp] theorem al.func148:dM.funcs[148]?=ab Tryz.f148:=fM Tryz.func148
@[simp] theorem al.call148(args:Array aj)(w:ai):(fJ 148 args).run dM w=.ok (.enter 148 args) w:=ly al.func148 (by kernel_rfl) (by kernel_rfl) args w
@[simp] theorem al.func149:dM.funcs[149]?=ab Tryz.f149:=fM Tryz.func149
@[simp] theorem al.call149(args:Array aj)(w:ai):(fJ 149 args).run dM w=.ok (.enter 149 args) w:=ly al.func149 (by kernel_rfl) (by kernel_rfl) args w
@[simp] theorem al.func211:dM.funcs[211]?=ab Tryz.f211:=fM Tryz.func211
@[simp] theorem al.call211(args:Array aj)(w:ai):(fJ 211 args).run dM w=.ok (.enter 211 args) w:=ly al.func211 (by kernel_rfl) (by kernel_rfl) args w
@[simp] theorem al.func212:dM.funcs[212]?=ab Tryz.f212:=fM Tryz.func212
@[simp] theorem al.call212(args:Array aj)(w:ai):(fJ 212 args).run dM w=.ok (.enter 212 args) w:=ly al.func212 (by kernel_rfl) (by kernel_rfl) args w
@[simp] theorem al.func58:dM.funcs[58]?=ab Tryz.f58:=fM Tryz.func58
@[simp] theorem al.call58(args:Array aj)(w:ai):(fJ 58 args).run dM w=.ok (.enter 58 args) w:=ly al.func58 (by kernel_rfl) (by kernel_rfl) args w
@[simp] theorem al.func93:dM.funcs[93]?=ab Tryz.f93:=fM Tryz.func93
@[simp] theorem al.call93(args:Array aj)(w:ai):(fJ 93 args).run dM w=.ok (.enter 93 args) w:=ly al.func93 (by kernel_rfl) (by kernel_rfl) args w
@[simp] theorem al.func150:dM.funcs[150]?=ab Tryz.f150:=fM Tryz.func150
@[simp] theorem al.call150(args:Array aj)(w:ai):(fJ 150 args).run dM w=.ok (.enter 150 args) w:=ly al.func150 (by kernel_rfl) (by kernel_rfl) args w
@[simp] theorem al.func151:dM.funcs[151]?=ab Tryz.f151:=fM Tryz.func151
@[simp] theorem al.call151(args:Array aj)(w:ai):(fJ 151 args).run dM w=.ok (.enter 151 args) w:=ly al.func151 (by kernel_rfl) (by kernel_rfl) args w
@[simp] theorem al.func213:dM.funcs[213]?=ab Tryz.f213:=fM Tryz.func213
@[simp] theorem al.call213(args:Array aj)(w:ai):(fJ 213 args).run dM w=.ok (.enter 213 args) w:=ly al.func213 (by kernel_rfl) (by kernel_rfl) args w
@[simp] theorem al.func214:dM.funcs[214]?=ab Tryz.f214:=fM Tryz.func214
@[simp] theorem al.call214(args:Array aj)(w:ai):(fJ 214 args).run dM w=.ok (.enter 214 args) w:=ly al.func214 (by kernel_rfl) (by kernel_rfl) args w
@[simp] theorem al.func243:dM.funcs[243]?=ab Tryz.f243:=fM Tryz.func243
@[simp] theorem al.call243(args:Array aj)(w:ai):(fJ 243 args).run dM w=.ok (.enter 243 args) w:=ly al.func243 (by kernel_rfl) (by kernel_rfl) args w
@[simp] theorem al.func244:dM.funcs[244]?=ab Tryz.f244:=fM Tryz.func244
@[simp] theorem al.call244(args:Array aj)(w:ai):(fJ 244 args).run dM w=.ok (.enter 244 args) w:=ly al.func244 (by kernel_rfl) (by kernel_rfl) args w
@[simp] theorem al.func55:dM.funcs[55]?=ab Tryz.f55:=fM Tryz.func55
@[simp] theorem al.func145:dM.funcs[145]?=ab Tryz.f145:=fM Tryz.func145
@[simp] theorem al.func218:dM.funcs[218]?=ab Tryz.f218:=fM Tryz.func218
@[simp] theorem al.func144:dM.funcs[144]?=ab Tryz.f144:=fM Tryz.func144
@[simp] theorem al.func79:dM.funcs[79]?=ab Tryz.f79:=fM Tryz.func79
@[simp] theorem al.func215:dM.funcs[215]?=ab Tryz.f215:=fM Tryz.func215
@[simp] theorem al.func77:dM.funcs[77]?=ab Tryz.f77:=fM Tryz.func77
@[simp] theorem al.func142:dM.funcs[142]?=ab Tryz.f142:=fM Tryz.func142
@[simp] theorem al.func147:dM.funcs[147]?=ab Tryz.f147:=fM Tryz.func147
@[simp] theorem al.func143:dM.funcs[143]?=ab Tryz.f143:=fM Tryz.func143
@[simp] theorem al.func99:dM.funcs[99]?=ab Tryz.f99:=fM Tryz.func99
@[simp] theorem al.func103:dM.funcs[103]?=ab Tryz.f103:=fM Tryz.func103
@[simp] theorem al.func101:dM.funcs[101]?=ab Tryz.f101:=fM Tryz.func101
@[simp] theorem al.func25:dM.funcs[25]?=ab Tryz.f25:=fM Tryz.func25
@[simp] theorem al.func95:dM.funcs[95]?=ab Tryz.f95:=fM Tryz.func95
@[simp] theorem al.func97:dM.funcs[97]?=ab Tryz.f97:=fM Tryz.func97
@[simp] theorem al.func195:dM.funcs[195]?=ab Tryz.f195:=fM Tryz.func195
@[simp] theorem al.func130:dM.funcs[130]?=ab Tryz.f130:=fM Tryz.func130
@[simp] theorem al.func129:dM.funcs[129]?=ab Tryz.f129:=fM Tryz.func129
@[simp] theorem al.func56:dM.funcs[56]?=ab Tryz.f56:=fM Tryz.func56
@[simp] theorem al.func37:dM.funcs[37]?=ab Tryz.f37:=fM Tryz.func37
theorem al.underlying22:type_of% ((Cz 22).trans Tryz.underlying22):=(Cz 22).trans Tryz.underlying22
theorem al.underlying25:type_of% ((Cz 25).trans Tryz.underlying25):=(Cz 25).trans Tryz.underlying25
theorem al.underlying28:type_of% ((Cz 28).trans Tryz.underlying28):=(Cz 28).trans Tryz.underlying28
theorem al.underlying61:type_of% ((Cz 61).trans Tryz.underlying61):=(Cz 61).trans Tryz.underlying61
end Go.Proofs
