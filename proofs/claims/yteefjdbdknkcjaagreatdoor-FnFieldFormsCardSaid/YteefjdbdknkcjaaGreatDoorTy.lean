/- Facts on the types of the translation: what each comes to, one by one, by the kernel. -/
import Derived.Test.YteefjdbdknkcjaaGreatDoorVc
import Derived.Test.YteefjdbdknkcjaaGreatDoorProg
import Derived.KernelRfl
namespace Go.Proofs.YteefjdbdknkcjaaGreatDoor
open Go.Vc
theorem td3 : td Tryz.prog 3 = .one := by kernel_rfl
theorem ik3 : ik Tryz.prog 3 = some .i64 := by kernel_rfl
theorem ui3 : ((Tryz.prog.underlying 3).isSome = true) = True := eq_true (by kernel_rfl)
theorem ub4 : (Tryz.prog.underlying 4 = some TypeDesc.bool) = True := eq_true Tryz.underlying4
theorem td5 : td Tryz.prog 5 = .one := by kernel_rfl
theorem ui5 : ((Tryz.prog.underlying 5).isSome = true) = True := eq_true (by kernel_rfl)
theorem td9 : td Tryz.prog 9 = .one := by kernel_rfl
theorem ut9 : (Tryz.prog.underlying 9 = some TypeDesc.string) = True := eq_true Tryz.underlying9
theorem td22 : td Tryz.prog 22 = .one := by kernel_rfl
theorem ed22 : ed Tryz.prog 22 = some (none, 1) := by kernel_rfl
theorem is22 : isSl Tryz.prog 22 = True := eq_true ⟨_, Tryz.underlying22⟩
theorem td24 : td Tryz.prog 24 = .one := by kernel_rfl
theorem ed24 : ed Tryz.prog 24 = some (none, 1) := by kernel_rfl
theorem sd24 : sd Tryz.prog 24 = some (.int .i64 0) := by kernel_rfl
theorem ap24 : ap Tryz.prog 24 = some (1, 8) := by kernel_rfl
theorem is24 : isSl Tryz.prog 24 = True := eq_true ⟨_, Tryz.underlying24⟩
theorem td25 : td Tryz.prog 25 = .one := by kernel_rfl
theorem ed25 : ed Tryz.prog 25 = some (none, 1) := by kernel_rfl
theorem sd25 : sd Tryz.prog 25 = some (.slice none 0 0) := by kernel_rfl
theorem ap25 : ap Tryz.prog 25 = some (1, 24) := by kernel_rfl
theorem is25 : isSl Tryz.prog 25 = True := eq_true ⟨_, Tryz.underlying25⟩
theorem td27 : td Tryz.prog 27 = .agg 2 := by kernel_rfl
theorem zv27 : zv Tryz.prog 27 = some (.agg ⟨[.slice none 0 0, .slice none 0 0]⟩) := by kernel_rfl
theorem bf27 : flatZ Tryz.prog 27 = some [.slice none 0 0, .slice none 0 0] := by kernel_rfl
theorem fd27_0 : fd Tryz.prog 27 0 = some (0, .one) := by kernel_rfl
theorem fd27_1 : fd Tryz.prog 27 1 = some (1, .one) := by kernel_rfl
theorem td54 : td Tryz.prog 54 = .one := by kernel_rfl
theorem ik54 : ik Tryz.prog 54 = some .u64 := by kernel_rfl
theorem ui54 : ((Tryz.prog.underlying 54).isSome = true) = True := eq_true (by kernel_rfl)
theorem bf56 : flatZ Tryz.prog 56 = some [.slice none 0 0, .int .i64 0, .int .u64 0] := by kernel_rfl
theorem fd56_0 : fd Tryz.prog 56 0 = some (0, .one) := by kernel_rfl
theorem fd56_1 : fd Tryz.prog 56 1 = some (1, .one) := by kernel_rfl
theorem fd56_2 : fd Tryz.prog 56 2 = some (2, .one) := by kernel_rfl
theorem ed67 : ed Tryz.prog 67 = some (none, 1) := by kernel_rfl
theorem sd67 : sd Tryz.prog 67 = some (.string ByteArray.empty) := by kernel_rfl
theorem ap67 : ap Tryz.prog 67 = some (1, 16) := by kernel_rfl
theorem is67 : isSl Tryz.prog 67 = True := eq_true ⟨_, Tryz.underlying67⟩
attribute [go_sem] td3 ik3 ui3 ub4 td5 ui5 td9 ut9 td22 ed22 is22 td24 ed24 sd24 ap24 is24 td25 ed25 sd25 ap25 is25 td27 zv27 bf27 fd27_0 fd27_1 td54 ik54 ui54 bf56 fd56_0 fd56_1 fd56_2 ed67 sd67 ap67 is67
theorem mixed : Tryz.prog.follows .mixedOrders = true := by kernel_rfl
end Go.Proofs.YteefjdbdknkcjaaGreatDoor
