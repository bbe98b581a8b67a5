/- Facts on the types of the translation: what each comes to, one by one, by the kernel. -/
import Derived.Test.YteefjdbdknkcjaaGreatVc
import Derived.Test.YteefjdbdknkcjaaGreatProg
import Derived.KernelRfl
namespace Go.Proofs.YteefjdbdknkcjaaGreat
open Go.Vc
theorem td3 : td Tryz.prog 3 = .one := by kernel_rfl
theorem zv3 : zv Tryz.prog 3 = some (.int .i64 0) := by kernel_rfl
theorem ik3 : ik Tryz.prog 3 = some .i64 := by kernel_rfl
theorem ui3 : ((Tryz.prog.underlying 3).isSome = true) = True := eq_true (by kernel_rfl)
theorem td4 : td Tryz.prog 4 = .one := by kernel_rfl
theorem ub4 : (Tryz.prog.underlying 4 = some TypeDesc.bool) = True := eq_true Tryz.underlying4
theorem td5 : td Tryz.prog 5 = .one := by kernel_rfl
theorem ui5 : ((Tryz.prog.underlying 5).isSome = true) = True := eq_true (by kernel_rfl)
theorem td22 : td Tryz.prog 22 = .one := by kernel_rfl
theorem ed22 : ed Tryz.prog 22 = some (none, 1) := by kernel_rfl
theorem is22 : isSl Tryz.prog 22 = True := eq_true ⟨_, Tryz.underlying22⟩
theorem td24 : td Tryz.prog 24 = .one := by kernel_rfl
theorem ed24 : ed Tryz.prog 24 = some (none, 1) := by kernel_rfl
theorem sd24 : sd Tryz.prog 24 = some (.int .i64 0) := by kernel_rfl
theorem ap24 : ap Tryz.prog 24 = some (1, 8) := by kernel_rfl
theorem is24 : isSl Tryz.prog 24 = True := eq_true ⟨_, Tryz.underlying24⟩
theorem td25 : td Tryz.prog 25 = .one := by kernel_rfl
theorem ed25 : ed Tryz.prog 25 = some (none, 1) := by kernel_rfl
theorem sd25 : sd Tryz.prog 25 = some (.slice none 0 0) := by kernel_rfl
theorem ap25 : ap Tryz.prog 25 = some (1, 24) := by kernel_rfl
theorem is25 : isSl Tryz.prog 25 = True := eq_true ⟨_, Tryz.underlying25⟩
theorem td27 : td Tryz.prog 27 = .agg 2 := by kernel_rfl
theorem zv27 : zv Tryz.prog 27 = some (.agg ⟨[.slice none 0 0, .slice none 0 0]⟩) := by kernel_rfl
theorem bf27 : flatZ Tryz.prog 27 = some [.slice none 0 0, .slice none 0 0] := by kernel_rfl
theorem fd27_0 : fd Tryz.prog 27 0 = some (0, .one) := by kernel_rfl
theorem fd27_1 : fd Tryz.prog 27 1 = some (1, .one) := by kernel_rfl
theorem ed31 : ed Tryz.prog 31 = some (none, 2) := by kernel_rfl
theorem sd31 : sd Tryz.prog 31 = some (.agg ⟨[.int .i64 0, .int .i64 0]⟩) := by kernel_rfl
theorem ap31 : ap Tryz.prog 31 = some (2, 16) := by kernel_rfl
theorem is31 : isSl Tryz.prog 31 = True := eq_true ⟨_, Tryz.underlying31⟩
theorem td37 : td Tryz.prog 37 = .agg 2 := by kernel_rfl
theorem ed37 : ed Tryz.prog 37 = some (some 2, 1) := by kernel_rfl
theorem bf37 : flatZ Tryz.prog 37 = some [.int .i64 0, .int .i64 0] := by kernel_rfl
theorem pt37 : pairT Tryz.prog 37 = True := eq_true ⟨3, by kernel_rfl, by kernel_rfl, by kernel_rfl, by kernel_rfl, by kernel_rfl, by kernel_rfl⟩
theorem td55 : td Tryz.prog 55 = .one := by kernel_rfl
theorem ik55 : ik Tryz.prog 55 = some .u64 := by kernel_rfl
theorem ui55 : ((Tryz.prog.underlying 55).isSome = true) = True := eq_true (by kernel_rfl)
theorem bf57 : flatZ Tryz.prog 57 = some [.slice none 0 0, .int .i64 0, .int .u64 0] := by kernel_rfl
theorem fd57_0 : fd Tryz.prog 57 0 = some (0, .one) := by kernel_rfl
theorem fd57_1 : fd Tryz.prog 57 1 = some (1, .one) := by kernel_rfl
theorem fd57_2 : fd Tryz.prog 57 2 = some (2, .one) := by kernel_rfl
theorem td60 : td Tryz.prog 60 = .agg 3 := by kernel_rfl
theorem zv60 : zv Tryz.prog 60 = some (.agg ⟨[.slice none 0 0, .slice none 0 0, .slice none 0 0]⟩) := by kernel_rfl
theorem bf60 : flatZ Tryz.prog 60 = some [.slice none 0 0, .slice none 0 0, .slice none 0 0] := by kernel_rfl
theorem fd60_0 : fd Tryz.prog 60 0 = some (0, .one) := by kernel_rfl
theorem fd60_1 : fd Tryz.prog 60 1 = some (1, .one) := by kernel_rfl
theorem fd60_2 : fd Tryz.prog 60 2 = some (2, .one) := by kernel_rfl
theorem td62 : td Tryz.prog 62 = .one := by kernel_rfl
theorem ed62 : ed Tryz.prog 62 = some (none, 1) := by kernel_rfl
theorem sd62 : sd Tryz.prog 62 = some (.bool false) := by kernel_rfl
theorem ap62 : ap Tryz.prog 62 = some (1, 1) := by kernel_rfl
theorem is62 : isSl Tryz.prog 62 = True := eq_true ⟨_, Tryz.underlying62⟩
theorem td64 : td Tryz.prog 64 = .agg 5 := by kernel_rfl
theorem zv64 : zv Tryz.prog 64 = some (.agg ⟨[.int .i64 0, .slice none 0 0, .slice none 0 0, .slice none 0 0, .slice none 0 0]⟩) := by kernel_rfl
theorem bf64 : flatZ Tryz.prog 64 = some [.int .i64 0, .slice none 0 0, .slice none 0 0, .slice none 0 0, .slice none 0 0] := by kernel_rfl
theorem fd64_0 : fd Tryz.prog 64 0 = some (0, .one) := by kernel_rfl
theorem fd64_1 : fd Tryz.prog 64 1 = some (1, .one) := by kernel_rfl
theorem fd64_2 : fd Tryz.prog 64 2 = some (2, .one) := by kernel_rfl
theorem fd64_3 : fd Tryz.prog 64 3 = some (3, .one) := by kernel_rfl
theorem fd64_4 : fd Tryz.prog 64 4 = some (4, .one) := by kernel_rfl
theorem ik91 : ik Tryz.prog 91 = some .u64 := by kernel_rfl
attribute [go_sem] td3 zv3 ik3 ui3 td4 ub4 td5 ui5 td22 ed22 is22 td24 ed24 sd24 ap24 is24 td25 ed25 sd25 ap25 is25 td27 zv27 bf27 fd27_0 fd27_1 ed31 sd31 ap31 is31 td37 ed37 bf37 pt37 td55 ik55 ui55 bf57 fd57_0 fd57_1 fd57_2 td60 zv60 bf60 fd60_0 fd60_1 fd60_2 td62 ed62 sd62 ap62 is62 td64 zv64 bf64 fd64_0 fd64_1 fd64_2 fd64_3 fd64_4 ik91
theorem mixed : Tryz.prog.follows .mixedOrders = true := by kernel_rfl
end Go.Proofs.YteefjdbdknkcjaaGreat
