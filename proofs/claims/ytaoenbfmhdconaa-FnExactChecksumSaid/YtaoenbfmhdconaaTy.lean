/- Facts on the types of the translation: what each comes to, one by one, by the kernel. -/
import Derived.Test.YtaoenbfmhdconaaVc
import Derived.Test.YtaoenbfmhdconaaProg
import Derived.KernelRfl
namespace Go.Proofs.Ytaoenbfmhdconaa
open Go.Vc
theorem td2 : td Try.prog 2 = .one := by kernel_rfl
theorem ik2 : ik Try.prog 2 = some .i64 := by kernel_rfl
theorem ui2 : ((Try.prog.underlying 2).isSome = true) = True := eq_true (by kernel_rfl)
theorem td3 : td Try.prog 3 = .one := by kernel_rfl
theorem ik3 : ik Try.prog 3 = some .i64 := by kernel_rfl
theorem ui3 : ((Try.prog.underlying 3).isSome = true) = True := eq_true (by kernel_rfl)
theorem td4 : td Try.prog 4 = .one := by kernel_rfl
theorem ub4 : (Try.prog.underlying 4 = some TypeDesc.bool) = True := eq_true Try.underlying4
theorem td5 : td Try.prog 5 = .one := by kernel_rfl
theorem ik5 : ik Try.prog 5 = some .u8 := by kernel_rfl
theorem ui5 : ((Try.prog.underlying 5).isSome = true) = True := eq_true (by kernel_rfl)
theorem td6 : td Try.prog 6 = .one := by kernel_rfl
theorem ik6 : ik Try.prog 6 = some .u8 := by kernel_rfl
theorem ui6 : ((Try.prog.underlying 6).isSome = true) = True := eq_true (by kernel_rfl)
theorem td9 : td Try.prog 9 = .one := by kernel_rfl
theorem ut9 : (Try.prog.underlying 9 = some TypeDesc.string) = True := eq_true Try.underlying9
theorem td10 : td Try.prog 10 = .one := by kernel_rfl
theorem ut10 : (Try.prog.underlying 10 = some TypeDesc.string) = True := eq_true Try.underlying10
theorem td11 : td Try.prog 11 = .one := by kernel_rfl
theorem ut11 : (Try.prog.underlying 11 = some TypeDesc.string) = True := eq_true Try.underlying11
theorem td12 : td Try.prog 12 = .one := by kernel_rfl
theorem ik12 : ik Try.prog 12 = some .u64 := by kernel_rfl
theorem ui12 : ((Try.prog.underlying 12).isSome = true) = True := eq_true (by kernel_rfl)
theorem td21 : td Try.prog 21 = .one := by kernel_rfl
theorem ik21 : ik Try.prog 21 = some .i32 := by kernel_rfl
theorem ui21 : ((Try.prog.underlying 21).isSome = true) = True := eq_true (by kernel_rfl)
theorem td27 : td Try.prog 27 = .one := by kernel_rfl
theorem ed27 : ed Try.prog 27 = some (none, 1) := by kernel_rfl
theorem sd27 : sd Try.prog 27 = some (.int .i64 0) := by kernel_rfl
theorem ap27 : ap Try.prog 27 = some (1, 8) := by kernel_rfl
theorem aq27 : ((ap Try.prog 27).isSome = true) = True := eq_true (by rw [ap27]; rfl)
theorem is27 : isSl Try.prog 27 = True := eq_true ⟨_, Try.underlying27⟩
theorem us27 : (Try.prog.underlying 27 = some (TypeDesc.slice 3)) = True := eq_true Try.underlying27
theorem td28 : td Try.prog 28 = .one := by kernel_rfl
theorem ed28 : ed Try.prog 28 = some (none, 1) := by kernel_rfl
theorem sd28 : sd Try.prog 28 = some (.slice none 0 0) := by kernel_rfl
theorem ap28 : ap Try.prog 28 = some (1, 24) := by kernel_rfl
theorem aq28 : ((ap Try.prog 28).isSome = true) = True := eq_true (by rw [ap28]; rfl)
theorem is28 : isSl Try.prog 28 = True := eq_true ⟨_, Try.underlying28⟩
theorem us28 : (Try.prog.underlying 28 = some (TypeDesc.slice 27)) = True := eq_true Try.underlying28
theorem td29 : td Try.prog 29 = .agg 2 := by kernel_rfl
theorem fd29_0 : fd Try.prog 29 0 = some (0, .one) := by kernel_rfl
theorem fd29_1 : fd Try.prog 29 1 = some (1, .one) := by kernel_rfl
theorem td30 : td Try.prog 30 = .agg 2 := by kernel_rfl
theorem fd30_0 : fd Try.prog 30 0 = some (0, .one) := by kernel_rfl
theorem fd30_1 : fd Try.prog 30 1 = some (1, .one) := by kernel_rfl
theorem td33 : td Try.prog 33 = .agg 2 := by kernel_rfl
theorem fd33_0 : fd Try.prog 33 0 = some (0, .one) := by kernel_rfl
theorem fd33_1 : fd Try.prog 33 1 = some (1, .one) := by kernel_rfl
theorem td70 : td Try.prog 70 = .one := by kernel_rfl
theorem ik70 : ik Try.prog 70 = some .u32 := by kernel_rfl
theorem ui70 : ((Try.prog.underlying 70).isSome = true) = True := eq_true (by kernel_rfl)
theorem td71 : td Try.prog 71 = .one := by kernel_rfl
theorem ik71 : ik Try.prog 71 = some .u8 := by kernel_rfl
theorem ui71 : ((Try.prog.underlying 71).isSome = true) = True := eq_true (by kernel_rfl)
theorem td72 : td Try.prog 72 = .one := by kernel_rfl
theorem ik72 : ik Try.prog 72 = some .u8 := by kernel_rfl
theorem ui72 : ((Try.prog.underlying 72).isSome = true) = True := eq_true (by kernel_rfl)
theorem td75 : td Try.prog 75 = .one := by kernel_rfl
theorem ik75 : ik Try.prog 75 = some .i32 := by kernel_rfl
theorem ui75 : ((Try.prog.underlying 75).isSome = true) = True := eq_true (by kernel_rfl)
theorem td76 : td Try.prog 76 = .one := by kernel_rfl
theorem ik76 : ik Try.prog 76 = some .i32 := by kernel_rfl
theorem ui76 : ((Try.prog.underlying 76).isSome = true) = True := eq_true (by kernel_rfl)
theorem td77 : td Try.prog 77 = .agg 11 := by kernel_rfl
theorem fd77_0 : fd Try.prog 77 0 = some (0, .one) := by kernel_rfl
theorem fd77_1 : fd Try.prog 77 1 = some (1, .one) := by kernel_rfl
theorem fd77_2 : fd Try.prog 77 2 = some (2, .one) := by kernel_rfl
theorem fd77_3 : fd Try.prog 77 3 = some (3, .one) := by kernel_rfl
theorem fd77_4 : fd Try.prog 77 4 = some (4, .one) := by kernel_rfl
theorem fd77_5 : fd Try.prog 77 5 = some (5, .one) := by kernel_rfl
theorem fd77_6 : fd Try.prog 77 6 = some (6, .one) := by kernel_rfl
theorem fd77_8 : fd Try.prog 77 8 = some (8, .one) := by kernel_rfl
theorem fd77_9 : fd Try.prog 77 9 = some (9, .one) := by kernel_rfl
theorem fd77_10 : fd Try.prog 77 10 = some (10, .one) := by kernel_rfl
theorem td78 : td Try.prog 78 = .agg 11 := by kernel_rfl
theorem fd78_0 : fd Try.prog 78 0 = some (0, .one) := by kernel_rfl
theorem fd78_1 : fd Try.prog 78 1 = some (1, .one) := by kernel_rfl
theorem fd78_2 : fd Try.prog 78 2 = some (2, .one) := by kernel_rfl
theorem fd78_3 : fd Try.prog 78 3 = some (3, .one) := by kernel_rfl
theorem fd78_4 : fd Try.prog 78 4 = some (4, .one) := by kernel_rfl
theorem fd78_5 : fd Try.prog 78 5 = some (5, .one) := by kernel_rfl
theorem fd78_6 : fd Try.prog 78 6 = some (6, .one) := by kernel_rfl
theorem fd78_8 : fd Try.prog 78 8 = some (8, .one) := by kernel_rfl
theorem fd78_9 : fd Try.prog 78 9 = some (9, .one) := by kernel_rfl
theorem fd78_10 : fd Try.prog 78 10 = some (10, .one) := by kernel_rfl
theorem mixed : Try.prog.follows .mixedOrders = true := by kernel_rfl
end Go.Proofs.Ytaoenbfmhdconaa
