/- Facts on the types of the translation: what each comes to, one by one, by the kernel. -/
import Derived.Test.YtjnongegddnobaaVc
import Derived.Test.YtjnongegddnobaaProg
import Derived.KernelRfl
namespace Go.Proofs.Ytjnongegddnobaa
open Go.Vc
theorem td2 : td Try.prog 2 = .one := by kernel_rfl
theorem zv2 : zv Try.prog 2 = some (.int .i64 0) := by kernel_rfl
theorem ik2 : ik Try.prog 2 = some .i64 := by kernel_rfl
theorem ui2 : ((Try.prog.underlying 2).isSome = true) = True := eq_true (by kernel_rfl)
theorem td3 : td Try.prog 3 = .one := by kernel_rfl
theorem zv3 : zv Try.prog 3 = some (.int .i64 0) := by kernel_rfl
theorem ik3 : ik Try.prog 3 = some .i64 := by kernel_rfl
theorem ui3 : ((Try.prog.underlying 3).isSome = true) = True := eq_true (by kernel_rfl)
theorem td4 : td Try.prog 4 = .one := by kernel_rfl
theorem zv4 : zv Try.prog 4 = some (.bool false) := by kernel_rfl
theorem ub4 : (Try.prog.underlying 4 = some TypeDesc.bool) = True := eq_true Try.underlying4
theorem td5 : td Try.prog 5 = .one := by kernel_rfl
theorem zv5 : zv Try.prog 5 = some (.int .u8 0) := by kernel_rfl
theorem ik5 : ik Try.prog 5 = some .u8 := by kernel_rfl
theorem ui5 : ((Try.prog.underlying 5).isSome = true) = True := eq_true (by kernel_rfl)
theorem td6 : td Try.prog 6 = .one := by kernel_rfl
theorem zv6 : zv Try.prog 6 = some (.int .u8 0) := by kernel_rfl
theorem ik6 : ik Try.prog 6 = some .u8 := by kernel_rfl
theorem ui6 : ((Try.prog.underlying 6).isSome = true) = True := eq_true (by kernel_rfl)
theorem td9 : td Try.prog 9 = .one := by kernel_rfl
theorem zv9 : zv Try.prog 9 = some (.string ByteArray.empty) := by kernel_rfl
theorem ut9 : (Try.prog.underlying 9 = some TypeDesc.string) = True := eq_true Try.underlying9
theorem td10 : td Try.prog 10 = .one := by kernel_rfl
theorem zv10 : zv Try.prog 10 = some (.string ByteArray.empty) := by kernel_rfl
theorem ut10 : (Try.prog.underlying 10 = some TypeDesc.string) = True := eq_true Try.underlying10
theorem td11 : td Try.prog 11 = .one := by kernel_rfl
theorem zv11 : zv Try.prog 11 = some (.string ByteArray.empty) := by kernel_rfl
theorem ut11 : (Try.prog.underlying 11 = some TypeDesc.string) = True := eq_true Try.underlying11
theorem td12 : td Try.prog 12 = .one := by kernel_rfl
theorem zv12 : zv Try.prog 12 = some (.int .u64 0) := by kernel_rfl
theorem ik12 : ik Try.prog 12 = some .u64 := by kernel_rfl
theorem ui12 : ((Try.prog.underlying 12).isSome = true) = True := eq_true (by kernel_rfl)
theorem td21 : td Try.prog 21 = .one := by kernel_rfl
theorem zv21 : zv Try.prog 21 = some (.int .i32 0) := by kernel_rfl
theorem ik21 : ik Try.prog 21 = some .i32 := by kernel_rfl
theorem ui21 : ((Try.prog.underlying 21).isSome = true) = True := eq_true (by kernel_rfl)
theorem td22 : td Try.prog 22 = .one := by kernel_rfl
theorem zv22 : zv Try.prog 22 = some (.slice none 0 0) := by kernel_rfl
theorem ed22 : ed Try.prog 22 = some (none, 1) := by kernel_rfl
theorem sd22 : sd Try.prog 22 = some (.string ByteArray.empty) := by kernel_rfl
theorem ap22 : ap Try.prog 22 = some (1, 16) := by kernel_rfl
theorem aq22 : ((ap Try.prog 22).isSome = true) = True := eq_true (by rw [ap22]; rfl)
theorem is22 : isSl Try.prog 22 = True := eq_true ⟨_, Try.underlying22⟩
theorem us22 : (Try.prog.underlying 22 = some (TypeDesc.slice 9)) = True := eq_true Try.underlying22
theorem td37 : td Try.prog 37 = .one := by kernel_rfl
theorem zv37 : zv Try.prog 37 = some (.slice none 0 0) := by kernel_rfl
theorem ed37 : ed Try.prog 37 = some (none, 1) := by kernel_rfl
theorem sd37 : sd Try.prog 37 = some (.int .u8 0) := by kernel_rfl
theorem ap37 : ap Try.prog 37 = some (1, 1) := by kernel_rfl
theorem aq37 : ((ap Try.prog 37).isSome = true) = True := eq_true (by rw [ap37]; rfl)
theorem is37 : isSl Try.prog 37 = True := eq_true ⟨_, Try.underlying37⟩
theorem us37 : (Try.prog.underlying 37 = some (TypeDesc.slice 5)) = True := eq_true Try.underlying37
theorem td38 : td Try.prog 38 = .agg 2 := by kernel_rfl
theorem fd38_0 : fd Try.prog 38 0 = some (0, .one) := by kernel_rfl
theorem fd38_1 : fd Try.prog 38 1 = some (1, .one) := by kernel_rfl
theorem td39 : td Try.prog 39 = .agg 2 := by kernel_rfl
theorem fd39_0 : fd Try.prog 39 0 = some (0, .one) := by kernel_rfl
theorem fd39_1 : fd Try.prog 39 1 = some (1, .one) := by kernel_rfl
theorem td49 : td Try.prog 49 = .one := by kernel_rfl
theorem zv49 : zv Try.prog 49 = some (.int .u64 0) := by kernel_rfl
theorem ik49 : ik Try.prog 49 = some .u64 := by kernel_rfl
theorem ui49 : ((Try.prog.underlying 49).isSome = true) = True := eq_true (by kernel_rfl)
theorem td53 : td Try.prog 53 = .one := by kernel_rfl
theorem zv53 : zv Try.prog 53 = some (.int .u32 0) := by kernel_rfl
theorem ik53 : ik Try.prog 53 = some .u32 := by kernel_rfl
theorem ui53 : ((Try.prog.underlying 53).isSome = true) = True := eq_true (by kernel_rfl)
theorem td62 : td Try.prog 62 = .one := by kernel_rfl
theorem zv62 : zv Try.prog 62 = some (.int .u8 0) := by kernel_rfl
theorem ik62 : ik Try.prog 62 = some .u8 := by kernel_rfl
theorem ui62 : ((Try.prog.underlying 62).isSome = true) = True := eq_true (by kernel_rfl)
theorem td63 : td Try.prog 63 = .one := by kernel_rfl
theorem zv63 : zv Try.prog 63 = some (.int .u8 0) := by kernel_rfl
theorem ik63 : ik Try.prog 63 = some .u8 := by kernel_rfl
theorem ui63 : ((Try.prog.underlying 63).isSome = true) = True := eq_true (by kernel_rfl)
theorem td65 : td Try.prog 65 = .one := by kernel_rfl
theorem zv65 : zv Try.prog 65 = some (.int .i32 0) := by kernel_rfl
theorem ik65 : ik Try.prog 65 = some .i32 := by kernel_rfl
theorem ui65 : ((Try.prog.underlying 65).isSome = true) = True := eq_true (by kernel_rfl)
theorem td66 : td Try.prog 66 = .one := by kernel_rfl
theorem zv66 : zv Try.prog 66 = some (.int .i32 0) := by kernel_rfl
theorem ik66 : ik Try.prog 66 = some .i32 := by kernel_rfl
theorem ui66 : ((Try.prog.underlying 66).isSome = true) = True := eq_true (by kernel_rfl)
theorem td67 : td Try.prog 67 = .agg 11 := by kernel_rfl
theorem fd67_0 : fd Try.prog 67 0 = some (0, .one) := by kernel_rfl
theorem fd67_1 : fd Try.prog 67 1 = some (1, .one) := by kernel_rfl
theorem fd67_2 : fd Try.prog 67 2 = some (2, .one) := by kernel_rfl
theorem fd67_3 : fd Try.prog 67 3 = some (3, .one) := by kernel_rfl
theorem fd67_4 : fd Try.prog 67 4 = some (4, .one) := by kernel_rfl
theorem fd67_5 : fd Try.prog 67 5 = some (5, .one) := by kernel_rfl
theorem fd67_6 : fd Try.prog 67 6 = some (6, .one) := by kernel_rfl
theorem fd67_8 : fd Try.prog 67 8 = some (8, .one) := by kernel_rfl
theorem fd67_9 : fd Try.prog 67 9 = some (9, .one) := by kernel_rfl
theorem fd67_10 : fd Try.prog 67 10 = some (10, .one) := by kernel_rfl
theorem td68 : td Try.prog 68 = .agg 11 := by kernel_rfl
theorem fd68_0 : fd Try.prog 68 0 = some (0, .one) := by kernel_rfl
theorem fd68_1 : fd Try.prog 68 1 = some (1, .one) := by kernel_rfl
theorem fd68_2 : fd Try.prog 68 2 = some (2, .one) := by kernel_rfl
theorem fd68_3 : fd Try.prog 68 3 = some (3, .one) := by kernel_rfl
theorem fd68_4 : fd Try.prog 68 4 = some (4, .one) := by kernel_rfl
theorem fd68_5 : fd Try.prog 68 5 = some (5, .one) := by kernel_rfl
theorem fd68_6 : fd Try.prog 68 6 = some (6, .one) := by kernel_rfl
theorem fd68_8 : fd Try.prog 68 8 = some (8, .one) := by kernel_rfl
theorem fd68_9 : fd Try.prog 68 9 = some (9, .one) := by kernel_rfl
theorem fd68_10 : fd Try.prog 68 10 = some (10, .one) := by kernel_rfl
attribute [go_sem] td2 zv2 ik2 ui2 td3 zv3 ik3 ui3 td4 zv4 ub4 td5 zv5 ik5 ui5 td6 zv6 ik6 ui6 td9 zv9 ut9 td10 zv10 ut10 td11 zv11 ut11 td12 zv12 ik12 ui12 td21 zv21 ik21 ui21 td22 zv22 ed22 sd22 ap22 aq22 is22 us22 td37 zv37 ed37 sd37 ap37 aq37 is37 us37 td38 fd38_0 fd38_1 td39 fd39_0 fd39_1 td49 zv49 ik49 ui49 td53 zv53 ik53 ui53 td62 zv62 ik62 ui62 td63 zv63 ik63 ui63 td65 zv65 ik65 ui65 td66 zv66 ik66 ui66 td67 fd67_0 fd67_1 fd67_2 fd67_3 fd67_4 fd67_5 fd67_6 fd67_8 fd67_9 fd67_10 td68 fd68_0 fd68_1 fd68_2 fd68_3 fd68_4 fd68_5 fd68_6 fd68_8 fd68_9 fd68_10
theorem mixed : Try.prog.follows .mixedOrders = true := by kernel_rfl
end Go.Proofs.Ytjnongegddnobaa
