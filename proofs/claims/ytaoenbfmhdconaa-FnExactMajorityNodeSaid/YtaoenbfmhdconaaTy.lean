/- Facts on the types of the translation: what each comes to, one by one, by the kernel. -/
import Derived.Test.YtaoenbfmhdconaaVc
import Derived.Test.YtaoenbfmhdconaaProg
import Derived.KernelRfl
namespace Go.Proofs.Ytaoenbfmhdconaa
open Go.Vc
theorem td2 : td Try.prog 2 = .one := by kernel_rfl
theorem zv2 : zv Try.prog 2 = some (.int .i64 0) := by kernel_rfl
theorem ik2 : ik Try.prog 2 = some .i64 := by kernel_rfl
theorem ui2 : ((Try.prog.underlying 2).isSome = true) = True := eq_true (by kernel_rfl)
theorem td3 : td Try.prog 3 = .one := by kernel_rfl
theorem zv3 : zv Try.prog 3 = some (.int .i64 0) := by kernel_rfl
theorem ik3 : ik Try.prog 3 = some .i64 := by kernel_rfl
theorem ui3 : ((Try.prog.underlying 3).isSome = true) = True := eq_true (by kernel_rfl)
theorem td4 : td Try.prog 4 = .one := by kernel_rfl
theorem zv4 : zv Try.prog 4 = some (.bool false) := by kernel_rfl
theorem ub4 : (Try.prog.underlying 4 = some TypeDesc.bool) = True := eq_true Try.underlying4
theorem td5 : td Try.prog 5 = .one := by kernel_rfl
theorem zv5 : zv Try.prog 5 = some (.int .u8 0) := by kernel_rfl
theorem ik5 : ik Try.prog 5 = some .u8 := by kernel_rfl
theorem ui5 : ((Try.prog.underlying 5).isSome = true) = True := eq_true (by kernel_rfl)
theorem td6 : td Try.prog 6 = .one := by kernel_rfl
theorem zv6 : zv Try.prog 6 = some (.int .u8 0) := by kernel_rfl
theorem ik6 : ik Try.prog 6 = some .u8 := by kernel_rfl
theorem ui6 : ((Try.prog.underlying 6).isSome = true) = True := eq_true (by kernel_rfl)
theorem td9 : td Try.prog 9 = .one := by kernel_rfl
theorem zv9 : zv Try.prog 9 = some (.string ByteArray.empty) := by kernel_rfl
theorem ut9 : (Try.prog.underlying 9 = some TypeDesc.string) = True := eq_true Try.underlying9
theorem td10 : td Try.prog 10 = .one := by kernel_rfl
theorem zv10 : zv Try.prog 10 = some (.string ByteArray.empty) := by kernel_rfl
theorem ut10 : (Try.prog.underlying 10 = some TypeDesc.string) = True := eq_true Try.underlying10
theorem td11 : td Try.prog 11 = .one := by kernel_rfl
theorem zv11 : zv Try.prog 11 = some (.string ByteArray.empty) := by kernel_rfl
theorem ut11 : (Try.prog.underlying 11 = some TypeDesc.string) = True := eq_true Try.underlying11
theorem td12 : td Try.prog 12 = .one := by kernel_rfl
theorem zv12 : zv Try.prog 12 = some (.int .u64 0) := by kernel_rfl
theorem ik12 : ik Try.prog 12 = some .u64 := by kernel_rfl
theorem ui12 : ((Try.prog.underlying 12).isSome = true) = True := eq_true (by kernel_rfl)
theorem td21 : td Try.prog 21 = .one := by kernel_rfl
theorem zv21 : zv Try.prog 21 = some (.int .i32 0) := by kernel_rfl
theorem ik21 : ik Try.prog 21 = some .i32 := by kernel_rfl
theorem ui21 : ((Try.prog.underlying 21).isSome = true) = True := eq_true (by kernel_rfl)
theorem td27 : td Try.prog 27 = .one := by kernel_rfl
theorem zv27 : zv Try.prog 27 = some (.slice none 0 0) := by kernel_rfl
theorem ed27 : ed Try.prog 27 = some (none, 1) := by kernel_rfl
theorem sd27 : sd Try.prog 27 = some (.int .i64 0) := by kernel_rfl
theorem ap27 : ap Try.prog 27 = some (1, 8) := by kernel_rfl
theorem aq27 : ((ap Try.prog 27).isSome = true) = True := eq_true (by rw [ap27]; rfl)
theorem is27 : isSl Try.prog 27 = True := eq_true ⟨_, Try.underlying27⟩
theorem us27 : (Try.prog.underlying 27 = some (TypeDesc.slice 3)) = True := eq_true Try.underlying27
theorem td28 : td Try.prog 28 = .one := by kernel_rfl
theorem zv28 : zv Try.prog 28 = some (.slice none 0 0) := by kernel_rfl
theorem ed28 : ed Try.prog 28 = some (none, 1) := by kernel_rfl
theorem sd28 : sd Try.prog 28 = some (.slice none 0 0) := by kernel_rfl
theorem ap28 : ap Try.prog 28 = some (1, 24) := by kernel_rfl
theorem aq28 : ((ap Try.prog 28).isSome = true) = True := eq_true (by rw [ap28]; rfl)
theorem is28 : isSl Try.prog 28 = True := eq_true ⟨_, Try.underlying28⟩
theorem us28 : (Try.prog.underlying 28 = some (TypeDesc.slice 27)) = True := eq_true Try.underlying28
theorem td29 : td Try.prog 29 = .agg 2 := by kernel_rfl
theorem zv29 : zv Try.prog 29 = some (.agg ⟨[.slice none 0 0, .slice none 0 0]⟩) := by kernel_rfl
theorem fd29_0 : fd Try.prog 29 0 = some (0, .one) := by kernel_rfl
theorem fd29_1 : fd Try.prog 29 1 = some (1, .one) := by kernel_rfl
theorem td30 : td Try.prog 30 = .agg 2 := by kernel_rfl
theorem zv30 : zv Try.prog 30 = some (.agg ⟨[.slice none 0 0, .slice none 0 0]⟩) := by kernel_rfl
theorem fd30_0 : fd Try.prog 30 0 = some (0, .one) := by kernel_rfl
theorem fd30_1 : fd Try.prog 30 1 = some (1, .one) := by kernel_rfl
theorem td33 : td Try.prog 33 = .agg 2 := by kernel_rfl
theorem zv33 : zv Try.prog 33 = some (.agg ⟨[.slice none 0 0, .slice none 0 0]⟩) := by kernel_rfl
theorem fd33_0 : fd Try.prog 33 0 = some (0, .one) := by kernel_rfl
theorem fd33_1 : fd Try.prog 33 1 = some (1, .one) := by kernel_rfl
theorem td70 : td Try.prog 70 = .one := by kernel_rfl
theorem zv70 : zv Try.prog 70 = some (.int .u32 0) := by kernel_rfl
theorem ik70 : ik Try.prog 70 = some .u32 := by kernel_rfl
theorem ui70 : ((Try.prog.underlying 70).isSome = true) = True := eq_true (by kernel_rfl)
theorem td71 : td Try.prog 71 = .one := by kernel_rfl
theorem zv71 : zv Try.prog 71 = some (.int .u8 0) := by kernel_rfl
theorem ik71 : ik Try.prog 71 = some .u8 := by kernel_rfl
theorem ui71 : ((Try.prog.underlying 71).isSome = true) = True := eq_true (by kernel_rfl)
theorem td72 : td Try.prog 72 = .one := by kernel_rfl
theorem zv72 : zv Try.prog 72 = some (.int .u8 0) := by kernel_rfl
theorem ik72 : ik Try.prog 72 = some .u8 := by kernel_rfl
theorem ui72 : ((Try.prog.underlying 72).isSome = true) = True := eq_true (by kernel_rfl)
theorem td75 : td Try.prog 75 = .one := by kernel_rfl
theorem zv75 : zv Try.prog 75 = some (.int .i32 0) := by kernel_rfl
theorem ik75 : ik Try.prog 75 = some .i32 := by kernel_rfl
theorem ui75 : ((Try.prog.underlying 75).isSome = true) = True := eq_true (by kernel_rfl)
theorem td76 : td Try.prog 76 = .one := by kernel_rfl
theorem zv76 : zv Try.prog 76 = some (.int .i32 0) := by kernel_rfl
theorem ik76 : ik Try.prog 76 = some .i32 := by kernel_rfl
theorem ui76 : ((Try.prog.underlying 76).isSome = true) = True := eq_true (by kernel_rfl)
theorem td77 : td Try.prog 77 = .agg 11 := by kernel_rfl
theorem fd77_0 : fd Try.prog 77 0 = some (0, .one) := by kernel_rfl
theorem fd77_1 : fd Try.prog 77 1 = some (1, .one) := by kernel_rfl
theorem fd77_2 : fd Try.prog 77 2 = some (2, .one) := by kernel_rfl
theorem fd77_3 : fd Try.prog 77 3 = some (3, .one) := by kernel_rfl
theorem fd77_4 : fd Try.prog 77 4 = some (4, .one) := by kernel_rfl
theorem fd77_5 : fd Try.prog 77 5 = some (5, .one) := by kernel_rfl
theorem fd77_6 : fd Try.prog 77 6 = some (6, .one) := by kernel_rfl
theorem fd77_8 : fd Try.prog 77 8 = some (8, .one) := by kernel_rfl
theorem fd77_9 : fd Try.prog 77 9 = some (9, .one) := by kernel_rfl
theorem fd77_10 : fd Try.prog 77 10 = some (10, .one) := by kernel_rfl
theorem td78 : td Try.prog 78 = .agg 11 := by kernel_rfl
theorem fd78_0 : fd Try.prog 78 0 = some (0, .one) := by kernel_rfl
theorem fd78_1 : fd Try.prog 78 1 = some (1, .one) := by kernel_rfl
theorem fd78_2 : fd Try.prog 78 2 = some (2, .one) := by kernel_rfl
theorem fd78_3 : fd Try.prog 78 3 = some (3, .one) := by kernel_rfl
theorem fd78_4 : fd Try.prog 78 4 = some (4, .one) := by kernel_rfl
theorem fd78_5 : fd Try.prog 78 5 = some (5, .one) := by kernel_rfl
theorem fd78_6 : fd Try.prog 78 6 = some (6, .one) := by kernel_rfl
theorem fd78_8 : fd Try.prog 78 8 = some (8, .one) := by kernel_rfl
theorem fd78_9 : fd Try.prog 78 9 = some (9, .one) := by kernel_rfl
theorem fd78_10 : fd Try.prog 78 10 = some (10, .one) := by kernel_rfl
attribute [go_sem] td2 zv2 ik2 ui2 td3 zv3 ik3 ui3 td4 zv4 ub4 td5 zv5 ik5 ui5 td6 zv6 ik6 ui6 td9 zv9 ut9 td10 zv10 ut10 td11 zv11 ut11 td12 zv12 ik12 ui12 td21 zv21 ik21 ui21 td27 zv27 ed27 sd27 ap27 aq27 is27 us27 td28 zv28 ed28 sd28 ap28 aq28 is28 us28 td29 zv29 fd29_0 fd29_1 td30 zv30 fd30_0 fd30_1 td33 zv33 fd33_0 fd33_1 td70 zv70 ik70 ui70 td71 zv71 ik71 ui71 td72 zv72 ik72 ui72 td75 zv75 ik75 ui75 td76 zv76 ik76 ui76 td77 fd77_0 fd77_1 fd77_2 fd77_3 fd77_4 fd77_5 fd77_6 fd77_8 fd77_9 fd77_10 td78 fd78_0 fd78_1 fd78_2 fd78_3 fd78_4 fd78_5 fd78_6 fd78_8 fd78_9 fd78_10
theorem mixed : Try.prog.follows .mixedOrders = true := by kernel_rfl
end Go.Proofs.Ytaoenbfmhdconaa
