/- Facts on the types of the translation: what each comes to, one by one, by the kernel. -/
import Derived.Test.YtpkmpmlgkhlgoaaVc
import Derived.Test.YtpkmpmlgkhlgoaaProg
import Derived.KernelRfl
namespace Go.Proofs.Ytpkmpmlgkhlgoaa
open Go.Vc
theorem td2 : td Try.prog 2 = .one := by kernel_rfl
theorem zv2 : zv Try.prog 2 = some (.int .i64 0) := by kernel_rfl
theorem ik2 : ik Try.prog 2 = some .i64 := by kernel_rfl
theorem ui2 : ((Try.prog.underlying 2).isSome = true) = True := eq_true (by kernel_rfl)
theorem td3 : td Try.prog 3 = .one := by kernel_rfl
theorem zv3 : zv Try.prog 3 = some (.int .i64 0) := by kernel_rfl
theorem ik3 : ik Try.prog 3 = some .i64 := by kernel_rfl
theorem ui3 : ((Try.prog.underlying 3).isSome = true) = True := eq_true (by kernel_rfl)
theorem td4 : td Try.prog 4 = .one := by kernel_rfl
theorem zv4 : zv Try.prog 4 = some (.bool false) := by kernel_rfl
theorem ub4 : (Try.prog.underlying 4 = some TypeDesc.bool) = True := eq_true Try.underlying4
theorem td5 : td Try.prog 5 = .one := by kernel_rfl
theorem zv5 : zv Try.prog 5 = some (.int .u8 0) := by kernel_rfl
theorem ik5 : ik Try.prog 5 = some .u8 := by kernel_rfl
theorem ui5 : ((Try.prog.underlying 5).isSome = true) = True := eq_true (by kernel_rfl)
theorem td6 : td Try.prog 6 = .one := by kernel_rfl
theorem zv6 : zv Try.prog 6 = some (.int .u8 0) := by kernel_rfl
theorem ik6 : ik Try.prog 6 = some .u8 := by kernel_rfl
theorem ui6 : ((Try.prog.underlying 6).isSome = true) = True := eq_true (by kernel_rfl)
theorem td9 : td Try.prog 9 = .one := by kernel_rfl
theorem zv9 : zv Try.prog 9 = some (.string ByteArray.empty) := by kernel_rfl
theorem ut9 : (Try.prog.underlying 9 = some TypeDesc.string) = True := eq_true Try.underlying9
theorem td10 : td Try.prog 10 = .one := by kernel_rfl
theorem zv10 : zv Try.prog 10 = some (.string ByteArray.empty) := by kernel_rfl
theorem ut10 : (Try.prog.underlying 10 = some TypeDesc.string) = True := eq_true Try.underlying10
theorem td11 : td Try.prog 11 = .one := by kernel_rfl
theorem zv11 : zv Try.prog 11 = some (.string ByteArray.empty) := by kernel_rfl
theorem ut11 : (Try.prog.underlying 11 = some TypeDesc.string) = True := eq_true Try.underlying11
theorem td12 : td Try.prog 12 = .one := by kernel_rfl
theorem zv12 : zv Try.prog 12 = some (.int .u64 0) := by kernel_rfl
theorem ik12 : ik Try.prog 12 = some .u64 := by kernel_rfl
theorem ui12 : ((Try.prog.underlying 12).isSome = true) = True := eq_true (by kernel_rfl)
theorem td21 : td Try.prog 21 = .one := by kernel_rfl
theorem zv21 : zv Try.prog 21 = some (.int .i32 0) := by kernel_rfl
theorem ik21 : ik Try.prog 21 = some .i32 := by kernel_rfl
theorem ui21 : ((Try.prog.underlying 21).isSome = true) = True := eq_true (by kernel_rfl)
theorem td22 : td Try.prog 22 = .one := by kernel_rfl
theorem zv22 : zv Try.prog 22 = some (.slice none 0 0) := by kernel_rfl
theorem ed22 : ed Try.prog 22 = some (none, 1) := by kernel_rfl
theorem sd22 : sd Try.prog 22 = some (.int .i64 0) := by kernel_rfl
theorem ap22 : ap Try.prog 22 = some (1, 8) := by kernel_rfl
theorem aq22 : ((ap Try.prog 22).isSome = true) = True := eq_true (by rw [ap22]; rfl)
theorem is22 : isSl Try.prog 22 = True := eq_true ⟨_, Try.underlying22⟩
theorem us22 : (Try.prog.underlying 22 = some (TypeDesc.slice 3)) = True := eq_true Try.underlying22
theorem td23 : td Try.prog 23 = .one := by kernel_rfl
theorem zv23 : zv Try.prog 23 = some (.slice none 0 0) := by kernel_rfl
theorem ed23 : ed Try.prog 23 = some (none, 1) := by kernel_rfl
theorem sd23 : sd Try.prog 23 = some (.slice none 0 0) := by kernel_rfl
theorem ap23 : ap Try.prog 23 = some (1, 24) := by kernel_rfl
theorem aq23 : ((ap Try.prog 23).isSome = true) = True := eq_true (by rw [ap23]; rfl)
theorem is23 : isSl Try.prog 23 = True := eq_true ⟨_, Try.underlying23⟩
theorem us23 : (Try.prog.underlying 23 = some (TypeDesc.slice 22)) = True := eq_true Try.underlying23
theorem td24 : td Try.prog 24 = .agg 2 := by kernel_rfl
theorem zv24 : zv Try.prog 24 = some (.agg ⟨[.slice none 0 0, .slice none 0 0]⟩) := by kernel_rfl
theorem bf24 : flatZ Try.prog 24 = some [.slice none 0 0, .slice none 0 0] := by kernel_rfl
theorem fd24_0 : fd Try.prog 24 0 = some (0, .one) := by kernel_rfl
theorem fd24_1 : fd Try.prog 24 1 = some (1, .one) := by kernel_rfl
theorem td25 : td Try.prog 25 = .agg 2 := by kernel_rfl
theorem zv25 : zv Try.prog 25 = some (.agg ⟨[.slice none 0 0, .slice none 0 0]⟩) := by kernel_rfl
theorem bf25 : flatZ Try.prog 25 = some [.slice none 0 0, .slice none 0 0] := by kernel_rfl
theorem fd25_0 : fd Try.prog 25 0 = some (0, .one) := by kernel_rfl
theorem fd25_1 : fd Try.prog 25 1 = some (1, .one) := by kernel_rfl
theorem td33 : td Try.prog 33 = .agg 2 := by kernel_rfl
theorem zv33 : zv Try.prog 33 = some (.agg ⟨[.slice none 0 0, .slice none 0 0]⟩) := by kernel_rfl
theorem bf33 : flatZ Try.prog 33 = some [.slice none 0 0, .slice none 0 0] := by kernel_rfl
theorem fd33_0 : fd Try.prog 33 0 = some (0, .one) := by kernel_rfl
theorem fd33_1 : fd Try.prog 33 1 = some (1, .one) := by kernel_rfl
theorem td83 : td Try.prog 83 = .one := by kernel_rfl
theorem zv83 : zv Try.prog 83 = some (.int .u32 0) := by kernel_rfl
theorem ik83 : ik Try.prog 83 = some .u32 := by kernel_rfl
theorem ui83 : ((Try.prog.underlying 83).isSome = true) = True := eq_true (by kernel_rfl)
theorem td84 : td Try.prog 84 = .one := by kernel_rfl
theorem zv84 : zv Try.prog 84 = some (.int .u8 0) := by kernel_rfl
theorem ik84 : ik Try.prog 84 = some .u8 := by kernel_rfl
theorem ui84 : ((Try.prog.underlying 84).isSome = true) = True := eq_true (by kernel_rfl)
theorem td85 : td Try.prog 85 = .one := by kernel_rfl
theorem zv85 : zv Try.prog 85 = some (.int .u8 0) := by kernel_rfl
theorem ik85 : ik Try.prog 85 = some .u8 := by kernel_rfl
theorem ui85 : ((Try.prog.underlying 85).isSome = true) = True := eq_true (by kernel_rfl)
theorem td88 : td Try.prog 88 = .one := by kernel_rfl
theorem zv88 : zv Try.prog 88 = some (.int .i32 0) := by kernel_rfl
theorem ik88 : ik Try.prog 88 = some .i32 := by kernel_rfl
theorem ui88 : ((Try.prog.underlying 88).isSome = true) = True := eq_true (by kernel_rfl)
theorem td89 : td Try.prog 89 = .one := by kernel_rfl
theorem zv89 : zv Try.prog 89 = some (.int .i32 0) := by kernel_rfl
theorem ik89 : ik Try.prog 89 = some .i32 := by kernel_rfl
theorem ui89 : ((Try.prog.underlying 89).isSome = true) = True := eq_true (by kernel_rfl)
theorem td90 : td Try.prog 90 = .agg 11 := by kernel_rfl
theorem fd90_0 : fd Try.prog 90 0 = some (0, .one) := by kernel_rfl
theorem fd90_1 : fd Try.prog 90 1 = some (1, .one) := by kernel_rfl
theorem fd90_2 : fd Try.prog 90 2 = some (2, .one) := by kernel_rfl
theorem fd90_3 : fd Try.prog 90 3 = some (3, .one) := by kernel_rfl
theorem fd90_4 : fd Try.prog 90 4 = some (4, .one) := by kernel_rfl
theorem fd90_5 : fd Try.prog 90 5 = some (5, .one) := by kernel_rfl
theorem fd90_6 : fd Try.prog 90 6 = some (6, .one) := by kernel_rfl
theorem fd90_8 : fd Try.prog 90 8 = some (8, .one) := by kernel_rfl
theorem fd90_9 : fd Try.prog 90 9 = some (9, .one) := by kernel_rfl
theorem fd90_10 : fd Try.prog 90 10 = some (10, .one) := by kernel_rfl
theorem td91 : td Try.prog 91 = .agg 11 := by kernel_rfl
theorem fd91_0 : fd Try.prog 91 0 = some (0, .one) := by kernel_rfl
theorem fd91_1 : fd Try.prog 91 1 = some (1, .one) := by kernel_rfl
theorem fd91_2 : fd Try.prog 91 2 = some (2, .one) := by kernel_rfl
theorem fd91_3 : fd Try.prog 91 3 = some (3, .one) := by kernel_rfl
theorem fd91_4 : fd Try.prog 91 4 = some (4, .one) := by kernel_rfl
theorem fd91_5 : fd Try.prog 91 5 = some (5, .one) := by kernel_rfl
theorem fd91_6 : fd Try.prog 91 6 = some (6, .one) := by kernel_rfl
theorem fd91_8 : fd Try.prog 91 8 = some (8, .one) := by kernel_rfl
theorem fd91_9 : fd Try.prog 91 9 = some (9, .one) := by kernel_rfl
theorem fd91_10 : fd Try.prog 91 10 = some (10, .one) := by kernel_rfl
attribute [go_sem] td2 zv2 ik2 ui2 td3 zv3 ik3 ui3 td4 zv4 ub4 td5 zv5 ik5 ui5 td6 zv6 ik6 ui6 td9 zv9 ut9 td10 zv10 ut10 td11 zv11 ut11 td12 zv12 ik12 ui12 td21 zv21 ik21 ui21 td22 zv22 ed22 sd22 ap22 aq22 is22 us22 td23 zv23 ed23 sd23 ap23 aq23 is23 us23 td24 zv24 bf24 fd24_0 fd24_1 td25 zv25 bf25 fd25_0 fd25_1 td33 zv33 bf33 fd33_0 fd33_1 td83 zv83 ik83 ui83 td84 zv84 ik84 ui84 td85 zv85 ik85 ui85 td88 zv88 ik88 ui88 td89 zv89 ik89 ui89 td90 fd90_0 fd90_1 fd90_2 fd90_3 fd90_4 fd90_5 fd90_6 fd90_8 fd90_9 fd90_10 td91 fd91_0 fd91_1 fd91_2 fd91_3 fd91_4 fd91_5 fd91_6 fd91_8 fd91_9 fd91_10
theorem mixed : Try.prog.follows .mixedOrders = true := by kernel_rfl
end Go.Proofs.Ytpkmpmlgkhlgoaa
