/- Facts on the types of the translation: what each comes to, one by one, by the kernel. -/
import Derived.Test.YtkpacedgccpfhaaVc
import Derived.Test.YtkpacedgccpfhaaProg
import Derived.KernelRfl
namespace Go.Proofs.Ytkpacedgccpfhaa
open Go.Vc
theorem td2 : td Try.prog 2 = .one := by kernel_rfl
theorem zv2 : zv Try.prog 2 = some (.int .i64 0) := by kernel_rfl
theorem ik2 : ik Try.prog 2 = some .i64 := by kernel_rfl
theorem ui2 : ((Try.prog.underlying 2).isSome = true) = True := eq_true (by kernel_rfl)
theorem td3 : td Try.prog 3 = .one := by kernel_rfl
theorem zv3 : zv Try.prog 3 = some (.int .i64 0) := by kernel_rfl
theorem ik3 : ik Try.prog 3 = some .i64 := by kernel_rfl
theorem ui3 : ((Try.prog.underlying 3).isSome = true) = True := eq_true (by kernel_rfl)
theorem td4 : td Try.prog 4 = .one := by kernel_rfl
theorem zv4 : zv Try.prog 4 = some (.bool false) := by kernel_rfl
theorem ub4 : (Try.prog.underlying 4 = some TypeDesc.bool) = True := eq_true Try.underlying4
theorem td5 : td Try.prog 5 = .one := by kernel_rfl
theorem zv5 : zv Try.prog 5 = some (.int .u8 0) := by kernel_rfl
theorem ik5 : ik Try.prog 5 = some .u8 := by kernel_rfl
theorem ui5 : ((Try.prog.underlying 5).isSome = true) = True := eq_true (by kernel_rfl)
theorem td6 : td Try.prog 6 = .one := by kernel_rfl
theorem zv6 : zv Try.prog 6 = some (.int .u8 0) := by kernel_rfl
theorem ik6 : ik Try.prog 6 = some .u8 := by kernel_rfl
theorem ui6 : ((Try.prog.underlying 6).isSome = true) = True := eq_true (by kernel_rfl)
theorem td9 : td Try.prog 9 = .one := by kernel_rfl
theorem zv9 : zv Try.prog 9 = some (.string ByteArray.empty) := by kernel_rfl
theorem ut9 : (Try.prog.underlying 9 = some TypeDesc.string) = True := eq_true Try.underlying9
theorem td10 : td Try.prog 10 = .one := by kernel_rfl
theorem zv10 : zv Try.prog 10 = some (.string ByteArray.empty) := by kernel_rfl
theorem ut10 : (Try.prog.underlying 10 = some TypeDesc.string) = True := eq_true Try.underlying10
theorem td11 : td Try.prog 11 = .one := by kernel_rfl
theorem zv11 : zv Try.prog 11 = some (.string ByteArray.empty) := by kernel_rfl
theorem ut11 : (Try.prog.underlying 11 = some TypeDesc.string) = True := eq_true Try.underlying11
theorem td12 : td Try.prog 12 = .one := by kernel_rfl
theorem zv12 : zv Try.prog 12 = some (.int .u64 0) := by kernel_rfl
theorem ik12 : ik Try.prog 12 = some .u64 := by kernel_rfl
theorem ui12 : ((Try.prog.underlying 12).isSome = true) = True := eq_true (by kernel_rfl)
theorem td21 : td Try.prog 21 = .one := by kernel_rfl
theorem zv21 : zv Try.prog 21 = some (.int .i32 0) := by kernel_rfl
theorem ik21 : ik Try.prog 21 = some .i32 := by kernel_rfl
theorem ui21 : ((Try.prog.underlying 21).isSome = true) = True := eq_true (by kernel_rfl)
theorem td22 : td Try.prog 22 = .one := by kernel_rfl
theorem zv22 : zv Try.prog 22 = some (.slice none 0 0) := by kernel_rfl
theorem ed22 : ed Try.prog 22 = some (none, 1) := by kernel_rfl
theorem sd22 : sd Try.prog 22 = some (.int .i64 0) := by kernel_rfl
theorem ap22 : ap Try.prog 22 = some (1, 8) := by kernel_rfl
theorem aq22 : ((ap Try.prog 22).isSome = true) = True := eq_true (by rw [ap22]; rfl)
theorem is22 : isSl Try.prog 22 = True := eq_true ⟨_, Try.underlying22⟩
theorem us22 : (Try.prog.underlying 22 = some (TypeDesc.slice 3)) = True := eq_true Try.underlying22
theorem td23 : td Try.prog 23 = .one := by kernel_rfl
theorem zv23 : zv Try.prog 23 = some (.slice none 0 0) := by kernel_rfl
theorem ed23 : ed Try.prog 23 = some (none, 1) := by kernel_rfl
theorem sd23 : sd Try.prog 23 = some (.slice none 0 0) := by kernel_rfl
theorem ap23 : ap Try.prog 23 = some (1, 24) := by kernel_rfl
theorem aq23 : ((ap Try.prog 23).isSome = true) = True := eq_true (by rw [ap23]; rfl)
theorem is23 : isSl Try.prog 23 = True := eq_true ⟨_, Try.underlying23⟩
theorem us23 : (Try.prog.underlying 23 = some (TypeDesc.slice 22)) = True := eq_true Try.underlying23
theorem td24 : td Try.prog 24 = .agg 2 := by kernel_rfl
theorem zv24 : zv Try.prog 24 = some (.agg ⟨[.slice none 0 0, .slice none 0 0]⟩) := by kernel_rfl
theorem bf24 : flatZ Try.prog 24 = some [.slice none 0 0, .slice none 0 0] := by kernel_rfl
theorem fd24_0 : fd Try.prog 24 0 = some (0, .one) := by kernel_rfl
theorem fd24_1 : fd Try.prog 24 1 = some (1, .one) := by kernel_rfl
theorem td25 : td Try.prog 25 = .agg 2 := by kernel_rfl
theorem zv25 : zv Try.prog 25 = some (.agg ⟨[.slice none 0 0, .slice none 0 0]⟩) := by kernel_rfl
theorem bf25 : flatZ Try.prog 25 = some [.slice none 0 0, .slice none 0 0] := by kernel_rfl
theorem fd25_0 : fd Try.prog 25 0 = some (0, .one) := by kernel_rfl
theorem fd25_1 : fd Try.prog 25 1 = some (1, .one) := by kernel_rfl
theorem td29 : td Try.prog 29 = .agg 2 := by kernel_rfl
theorem zv29 : zv Try.prog 29 = some (.agg ⟨[.slice none 0 0, .slice none 0 0]⟩) := by kernel_rfl
theorem bf29 : flatZ Try.prog 29 = some [.slice none 0 0, .slice none 0 0] := by kernel_rfl
theorem fd29_0 : fd Try.prog 29 0 = some (0, .one) := by kernel_rfl
theorem fd29_1 : fd Try.prog 29 1 = some (1, .one) := by kernel_rfl
theorem td63 : td Try.prog 63 = .one := by kernel_rfl
theorem zv63 : zv Try.prog 63 = some (.int .u64 0) := by kernel_rfl
theorem ik63 : ik Try.prog 63 = some .u64 := by kernel_rfl
theorem ui63 : ((Try.prog.underlying 63).isSome = true) = True := eq_true (by kernel_rfl)
theorem td64 : td Try.prog 64 = .one := by kernel_rfl
theorem zv64 : zv Try.prog 64 = some (.int .u64 0) := by kernel_rfl
theorem ik64 : ik Try.prog 64 = some .u64 := by kernel_rfl
theorem ui64 : ((Try.prog.underlying 64).isSome = true) = True := eq_true (by kernel_rfl)
theorem td101 : td Try.prog 101 = .one := by kernel_rfl
theorem zv101 : zv Try.prog 101 = some (.int .u32 0) := by kernel_rfl
theorem ik101 : ik Try.prog 101 = some .u32 := by kernel_rfl
theorem ui101 : ((Try.prog.underlying 101).isSome = true) = True := eq_true (by kernel_rfl)
theorem td102 : td Try.prog 102 = .one := by kernel_rfl
theorem zv102 : zv Try.prog 102 = some (.int .u8 0) := by kernel_rfl
theorem ik102 : ik Try.prog 102 = some .u8 := by kernel_rfl
theorem ui102 : ((Try.prog.underlying 102).isSome = true) = True := eq_true (by kernel_rfl)
theorem td103 : td Try.prog 103 = .one := by kernel_rfl
theorem zv103 : zv Try.prog 103 = some (.int .u8 0) := by kernel_rfl
theorem ik103 : ik Try.prog 103 = some .u8 := by kernel_rfl
theorem ui103 : ((Try.prog.underlying 103).isSome = true) = True := eq_true (by kernel_rfl)
theorem td106 : td Try.prog 106 = .one := by kernel_rfl
theorem zv106 : zv Try.prog 106 = some (.int .i32 0) := by kernel_rfl
theorem ik106 : ik Try.prog 106 = some .i32 := by kernel_rfl
theorem ui106 : ((Try.prog.underlying 106).isSome = true) = True := eq_true (by kernel_rfl)
theorem td107 : td Try.prog 107 = .one := by kernel_rfl
theorem zv107 : zv Try.prog 107 = some (.int .i32 0) := by kernel_rfl
theorem ik107 : ik Try.prog 107 = some .i32 := by kernel_rfl
theorem ui107 : ((Try.prog.underlying 107).isSome = true) = True := eq_true (by kernel_rfl)
theorem td108 : td Try.prog 108 = .agg 11 := by kernel_rfl
theorem fd108_0 : fd Try.prog 108 0 = some (0, .one) := by kernel_rfl
theorem fd108_1 : fd Try.prog 108 1 = some (1, .one) := by kernel_rfl
theorem fd108_2 : fd Try.prog 108 2 = some (2, .one) := by kernel_rfl
theorem fd108_3 : fd Try.prog 108 3 = some (3, .one) := by kernel_rfl
theorem fd108_4 : fd Try.prog 108 4 = some (4, .one) := by kernel_rfl
theorem fd108_5 : fd Try.prog 108 5 = some (5, .one) := by kernel_rfl
theorem fd108_6 : fd Try.prog 108 6 = some (6, .one) := by kernel_rfl
theorem fd108_8 : fd Try.prog 108 8 = some (8, .one) := by kernel_rfl
theorem fd108_9 : fd Try.prog 108 9 = some (9, .one) := by kernel_rfl
theorem fd108_10 : fd Try.prog 108 10 = some (10, .one) := by kernel_rfl
theorem td109 : td Try.prog 109 = .agg 11 := by kernel_rfl
theorem fd109_0 : fd Try.prog 109 0 = some (0, .one) := by kernel_rfl
theorem fd109_1 : fd Try.prog 109 1 = some (1, .one) := by kernel_rfl
theorem fd109_2 : fd Try.prog 109 2 = some (2, .one) := by kernel_rfl
theorem fd109_3 : fd Try.prog 109 3 = some (3, .one) := by kernel_rfl
theorem fd109_4 : fd Try.prog 109 4 = some (4, .one) := by kernel_rfl
theorem fd109_5 : fd Try.prog 109 5 = some (5, .one) := by kernel_rfl
theorem fd109_6 : fd Try.prog 109 6 = some (6, .one) := by kernel_rfl
theorem fd109_8 : fd Try.prog 109 8 = some (8, .one) := by kernel_rfl
theorem fd109_9 : fd Try.prog 109 9 = some (9, .one) := by kernel_rfl
theorem fd109_10 : fd Try.prog 109 10 = some (10, .one) := by kernel_rfl
attribute [go_sem] td2 zv2 ik2 ui2 td3 zv3 ik3 ui3 td4 zv4 ub4 td5 zv5 ik5 ui5 td6 zv6 ik6 ui6 td9 zv9 ut9 td10 zv10 ut10 td11 zv11 ut11 td12 zv12 ik12 ui12 td21 zv21 ik21 ui21 td22 zv22 ed22 sd22 ap22 aq22 is22 us22 td23 zv23 ed23 sd23 ap23 aq23 is23 us23 td24 zv24 bf24 fd24_0 fd24_1 td25 zv25 bf25 fd25_0 fd25_1 td29 zv29 bf29 fd29_0 fd29_1 td63 zv63 ik63 ui63 td64 zv64 ik64 ui64 td101 zv101 ik101 ui101 td102 zv102 ik102 ui102 td103 zv103 ik103 ui103 td106 zv106 ik106 ui106 td107 zv107 ik107 ui107 td108 fd108_0 fd108_1 fd108_2 fd108_3 fd108_4 fd108_5 fd108_6 fd108_8 fd108_9 fd108_10 td109 fd109_0 fd109_1 fd109_2 fd109_3 fd109_4 fd109_5 fd109_6 fd109_8 fd109_9 fd109_10
theorem mixed : Try.prog.follows .mixedOrders = true := by kernel_rfl
end Go.Proofs.Ytkpacedgccpfhaa
