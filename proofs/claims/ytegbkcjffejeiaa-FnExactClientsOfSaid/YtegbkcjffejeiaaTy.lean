/- Facts on the types of the translation: what each comes to, one by one, by the kernel. -/
import Derived.Test.YtegbkcjffejeiaaVc
import Derived.Test.YtegbkcjffejeiaaProg
import Derived.KernelRfl
namespace Go.Proofs.Ytegbkcjffejeiaa
open Go.Vc
theorem td2 : td Try.prog 2 = .one := by kernel_rfl
theorem zv2 : zv Try.prog 2 = some (.int .i64 0) := by kernel_rfl
theorem ik2 : ik Try.prog 2 = some .i64 := by kernel_rfl
theorem ui2 : ((Try.prog.underlying 2).isSome = true) = True := eq_true (by kernel_rfl)
theorem td3 : td Try.prog 3 = .one := by kernel_rfl
theorem zv3 : zv Try.prog 3 = some (.int .i64 0) := by kernel_rfl
theorem ik3 : ik Try.prog 3 = some .i64 := by kernel_rfl
theorem ui3 : ((Try.prog.underlying 3).isSome = true) = True := eq_true (by kernel_rfl)
theorem td4 : td Try.prog 4 = .one := by kernel_rfl
theorem zv4 : zv Try.prog 4 = some (.bool false) := by kernel_rfl
theorem ub4 : (Try.prog.underlying 4 = some TypeDesc.bool) = True := eq_true Try.underlying4
theorem td5 : td Try.prog 5 = .one := by kernel_rfl
theorem zv5 : zv Try.prog 5 = some (.int .u8 0) := by kernel_rfl
theorem ik5 : ik Try.prog 5 = some .u8 := by kernel_rfl
theorem ui5 : ((Try.prog.underlying 5).isSome = true) = True := eq_true (by kernel_rfl)
theorem td6 : td Try.prog 6 = .one := by kernel_rfl
theorem zv6 : zv Try.prog 6 = some (.int .u8 0) := by kernel_rfl
theorem ik6 : ik Try.prog 6 = some .u8 := by kernel_rfl
theorem ui6 : ((Try.prog.underlying 6).isSome = true) = True := eq_true (by kernel_rfl)
theorem td9 : td Try.prog 9 = .one := by kernel_rfl
theorem zv9 : zv Try.prog 9 = some (.string ByteArray.empty) := by kernel_rfl
theorem ut9 : (Try.prog.underlying 9 = some TypeDesc.string) = True := eq_true Try.underlying9
theorem td10 : td Try.prog 10 = .one := by kernel_rfl
theorem zv10 : zv Try.prog 10 = some (.string ByteArray.empty) := by kernel_rfl
theorem ut10 : (Try.prog.underlying 10 = some TypeDesc.string) = True := eq_true Try.underlying10
theorem td11 : td Try.prog 11 = .one := by kernel_rfl
theorem zv11 : zv Try.prog 11 = some (.string ByteArray.empty) := by kernel_rfl
theorem ut11 : (Try.prog.underlying 11 = some TypeDesc.string) = True := eq_true Try.underlying11
theorem td12 : td Try.prog 12 = .one := by kernel_rfl
theorem zv12 : zv Try.prog 12 = some (.int .u64 0) := by kernel_rfl
theorem ik12 : ik Try.prog 12 = some .u64 := by kernel_rfl
theorem ui12 : ((Try.prog.underlying 12).isSome = true) = True := eq_true (by kernel_rfl)
theorem td21 : td Try.prog 21 = .one := by kernel_rfl
theorem zv21 : zv Try.prog 21 = some (.int .i32 0) := by kernel_rfl
theorem ik21 : ik Try.prog 21 = some .i32 := by kernel_rfl
theorem ui21 : ((Try.prog.underlying 21).isSome = true) = True := eq_true (by kernel_rfl)
theorem td22 : td Try.prog 22 = .one := by kernel_rfl
theorem zv22 : zv Try.prog 22 = some (.slice none 0 0) := by kernel_rfl
theorem ed22 : ed Try.prog 22 = some (none, 1) := by kernel_rfl
theorem sd22 : sd Try.prog 22 = some (.int .i64 0) := by kernel_rfl
theorem ap22 : ap Try.prog 22 = some (1, 8) := by kernel_rfl
theorem aq22 : ((ap Try.prog 22).isSome = true) = True := eq_true (by rw [ap22]; rfl)
theorem is22 : isSl Try.prog 22 = True := eq_true ⟨_, Try.underlying22⟩
theorem us22 : (Try.prog.underlying 22 = some (TypeDesc.slice 3)) = True := eq_true Try.underlying22
theorem td23 : td Try.prog 23 = .one := by kernel_rfl
theorem zv23 : zv Try.prog 23 = some (.slice none 0 0) := by kernel_rfl
theorem ed23 : ed Try.prog 23 = some (none, 1) := by kernel_rfl
theorem sd23 : sd Try.prog 23 = some (.slice none 0 0) := by kernel_rfl
theorem ap23 : ap Try.prog 23 = some (1, 24) := by kernel_rfl
theorem aq23 : ((ap Try.prog 23).isSome = true) = True := eq_true (by rw [ap23]; rfl)
theorem is23 : isSl Try.prog 23 = True := eq_true ⟨_, Try.underlying23⟩
theorem us23 : (Try.prog.underlying 23 = some (TypeDesc.slice 22)) = True := eq_true Try.underlying23
theorem td24 : td Try.prog 24 = .agg 2 := by kernel_rfl
theorem zv24 : zv Try.prog 24 = some (.agg ⟨[.slice none 0 0, .slice none 0 0]⟩) := by kernel_rfl
theorem bf24 : flatZ Try.prog 24 = some [.slice none 0 0, .slice none 0 0] := by kernel_rfl
theorem fd24_0 : fd Try.prog 24 0 = some (0, .one) := by kernel_rfl
theorem fd24_1 : fd Try.prog 24 1 = some (1, .one) := by kernel_rfl
theorem td25 : td Try.prog 25 = .agg 2 := by kernel_rfl
theorem zv25 : zv Try.prog 25 = some (.agg ⟨[.slice none 0 0, .slice none 0 0]⟩) := by kernel_rfl
theorem bf25 : flatZ Try.prog 25 = some [.slice none 0 0, .slice none 0 0] := by kernel_rfl
theorem fd25_0 : fd Try.prog 25 0 = some (0, .one) := by kernel_rfl
theorem fd25_1 : fd Try.prog 25 1 = some (1, .one) := by kernel_rfl
theorem td29 : td Try.prog 29 = .agg 2 := by kernel_rfl
theorem zv29 : zv Try.prog 29 = some (.agg ⟨[.slice none 0 0, .slice none 0 0]⟩) := by kernel_rfl
theorem bf29 : flatZ Try.prog 29 = some [.slice none 0 0, .slice none 0 0] := by kernel_rfl
theorem fd29_0 : fd Try.prog 29 0 = some (0, .one) := by kernel_rfl
theorem fd29_1 : fd Try.prog 29 1 = some (1, .one) := by kernel_rfl
theorem td66 : td Try.prog 66 = .one := by kernel_rfl
theorem zv66 : zv Try.prog 66 = some (.int .u32 0) := by kernel_rfl
theorem ik66 : ik Try.prog 66 = some .u32 := by kernel_rfl
theorem ui66 : ((Try.prog.underlying 66).isSome = true) = True := eq_true (by kernel_rfl)
theorem td67 : td Try.prog 67 = .one := by kernel_rfl
theorem zv67 : zv Try.prog 67 = some (.int .u8 0) := by kernel_rfl
theorem ik67 : ik Try.prog 67 = some .u8 := by kernel_rfl
theorem ui67 : ((Try.prog.underlying 67).isSome = true) = True := eq_true (by kernel_rfl)
theorem td68 : td Try.prog 68 = .one := by kernel_rfl
theorem zv68 : zv Try.prog 68 = some (.int .u8 0) := by kernel_rfl
theorem ik68 : ik Try.prog 68 = some .u8 := by kernel_rfl
theorem ui68 : ((Try.prog.underlying 68).isSome = true) = True := eq_true (by kernel_rfl)
theorem td71 : td Try.prog 71 = .one := by kernel_rfl
theorem zv71 : zv Try.prog 71 = some (.int .i32 0) := by kernel_rfl
theorem ik71 : ik Try.prog 71 = some .i32 := by kernel_rfl
theorem ui71 : ((Try.prog.underlying 71).isSome = true) = True := eq_true (by kernel_rfl)
theorem td72 : td Try.prog 72 = .one := by kernel_rfl
theorem zv72 : zv Try.prog 72 = some (.int .i32 0) := by kernel_rfl
theorem ik72 : ik Try.prog 72 = some .i32 := by kernel_rfl
theorem ui72 : ((Try.prog.underlying 72).isSome = true) = True := eq_true (by kernel_rfl)
theorem td73 : td Try.prog 73 = .agg 11 := by kernel_rfl
theorem fd73_0 : fd Try.prog 73 0 = some (0, .one) := by kernel_rfl
theorem fd73_1 : fd Try.prog 73 1 = some (1, .one) := by kernel_rfl
theorem fd73_2 : fd Try.prog 73 2 = some (2, .one) := by kernel_rfl
theorem fd73_3 : fd Try.prog 73 3 = some (3, .one) := by kernel_rfl
theorem fd73_4 : fd Try.prog 73 4 = some (4, .one) := by kernel_rfl
theorem fd73_5 : fd Try.prog 73 5 = some (5, .one) := by kernel_rfl
theorem fd73_6 : fd Try.prog 73 6 = some (6, .one) := by kernel_rfl
theorem fd73_8 : fd Try.prog 73 8 = some (8, .one) := by kernel_rfl
theorem fd73_9 : fd Try.prog 73 9 = some (9, .one) := by kernel_rfl
theorem fd73_10 : fd Try.prog 73 10 = some (10, .one) := by kernel_rfl
theorem td74 : td Try.prog 74 = .agg 11 := by kernel_rfl
theorem fd74_0 : fd Try.prog 74 0 = some (0, .one) := by kernel_rfl
theorem fd74_1 : fd Try.prog 74 1 = some (1, .one) := by kernel_rfl
theorem fd74_2 : fd Try.prog 74 2 = some (2, .one) := by kernel_rfl
theorem fd74_3 : fd Try.prog 74 3 = some (3, .one) := by kernel_rfl
theorem fd74_4 : fd Try.prog 74 4 = some (4, .one) := by kernel_rfl
theorem fd74_5 : fd Try.prog 74 5 = some (5, .one) := by kernel_rfl
theorem fd74_6 : fd Try.prog 74 6 = some (6, .one) := by kernel_rfl
theorem fd74_8 : fd Try.prog 74 8 = some (8, .one) := by kernel_rfl
theorem fd74_9 : fd Try.prog 74 9 = some (9, .one) := by kernel_rfl
theorem fd74_10 : fd Try.prog 74 10 = some (10, .one) := by kernel_rfl
attribute [go_sem] td2 zv2 ik2 ui2 td3 zv3 ik3 ui3 td4 zv4 ub4 td5 zv5 ik5 ui5 td6 zv6 ik6 ui6 td9 zv9 ut9 td10 zv10 ut10 td11 zv11 ut11 td12 zv12 ik12 ui12 td21 zv21 ik21 ui21 td22 zv22 ed22 sd22 ap22 aq22 is22 us22 td23 zv23 ed23 sd23 ap23 aq23 is23 us23 td24 zv24 bf24 fd24_0 fd24_1 td25 zv25 bf25 fd25_0 fd25_1 td29 zv29 bf29 fd29_0 fd29_1 td66 zv66 ik66 ui66 td67 zv67 ik67 ui67 td68 zv68 ik68 ui68 td71 zv71 ik71 ui71 td72 zv72 ik72 ui72 td73 fd73_0 fd73_1 fd73_2 fd73_3 fd73_4 fd73_5 fd73_6 fd73_8 fd73_9 fd73_10 td74 fd74_0 fd74_1 fd74_2 fd74_3 fd74_4 fd74_5 fd74_6 fd74_8 fd74_9 fd74_10
theorem mixed : Try.prog.follows .mixedOrders = true := by kernel_rfl
end Go.Proofs.Ytegbkcjffejeiaa
