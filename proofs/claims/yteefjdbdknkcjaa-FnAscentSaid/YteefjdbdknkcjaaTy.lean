/- Facts on the types of the translation: what each comes to, one by one, by the kernel. -/
import Derived.Test.YteefjdbdknkcjaaVc
import Derived.Test.YteefjdbdknkcjaaProg
import Derived.KernelRfl
namespace Go.Proofs.Yteefjdbdknkcjaa
open Go.Vc
theorem td2 : td Try.prog 2 = .one := by kernel_rfl
theorem zv2 : zv Try.prog 2 = some (.int .i64 0) := by kernel_rfl
theorem ik2 : ik Try.prog 2 = some .i64 := by kernel_rfl
theorem ui2 : ((Try.prog.underlying 2).isSome = true) = True := eq_true (by kernel_rfl)
theorem td3 : td Try.prog 3 = .one := by kernel_rfl
theorem zv3 : zv Try.prog 3 = some (.int .i64 0) := by kernel_rfl
theorem ik3 : ik Try.prog 3 = some .i64 := by kernel_rfl
theorem ui3 : ((Try.prog.underlying 3).isSome = true) = True := eq_true (by kernel_rfl)
theorem td4 : td Try.prog 4 = .one := by kernel_rfl
theorem zv4 : zv Try.prog 4 = some (.bool false) := by kernel_rfl
theorem ub4 : (Try.prog.underlying 4 = some TypeDesc.bool) = True := eq_true Try.underlying4
theorem td5 : td Try.prog 5 = .one := by kernel_rfl
theorem zv5 : zv Try.prog 5 = some (.int .u8 0) := by kernel_rfl
theorem ik5 : ik Try.prog 5 = some .u8 := by kernel_rfl
theorem ui5 : ((Try.prog.underlying 5).isSome = true) = True := eq_true (by kernel_rfl)
theorem td6 : td Try.prog 6 = .one := by kernel_rfl
theorem zv6 : zv Try.prog 6 = some (.int .u8 0) := by kernel_rfl
theorem ik6 : ik Try.prog 6 = some .u8 := by kernel_rfl
theorem ui6 : ((Try.prog.underlying 6).isSome = true) = True := eq_true (by kernel_rfl)
theorem td9 : td Try.prog 9 = .one := by kernel_rfl
theorem zv9 : zv Try.prog 9 = some (.string ByteArray.empty) := by kernel_rfl
theorem ut9 : (Try.prog.underlying 9 = some TypeDesc.string) = True := eq_true Try.underlying9
theorem td10 : td Try.prog 10 = .one := by kernel_rfl
theorem zv10 : zv Try.prog 10 = some (.string ByteArray.empty) := by kernel_rfl
theorem ut10 : (Try.prog.underlying 10 = some TypeDesc.string) = True := eq_true Try.underlying10
theorem td11 : td Try.prog 11 = .one := by kernel_rfl
theorem zv11 : zv Try.prog 11 = some (.string ByteArray.empty) := by kernel_rfl
theorem ut11 : (Try.prog.underlying 11 = some TypeDesc.string) = True := eq_true Try.underlying11
theorem td12 : td Try.prog 12 = .one := by kernel_rfl
theorem zv12 : zv Try.prog 12 = some (.int .u64 0) := by kernel_rfl
theorem ik12 : ik Try.prog 12 = some .u64 := by kernel_rfl
theorem ui12 : ((Try.prog.underlying 12).isSome = true) = True := eq_true (by kernel_rfl)
theorem td21 : td Try.prog 21 = .one := by kernel_rfl
theorem zv21 : zv Try.prog 21 = some (.int .i32 0) := by kernel_rfl
theorem ik21 : ik Try.prog 21 = some .i32 := by kernel_rfl
theorem ui21 : ((Try.prog.underlying 21).isSome = true) = True := eq_true (by kernel_rfl)
theorem td22 : td Try.prog 22 = .one := by kernel_rfl
theorem zv22 : zv Try.prog 22 = some (.slice none 0 0) := by kernel_rfl
theorem ed22 : ed Try.prog 22 = some (none, 1) := by kernel_rfl
theorem sd22 : sd Try.prog 22 = some (.int .u8 0) := by kernel_rfl
theorem ap22 : ap Try.prog 22 = some (1, 1) := by kernel_rfl
theorem aq22 : ((ap Try.prog 22).isSome = true) = True := eq_true (by rw [ap22]; rfl)
theorem is22 : isSl Try.prog 22 = True := eq_true ⟨_, Try.underlying22⟩
theorem us22 : (Try.prog.underlying 22 = some (TypeDesc.slice 5)) = True := eq_true Try.underlying22
theorem td24 : td Try.prog 24 = .one := by kernel_rfl
theorem zv24 : zv Try.prog 24 = some (.slice none 0 0) := by kernel_rfl
theorem ed24 : ed Try.prog 24 = some (none, 1) := by kernel_rfl
theorem sd24 : sd Try.prog 24 = some (.int .i64 0) := by kernel_rfl
theorem ap24 : ap Try.prog 24 = some (1, 8) := by kernel_rfl
theorem aq24 : ((ap Try.prog 24).isSome = true) = True := eq_true (by rw [ap24]; rfl)
theorem is24 : isSl Try.prog 24 = True := eq_true ⟨_, Try.underlying24⟩
theorem us24 : (Try.prog.underlying 24 = some (TypeDesc.slice 3)) = True := eq_true Try.underlying24
theorem td25 : td Try.prog 25 = .one := by kernel_rfl
theorem zv25 : zv Try.prog 25 = some (.slice none 0 0) := by kernel_rfl
theorem ed25 : ed Try.prog 25 = some (none, 1) := by kernel_rfl
theorem sd25 : sd Try.prog 25 = some (.slice none 0 0) := by kernel_rfl
theorem ap25 : ap Try.prog 25 = some (1, 24) := by kernel_rfl
theorem aq25 : ((ap Try.prog 25).isSome = true) = True := eq_true (by rw [ap25]; rfl)
theorem is25 : isSl Try.prog 25 = True := eq_true ⟨_, Try.underlying25⟩
theorem us25 : (Try.prog.underlying 25 = some (TypeDesc.slice 24)) = True := eq_true Try.underlying25
theorem td26 : td Try.prog 26 = .agg 2 := by kernel_rfl
theorem zv26 : zv Try.prog 26 = some (.agg ⟨[.slice none 0 0, .slice none 0 0]⟩) := by kernel_rfl
theorem bf26 : flatZ Try.prog 26 = some [.slice none 0 0, .slice none 0 0] := by kernel_rfl
theorem fd26_0 : fd Try.prog 26 0 = some (0, .one) := by kernel_rfl
theorem fd26_1 : fd Try.prog 26 1 = some (1, .one) := by kernel_rfl
theorem td27 : td Try.prog 27 = .agg 2 := by kernel_rfl
theorem zv27 : zv Try.prog 27 = some (.agg ⟨[.slice none 0 0, .slice none 0 0]⟩) := by kernel_rfl
theorem bf27 : flatZ Try.prog 27 = some [.slice none 0 0, .slice none 0 0] := by kernel_rfl
theorem fd27_0 : fd Try.prog 27 0 = some (0, .one) := by kernel_rfl
theorem fd27_1 : fd Try.prog 27 1 = some (1, .one) := by kernel_rfl
theorem td51 : td Try.prog 51 = .one := by kernel_rfl
theorem zv51 : zv Try.prog 51 = some (.int .u64 0) := by kernel_rfl
theorem ik51 : ik Try.prog 51 = some .u64 := by kernel_rfl
theorem ui51 : ((Try.prog.underlying 51).isSome = true) = True := eq_true (by kernel_rfl)
theorem td52 : td Try.prog 52 = .agg 3 := by kernel_rfl
theorem zv52 : zv Try.prog 52 = some (.agg ⟨[.slice none 0 0, .int .i64 0, .int .u64 0]⟩) := by kernel_rfl
theorem bf52 : flatZ Try.prog 52 = some [.slice none 0 0, .int .i64 0, .int .u64 0] := by kernel_rfl
theorem fd52_0 : fd Try.prog 52 0 = some (0, .one) := by kernel_rfl
theorem fd52_1 : fd Try.prog 52 1 = some (1, .one) := by kernel_rfl
theorem fd52_2 : fd Try.prog 52 2 = some (2, .one) := by kernel_rfl
theorem td53 : td Try.prog 53 = .agg 3 := by kernel_rfl
theorem zv53 : zv Try.prog 53 = some (.agg ⟨[.slice none 0 0, .int .i64 0, .int .u64 0]⟩) := by kernel_rfl
theorem bf53 : flatZ Try.prog 53 = some [.slice none 0 0, .int .i64 0, .int .u64 0] := by kernel_rfl
theorem fd53_0 : fd Try.prog 53 0 = some (0, .one) := by kernel_rfl
theorem fd53_1 : fd Try.prog 53 1 = some (1, .one) := by kernel_rfl
theorem fd53_2 : fd Try.prog 53 2 = some (2, .one) := by kernel_rfl
theorem td62 : td Try.prog 62 = .one := by kernel_rfl
theorem zv62 : zv Try.prog 62 = some (.int .u64 0) := by kernel_rfl
theorem ik62 : ik Try.prog 62 = some .u64 := by kernel_rfl
theorem ui62 : ((Try.prog.underlying 62).isSome = true) = True := eq_true (by kernel_rfl)
theorem td63 : td Try.prog 63 = .one := by kernel_rfl
theorem zv63 : zv Try.prog 63 = some (.int .u64 0) := by kernel_rfl
theorem ik63 : ik Try.prog 63 = some .u64 := by kernel_rfl
theorem ui63 : ((Try.prog.underlying 63).isSome = true) = True := eq_true (by kernel_rfl)
theorem td91 : td Try.prog 91 = .one := by kernel_rfl
theorem zv91 : zv Try.prog 91 = some (.int .u32 0) := by kernel_rfl
theorem ik91 : ik Try.prog 91 = some .u32 := by kernel_rfl
theorem ui91 : ((Try.prog.underlying 91).isSome = true) = True := eq_true (by kernel_rfl)
theorem td92 : td Try.prog 92 = .one := by kernel_rfl
theorem zv92 : zv Try.prog 92 = some (.int .u8 0) := by kernel_rfl
theorem ik92 : ik Try.prog 92 = some .u8 := by kernel_rfl
theorem ui92 : ((Try.prog.underlying 92).isSome = true) = True := eq_true (by kernel_rfl)
theorem td93 : td Try.prog 93 = .one := by kernel_rfl
theorem zv93 : zv Try.prog 93 = some (.int .u8 0) := by kernel_rfl
theorem ik93 : ik Try.prog 93 = some .u8 := by kernel_rfl
theorem ui93 : ((Try.prog.underlying 93).isSome = true) = True := eq_true (by kernel_rfl)
theorem td96 : td Try.prog 96 = .one := by kernel_rfl
theorem zv96 : zv Try.prog 96 = some (.int .i32 0) := by kernel_rfl
theorem ik96 : ik Try.prog 96 = some .i32 := by kernel_rfl
theorem ui96 : ((Try.prog.underlying 96).isSome = true) = True := eq_true (by kernel_rfl)
theorem td97 : td Try.prog 97 = .one := by kernel_rfl
theorem zv97 : zv Try.prog 97 = some (.int .i32 0) := by kernel_rfl
theorem ik97 : ik Try.prog 97 = some .i32 := by kernel_rfl
theorem ui97 : ((Try.prog.underlying 97).isSome = true) = True := eq_true (by kernel_rfl)
theorem td98 : td Try.prog 98 = .agg 11 := by kernel_rfl
theorem fd98_0 : fd Try.prog 98 0 = some (0, .one) := by kernel_rfl
theorem fd98_1 : fd Try.prog 98 1 = some (1, .one) := by kernel_rfl
theorem fd98_2 : fd Try.prog 98 2 = some (2, .one) := by kernel_rfl
theorem fd98_3 : fd Try.prog 98 3 = some (3, .one) := by kernel_rfl
theorem fd98_4 : fd Try.prog 98 4 = some (4, .one) := by kernel_rfl
theorem fd98_5 : fd Try.prog 98 5 = some (5, .one) := by kernel_rfl
theorem fd98_6 : fd Try.prog 98 6 = some (6, .one) := by kernel_rfl
theorem fd98_8 : fd Try.prog 98 8 = some (8, .one) := by kernel_rfl
theorem fd98_9 : fd Try.prog 98 9 = some (9, .one) := by kernel_rfl
theorem fd98_10 : fd Try.prog 98 10 = some (10, .one) := by kernel_rfl
theorem td99 : td Try.prog 99 = .agg 11 := by kernel_rfl
theorem fd99_0 : fd Try.prog 99 0 = some (0, .one) := by kernel_rfl
theorem fd99_1 : fd Try.prog 99 1 = some (1, .one) := by kernel_rfl
theorem fd99_2 : fd Try.prog 99 2 = some (2, .one) := by kernel_rfl
theorem fd99_3 : fd Try.prog 99 3 = some (3, .one) := by kernel_rfl
theorem fd99_4 : fd Try.prog 99 4 = some (4, .one) := by kernel_rfl
theorem fd99_5 : fd Try.prog 99 5 = some (5, .one) := by kernel_rfl
theorem fd99_6 : fd Try.prog 99 6 = some (6, .one) := by kernel_rfl
theorem fd99_8 : fd Try.prog 99 8 = some (8, .one) := by kernel_rfl
theorem fd99_9 : fd Try.prog 99 9 = some (9, .one) := by kernel_rfl
theorem fd99_10 : fd Try.prog 99 10 = some (10, .one) := by kernel_rfl
attribute [go_sem] td2 zv2 ik2 ui2 td3 zv3 ik3 ui3 td4 zv4 ub4 td5 zv5 ik5 ui5 td6 zv6 ik6 ui6 td9 zv9 ut9 td10 zv10 ut10 td11 zv11 ut11 td12 zv12 ik12 ui12 td21 zv21 ik21 ui21 td22 zv22 ed22 sd22 ap22 aq22 is22 us22 td24 zv24 ed24 sd24 ap24 aq24 is24 us24 td25 zv25 ed25 sd25 ap25 aq25 is25 us25 td26 zv26 bf26 fd26_0 fd26_1 td27 zv27 bf27 fd27_0 fd27_1 td51 zv51 ik51 ui51 td52 zv52 bf52 fd52_0 fd52_1 fd52_2 td53 zv53 bf53 fd53_0 fd53_1 fd53_2 td62 zv62 ik62 ui62 td63 zv63 ik63 ui63 td91 zv91 ik91 ui91 td92 zv92 ik92 ui92 td93 zv93 ik93 ui93 td96 zv96 ik96 ui96 td97 zv97 ik97 ui97 td98 fd98_0 fd98_1 fd98_2 fd98_3 fd98_4 fd98_5 fd98_6 fd98_8 fd98_9 fd98_10 td99 fd99_0 fd99_1 fd99_2 fd99_3 fd99_4 fd99_5 fd99_6 fd99_8 fd99_9 fd99_10
theorem mixed : Try.prog.follows .mixedOrders = true := by kernel_rfl
end Go.Proofs.Yteefjdbdknkcjaa
