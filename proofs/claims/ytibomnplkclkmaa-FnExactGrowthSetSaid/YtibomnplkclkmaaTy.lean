/- Facts on the types of the translation: what each comes to, one by one, by the kernel. -/
import Derived.Test.YtibomnplkclkmaaVc
import Derived.Test.YtibomnplkclkmaaProg
import Derived.KernelRfl
namespace Go.Proofs.Ytibomnplkclkmaa
open Go.Vc
theorem td2 : td Try.prog 2 = .one := by kernel_rfl
theorem zv2 : zv Try.prog 2 = some (.int .i64 0) := by kernel_rfl
theorem ik2 : ik Try.prog 2 = some .i64 := by kernel_rfl
theorem ui2 : ((Try.prog.underlying 2).isSome = true) = True := eq_true (by kernel_rfl)
theorem td3 : td Try.prog 3 = .one := by kernel_rfl
theorem zv3 : zv Try.prog 3 = some (.int .i64 0) := by kernel_rfl
theorem ik3 : ik Try.prog 3 = some .i64 := by kernel_rfl
theorem ui3 : ((Try.prog.underlying 3).isSome = true) = True := eq_true (by kernel_rfl)
theorem td4 : td Try.prog 4 = .one := by kernel_rfl
theorem zv4 : zv Try.prog 4 = some (.bool false) := by kernel_rfl
theorem ub4 : (Try.prog.underlying 4 = some TypeDesc.bool) = True := eq_true Try.underlying4
theorem td5 : td Try.prog 5 = .one := by kernel_rfl
theorem zv5 : zv Try.prog 5 = some (.int .u8 0) := by kernel_rfl
theorem ik5 : ik Try.prog 5 = some .u8 := by kernel_rfl
theorem ui5 : ((Try.prog.underlying 5).isSome = true) = True := eq_true (by kernel_rfl)
theorem td6 : td Try.prog 6 = .one := by kernel_rfl
theorem zv6 : zv Try.prog 6 = some (.int .u8 0) := by kernel_rfl
theorem ik6 : ik Try.prog 6 = some .u8 := by kernel_rfl
theorem ui6 : ((Try.prog.underlying 6).isSome = true) = True := eq_true (by kernel_rfl)
theorem td9 : td Try.prog 9 = .one := by kernel_rfl
theorem zv9 : zv Try.prog 9 = some (.string ByteArray.empty) := by kernel_rfl
theorem ut9 : (Try.prog.underlying 9 = some TypeDesc.string) = True := eq_true Try.underlying9
theorem td10 : td Try.prog 10 = .one := by kernel_rfl
theorem zv10 : zv Try.prog 10 = some (.string ByteArray.empty) := by kernel_rfl
theorem ut10 : (Try.prog.underlying 10 = some TypeDesc.string) = True := eq_true Try.underlying10
theorem td11 : td Try.prog 11 = .one := by kernel_rfl
theorem zv11 : zv Try.prog 11 = some (.string ByteArray.empty) := by kernel_rfl
theorem ut11 : (Try.prog.underlying 11 = some TypeDesc.string) = True := eq_true Try.underlying11
theorem td12 : td Try.prog 12 = .one := by kernel_rfl
theorem zv12 : zv Try.prog 12 = some (.int .u64 0) := by kernel_rfl
theorem ik12 : ik Try.prog 12 = some .u64 := by kernel_rfl
theorem ui12 : ((Try.prog.underlying 12).isSome = true) = True := eq_true (by kernel_rfl)
theorem td21 : td Try.prog 21 = .one := by kernel_rfl
theorem zv21 : zv Try.prog 21 = some (.int .i32 0) := by kernel_rfl
theorem ik21 : ik Try.prog 21 = some .i32 := by kernel_rfl
theorem ui21 : ((Try.prog.underlying 21).isSome = true) = True := eq_true (by kernel_rfl)
theorem td22 : td Try.prog 22 = .one := by kernel_rfl
theorem zv22 : zv Try.prog 22 = some (.slice none 0 0) := by kernel_rfl
theorem ed22 : ed Try.prog 22 = some (none, 1) := by kernel_rfl
theorem sd22 : sd Try.prog 22 = some (.int .i64 0) := by kernel_rfl
theorem ap22 : ap Try.prog 22 = some (1, 8) := by kernel_rfl
theorem aq22 : ((ap Try.prog 22).isSome = true) = True := eq_true (by rw [ap22]; rfl)
theorem is22 : isSl Try.prog 22 = True := eq_true ⟨_, Try.underlying22⟩
theorem us22 : (Try.prog.underlying 22 = some (TypeDesc.slice 3)) = True := eq_true Try.underlying22
theorem td23 : td Try.prog 23 = .one := by kernel_rfl
theorem zv23 : zv Try.prog 23 = some (.slice none 0 0) := by kernel_rfl
theorem ed23 : ed Try.prog 23 = some (none, 1) := by kernel_rfl
theorem sd23 : sd Try.prog 23 = some (.slice none 0 0) := by kernel_rfl
theorem ap23 : ap Try.prog 23 = some (1, 24) := by kernel_rfl
theorem aq23 : ((ap Try.prog 23).isSome = true) = True := eq_true (by rw [ap23]; rfl)
theorem is23 : isSl Try.prog 23 = True := eq_true ⟨_, Try.underlying23⟩
theorem us23 : (Try.prog.underlying 23 = some (TypeDesc.slice 22)) = True := eq_true Try.underlying23
theorem td24 : td Try.prog 24 = .agg 2 := by kernel_rfl
theorem zv24 : zv Try.prog 24 = some (.agg ⟨[.slice none 0 0, .slice none 0 0]⟩) := by kernel_rfl
theorem bf24 : flatZ Try.prog 24 = some [.slice none 0 0, .slice none 0 0] := by kernel_rfl
theorem fd24_0 : fd Try.prog 24 0 = some (0, .one) := by kernel_rfl
theorem fd24_1 : fd Try.prog 24 1 = some (1, .one) := by kernel_rfl
theorem td25 : td Try.prog 25 = .agg 2 := by kernel_rfl
theorem zv25 : zv Try.prog 25 = some (.agg ⟨[.slice none 0 0, .slice none 0 0]⟩) := by kernel_rfl
theorem bf25 : flatZ Try.prog 25 = some [.slice none 0 0, .slice none 0 0] := by kernel_rfl
theorem fd25_0 : fd Try.prog 25 0 = some (0, .one) := by kernel_rfl
theorem fd25_1 : fd Try.prog 25 1 = some (1, .one) := by kernel_rfl
theorem td29 : td Try.prog 29 = .agg 2 := by kernel_rfl
theorem zv29 : zv Try.prog 29 = some (.agg ⟨[.slice none 0 0, .slice none 0 0]⟩) := by kernel_rfl
theorem bf29 : flatZ Try.prog 29 = some [.slice none 0 0, .slice none 0 0] := by kernel_rfl
theorem fd29_0 : fd Try.prog 29 0 = some (0, .one) := by kernel_rfl
theorem fd29_1 : fd Try.prog 29 1 = some (1, .one) := by kernel_rfl
theorem td45 : td Try.prog 45 = .one := by kernel_rfl
theorem zv45 : zv Try.prog 45 = some (.slice none 0 0) := by kernel_rfl
theorem ed45 : ed Try.prog 45 = some (none, 2) := by kernel_rfl
theorem sd45 : sd Try.prog 45 = some (.agg ⟨[.int .i64 0, .int .i64 0]⟩) := by kernel_rfl
theorem ap45 : ap Try.prog 45 = some (2, 16) := by kernel_rfl
theorem aq45 : ((ap Try.prog 45).isSome = true) = True := eq_true (by rw [ap45]; rfl)
theorem is45 : isSl Try.prog 45 = True := eq_true ⟨_, Try.underlying45⟩
theorem us45 : (Try.prog.underlying 45 = some (TypeDesc.slice 82)) = True := eq_true Try.underlying45
theorem td59 : td Try.prog 59 = .one := by kernel_rfl
theorem zv59 : zv Try.prog 59 = some (.int .u64 0) := by kernel_rfl
theorem ik59 : ik Try.prog 59 = some .u64 := by kernel_rfl
theorem ui59 : ((Try.prog.underlying 59).isSome = true) = True := eq_true (by kernel_rfl)
theorem td60 : td Try.prog 60 = .one := by kernel_rfl
theorem zv60 : zv Try.prog 60 = some (.int .u64 0) := by kernel_rfl
theorem ik60 : ik Try.prog 60 = some .u64 := by kernel_rfl
theorem ui60 : ((Try.prog.underlying 60).isSome = true) = True := eq_true (by kernel_rfl)
theorem td74 : td Try.prog 74 = .one := by kernel_rfl
theorem zv74 : zv Try.prog 74 = some (.slice none 0 0) := by kernel_rfl
theorem ed74 : ed Try.prog 74 = some (none, 1) := by kernel_rfl
theorem sd74 : sd Try.prog 74 = some (.bool false) := by kernel_rfl
theorem ap74 : ap Try.prog 74 = some (1, 1) := by kernel_rfl
theorem aq74 : ((ap Try.prog 74).isSome = true) = True := eq_true (by rw [ap74]; rfl)
theorem is74 : isSl Try.prog 74 = True := eq_true ⟨_, Try.underlying74⟩
theorem us74 : (Try.prog.underlying 74 = some (TypeDesc.slice 4)) = True := eq_true Try.underlying74
theorem td75 : td Try.prog 75 = .agg 5 := by kernel_rfl
theorem zv75 : zv Try.prog 75 = some (.agg ⟨[.int .i64 0, .slice none 0 0, .slice none 0 0, .slice none 0 0, .slice none 0 0]⟩) := by kernel_rfl
theorem bf75 : flatZ Try.prog 75 = some [.int .i64 0, .slice none 0 0, .slice none 0 0, .slice none 0 0, .slice none 0 0] := by kernel_rfl
theorem fd75_0 : fd Try.prog 75 0 = some (0, .one) := by kernel_rfl
theorem fd75_1 : fd Try.prog 75 1 = some (1, .one) := by kernel_rfl
theorem fd75_2 : fd Try.prog 75 2 = some (2, .one) := by kernel_rfl
theorem fd75_3 : fd Try.prog 75 3 = some (3, .one) := by kernel_rfl
theorem fd75_4 : fd Try.prog 75 4 = some (4, .one) := by kernel_rfl
theorem td76 : td Try.prog 76 = .agg 5 := by kernel_rfl
theorem zv76 : zv Try.prog 76 = some (.agg ⟨[.int .i64 0, .slice none 0 0, .slice none 0 0, .slice none 0 0, .slice none 0 0]⟩) := by kernel_rfl
theorem bf76 : flatZ Try.prog 76 = some [.int .i64 0, .slice none 0 0, .slice none 0 0, .slice none 0 0, .slice none 0 0] := by kernel_rfl
theorem fd76_0 : fd Try.prog 76 0 = some (0, .one) := by kernel_rfl
theorem fd76_1 : fd Try.prog 76 1 = some (1, .one) := by kernel_rfl
theorem fd76_2 : fd Try.prog 76 2 = some (2, .one) := by kernel_rfl
theorem fd76_3 : fd Try.prog 76 3 = some (3, .one) := by kernel_rfl
theorem fd76_4 : fd Try.prog 76 4 = some (4, .one) := by kernel_rfl
theorem td78 : td Try.prog 78 = .agg 3 := by kernel_rfl
theorem zv78 : zv Try.prog 78 = some (.agg ⟨[.slice none 0 0, .slice none 0 0, .slice none 0 0]⟩) := by kernel_rfl
theorem bf78 : flatZ Try.prog 78 = some [.slice none 0 0, .slice none 0 0, .slice none 0 0] := by kernel_rfl
theorem fd78_0 : fd Try.prog 78 0 = some (0, .one) := by kernel_rfl
theorem fd78_1 : fd Try.prog 78 1 = some (1, .one) := by kernel_rfl
theorem fd78_2 : fd Try.prog 78 2 = some (2, .one) := by kernel_rfl
theorem td79 : td Try.prog 79 = .agg 3 := by kernel_rfl
theorem zv79 : zv Try.prog 79 = some (.agg ⟨[.slice none 0 0, .slice none 0 0, .slice none 0 0]⟩) := by kernel_rfl
theorem bf79 : flatZ Try.prog 79 = some [.slice none 0 0, .slice none 0 0, .slice none 0 0] := by kernel_rfl
theorem fd79_0 : fd Try.prog 79 0 = some (0, .one) := by kernel_rfl
theorem fd79_1 : fd Try.prog 79 1 = some (1, .one) := by kernel_rfl
theorem fd79_2 : fd Try.prog 79 2 = some (2, .one) := by kernel_rfl
theorem td82 : td Try.prog 82 = .agg 2 := by kernel_rfl
theorem ed82 : ed Try.prog 82 = some (some 2, 1) := by kernel_rfl
theorem bf82 : flatZ Try.prog 82 = some [.int .i64 0, .int .i64 0] := by kernel_rfl
theorem td86 : td Try.prog 86 = .agg 3 := by kernel_rfl
theorem zv86 : zv Try.prog 86 = some (.agg ⟨[.int .i64 0, .slice none 0 0, .int .i64 0]⟩) := by kernel_rfl
theorem bf86 : flatZ Try.prog 86 = some [.int .i64 0, .slice none 0 0, .int .i64 0] := by kernel_rfl
theorem fd86_0 : fd Try.prog 86 0 = some (0, .one) := by kernel_rfl
theorem fd86_1 : fd Try.prog 86 1 = some (1, .one) := by kernel_rfl
theorem fd86_2 : fd Try.prog 86 2 = some (2, .one) := by kernel_rfl
theorem td87 : td Try.prog 87 = .agg 3 := by kernel_rfl
theorem zv87 : zv Try.prog 87 = some (.agg ⟨[.int .i64 0, .slice none 0 0, .int .i64 0]⟩) := by kernel_rfl
theorem bf87 : flatZ Try.prog 87 = some [.int .i64 0, .slice none 0 0, .int .i64 0] := by kernel_rfl
theorem fd87_0 : fd Try.prog 87 0 = some (0, .one) := by kernel_rfl
theorem fd87_1 : fd Try.prog 87 1 = some (1, .one) := by kernel_rfl
theorem fd87_2 : fd Try.prog 87 2 = some (2, .one) := by kernel_rfl
theorem td126 : td Try.prog 126 = .one := by kernel_rfl
theorem zv126 : zv Try.prog 126 = some (.int .u32 0) := by kernel_rfl
theorem ik126 : ik Try.prog 126 = some .u32 := by kernel_rfl
theorem ui126 : ((Try.prog.underlying 126).isSome = true) = True := eq_true (by kernel_rfl)
theorem td128 : td Try.prog 128 = .one := by kernel_rfl
theorem zv128 : zv Try.prog 128 = some (.int .u64 0) := by kernel_rfl
theorem ik128 : ik Try.prog 128 = some .u64 := by kernel_rfl
theorem ui128 : ((Try.prog.underlying 128).isSome = true) = True := eq_true (by kernel_rfl)
theorem td141 : td Try.prog 141 = .one := by kernel_rfl
theorem zv141 : zv Try.prog 141 = some (.int .i64 0) := by kernel_rfl
theorem ik141 : ik Try.prog 141 = some .i64 := by kernel_rfl
theorem ui141 : ((Try.prog.underlying 141).isSome = true) = True := eq_true (by kernel_rfl)
theorem td156 : td Try.prog 156 = .one := by kernel_rfl
theorem zv156 : zv Try.prog 156 = some (.int .u64 0) := by kernel_rfl
theorem ik156 : ik Try.prog 156 = some .u64 := by kernel_rfl
theorem ui156 : ((Try.prog.underlying 156).isSome = true) = True := eq_true (by kernel_rfl)
theorem td174 : td Try.prog 174 = .one := by kernel_rfl
theorem zv174 : zv Try.prog 174 = some (.int .u8 0) := by kernel_rfl
theorem ik174 : ik Try.prog 174 = some .u8 := by kernel_rfl
theorem ui174 : ((Try.prog.underlying 174).isSome = true) = True := eq_true (by kernel_rfl)
theorem td175 : td Try.prog 175 = .one := by kernel_rfl
theorem zv175 : zv Try.prog 175 = some (.int .u8 0) := by kernel_rfl
theorem ik175 : ik Try.prog 175 = some .u8 := by kernel_rfl
theorem ui175 : ((Try.prog.underlying 175).isSome = true) = True := eq_true (by kernel_rfl)
theorem td178 : td Try.prog 178 = .one := by kernel_rfl
theorem zv178 : zv Try.prog 178 = some (.int .i32 0) := by kernel_rfl
theorem ik178 : ik Try.prog 178 = some .i32 := by kernel_rfl
theorem ui178 : ((Try.prog.underlying 178).isSome = true) = True := eq_true (by kernel_rfl)
theorem td179 : td Try.prog 179 = .one := by kernel_rfl
theorem zv179 : zv Try.prog 179 = some (.int .i32 0) := by kernel_rfl
theorem ik179 : ik Try.prog 179 = some .i32 := by kernel_rfl
theorem ui179 : ((Try.prog.underlying 179).isSome = true) = True := eq_true (by kernel_rfl)
theorem td180 : td Try.prog 180 = .agg 11 := by kernel_rfl
theorem fd180_0 : fd Try.prog 180 0 = some (0, .one) := by kernel_rfl
theorem fd180_1 : fd Try.prog 180 1 = some (1, .one) := by kernel_rfl
theorem fd180_2 : fd Try.prog 180 2 = some (2, .one) := by kernel_rfl
theorem fd180_3 : fd Try.prog 180 3 = some (3, .one) := by kernel_rfl
theorem fd180_4 : fd Try.prog 180 4 = some (4, .one) := by kernel_rfl
theorem fd180_5 : fd Try.prog 180 5 = some (5, .one) := by kernel_rfl
theorem fd180_6 : fd Try.prog 180 6 = some (6, .one) := by kernel_rfl
theorem fd180_8 : fd Try.prog 180 8 = some (8, .one) := by kernel_rfl
theorem fd180_9 : fd Try.prog 180 9 = some (9, .one) := by kernel_rfl
theorem fd180_10 : fd Try.prog 180 10 = some (10, .one) := by kernel_rfl
theorem td181 : td Try.prog 181 = .agg 11 := by kernel_rfl
theorem fd181_0 : fd Try.prog 181 0 = some (0, .one) := by kernel_rfl
theorem fd181_1 : fd Try.prog 181 1 = some (1, .one) := by kernel_rfl
theorem fd181_2 : fd Try.prog 181 2 = some (2, .one) := by kernel_rfl
theorem fd181_3 : fd Try.prog 181 3 = some (3, .one) := by kernel_rfl
theorem fd181_4 : fd Try.prog 181 4 = some (4, .one) := by kernel_rfl
theorem fd181_5 : fd Try.prog 181 5 = some (5, .one) := by kernel_rfl
theorem fd181_6 : fd Try.prog 181 6 = some (6, .one) := by kernel_rfl
theorem fd181_8 : fd Try.prog 181 8 = some (8, .one) := by kernel_rfl
theorem fd181_9 : fd Try.prog 181 9 = some (9, .one) := by kernel_rfl
theorem fd181_10 : fd Try.prog 181 10 = some (10, .one) := by kernel_rfl
attribute [go_sem] td2 zv2 ik2 ui2 td3 zv3 ik3 ui3 td4 zv4 ub4 td5 zv5 ik5 ui5 td6 zv6 ik6 ui6 td9 zv9 ut9 td10 zv10 ut10 td11 zv11 ut11 td12 zv12 ik12 ui12 td21 zv21 ik21 ui21 td22 zv22 ed22 sd22 ap22 aq22 is22 us22 td23 zv23 ed23 sd23 ap23 aq23 is23 us23 td24 zv24 bf24 fd24_0 fd24_1 td25 zv25 bf25 fd25_0 fd25_1 td29 zv29 bf29 fd29_0 fd29_1 td45 zv45 ed45 sd45 ap45 aq45 is45 us45 td59 zv59 ik59 ui59 td60 zv60 ik60 ui60 td74 zv74 ed74 sd74 ap74 aq74 is74 us74 td75 zv75 bf75 fd75_0 fd75_1 fd75_2 fd75_3 fd75_4 td76 zv76 bf76 fd76_0 fd76_1 fd76_2 fd76_3 fd76_4 td78 zv78 bf78 fd78_0 fd78_1 fd78_2 td79 zv79 bf79 fd79_0 fd79_1 fd79_2 td82 ed82 bf82 td86 zv86 bf86 fd86_0 fd86_1 fd86_2 td87 zv87 bf87 fd87_0 fd87_1 fd87_2 td126 zv126 ik126 ui126 td128 zv128 ik128 ui128 td141 zv141 ik141 ui141 td156 zv156 ik156 ui156 td174 zv174 ik174 ui174 td175 zv175 ik175 ui175 td178 zv178 ik178 ui178 td179 zv179 ik179 ui179 td180 fd180_0 fd180_1 fd180_2 fd180_3 fd180_4 fd180_5 fd180_6 fd180_8 fd180_9 fd180_10 td181 fd181_0 fd181_1 fd181_2 fd181_3 fd181_4 fd181_5 fd181_6 fd181_8 fd181_9 fd181_10
theorem mixed : Try.prog.follows .mixedOrders = true := by kernel_rfl
end Go.Proofs.Ytibomnplkclkmaa
