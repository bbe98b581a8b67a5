/- Facts on the types of the translation: what each comes to, one by one, by the kernel. -/
import Derived.Test.YtgcbdpehnonghaaVc
import Derived.Test.YtgcbdpehnonghaaProg
import Derived.KernelRfl
namespace Go.Proofs.Ytgcbdpehnonghaa
open Go.Vc
theorem td2 : td Try.prog 2 = .one := by kernel_rfl
theorem zv2 : zv Try.prog 2 = some (.int .i64 0) := by kernel_rfl
theorem ik2 : ik Try.prog 2 = some .i64 := by kernel_rfl
theorem ui2 : ((Try.prog.underlying 2).isSome = true) = True := eq_true (by kernel_rfl)
theorem td3 : td Try.prog 3 = .one := by kernel_rfl
theorem zv3 : zv Try.prog 3 = some (.int .i64 0) := by kernel_rfl
theorem ik3 : ik Try.prog 3 = some .i64 := by kernel_rfl
theorem ui3 : ((Try.prog.underlying 3).isSome = true) = True := eq_true (by kernel_rfl)
theorem td4 : td Try.prog 4 = .one := by kernel_rfl
theorem zv4 : zv Try.prog 4 = some (.bool false) := by kernel_rfl
theorem ub4 : (Try.prog.underlying 4 = some TypeDesc.bool) = True := eq_true Try.underlying4
theorem td5 : td Try.prog 5 = .one := by kernel_rfl
theorem zv5 : zv Try.prog 5 = some (.int .u8 0) := by kernel_rfl
theorem ik5 : ik Try.prog 5 = some .u8 := by kernel_rfl
theorem ui5 : ((Try.prog.underlying 5).isSome = true) = True := eq_true (by kernel_rfl)
theorem td6 : td Try.prog 6 = .one := by kernel_rfl
theorem zv6 : zv Try.prog 6 = some (.int .u8 0) := by kernel_rfl
theorem ik6 : ik Try.prog 6 = some .u8 := by kernel_rfl
theorem ui6 : ((Try.prog.underlying 6).isSome = true) = True := eq_true (by kernel_rfl)
theorem td9 : td Try.prog 9 = .one := by kernel_rfl
theorem zv9 : zv Try.prog 9 = some (.string ByteArray.empty) := by kernel_rfl
theorem ut9 : (Try.prog.underlying 9 = some TypeDesc.string) = True := eq_true Try.underlying9
theorem td10 : td Try.prog 10 = .one := by kernel_rfl
theorem zv10 : zv Try.prog 10 = some (.string ByteArray.empty) := by kernel_rfl
theorem ut10 : (Try.prog.underlying 10 = some TypeDesc.string) = True := eq_true Try.underlying10
theorem td11 : td Try.prog 11 = .one := by kernel_rfl
theorem zv11 : zv Try.prog 11 = some (.string ByteArray.empty) := by kernel_rfl
theorem ut11 : (Try.prog.underlying 11 = some TypeDesc.string) = True := eq_true Try.underlying11
theorem td12 : td Try.prog 12 = .one := by kernel_rfl
theorem zv12 : zv Try.prog 12 = some (.int .u64 0) := by kernel_rfl
theorem ik12 : ik Try.prog 12 = some .u64 := by kernel_rfl
theorem ui12 : ((Try.prog.underlying 12).isSome = true) = True := eq_true (by kernel_rfl)
theorem td21 : td Try.prog 21 = .one := by kernel_rfl
theorem zv21 : zv Try.prog 21 = some (.int .i32 0) := by kernel_rfl
theorem ik21 : ik Try.prog 21 = some .i32 := by kernel_rfl
theorem ui21 : ((Try.prog.underlying 21).isSome = true) = True := eq_true (by kernel_rfl)
theorem td22 : td Try.prog 22 = .one := by kernel_rfl
theorem zv22 : zv Try.prog 22 = some (.slice none 0 0) := by kernel_rfl
theorem ed22 : ed Try.prog 22 = some (none, 1) := by kernel_rfl
theorem sd22 : sd Try.prog 22 = some (.int .i64 0) := by kernel_rfl
theorem ap22 : ap Try.prog 22 = some (1, 8) := by kernel_rfl
theorem aq22 : ((ap Try.prog 22).isSome = true) = True := eq_true (by rw [ap22]; rfl)
theorem is22 : isSl Try.prog 22 = True := eq_true ⟨_, Try.underlying22⟩
theorem us22 : (Try.prog.underlying 22 = some (TypeDesc.slice 3)) = True := eq_true Try.underlying22
theorem td23 : td Try.prog 23 = .one := by kernel_rfl
theorem zv23 : zv Try.prog 23 = some (.slice none 0 0) := by kernel_rfl
theorem ed23 : ed Try.prog 23 = some (none, 1) := by kernel_rfl
theorem sd23 : sd Try.prog 23 = some (.slice none 0 0) := by kernel_rfl
theorem ap23 : ap Try.prog 23 = some (1, 24) := by kernel_rfl
theorem aq23 : ((ap Try.prog 23).isSome = true) = True := eq_true (by rw [ap23]; rfl)
theorem is23 : isSl Try.prog 23 = True := eq_true ⟨_, Try.underlying23⟩
theorem us23 : (Try.prog.underlying 23 = some (TypeDesc.slice 22)) = True := eq_true Try.underlying23
theorem td24 : td Try.prog 24 = .agg 2 := by kernel_rfl
theorem zv24 : zv Try.prog 24 = some (.agg ⟨[.slice none 0 0, .slice none 0 0]⟩) := by kernel_rfl
theorem bf24 : flatZ Try.prog 24 = some [.slice none 0 0, .slice none 0 0] := by kernel_rfl
theorem fd24_0 : fd Try.prog 24 0 = some (0, .one) := by kernel_rfl
theorem fd24_1 : fd Try.prog 24 1 = some (1, .one) := by kernel_rfl
theorem td25 : td Try.prog 25 = .agg 2 := by kernel_rfl
theorem zv25 : zv Try.prog 25 = some (.agg ⟨[.slice none 0 0, .slice none 0 0]⟩) := by kernel_rfl
theorem bf25 : flatZ Try.prog 25 = some [.slice none 0 0, .slice none 0 0] := by kernel_rfl
theorem fd25_0 : fd Try.prog 25 0 = some (0, .one) := by kernel_rfl
theorem fd25_1 : fd Try.prog 25 1 = some (1, .one) := by kernel_rfl
theorem td29 : td Try.prog 29 = .agg 2 := by kernel_rfl
theorem zv29 : zv Try.prog 29 = some (.agg ⟨[.slice none 0 0, .slice none 0 0]⟩) := by kernel_rfl
theorem bf29 : flatZ Try.prog 29 = some [.slice none 0 0, .slice none 0 0] := by kernel_rfl
theorem fd29_0 : fd Try.prog 29 0 = some (0, .one) := by kernel_rfl
theorem fd29_1 : fd Try.prog 29 1 = some (1, .one) := by kernel_rfl
theorem td42 : td Try.prog 42 = .agg 3 := by kernel_rfl
theorem zv42 : zv Try.prog 42 = some (.agg ⟨[.int .i64 0, .slice none 0 0, .int .i64 0]⟩) := by kernel_rfl
theorem bf42 : flatZ Try.prog 42 = some [.int .i64 0, .slice none 0 0, .int .i64 0] := by kernel_rfl
theorem fd42_0 : fd Try.prog 42 0 = some (0, .one) := by kernel_rfl
theorem fd42_1 : fd Try.prog 42 1 = some (1, .one) := by kernel_rfl
theorem fd42_2 : fd Try.prog 42 2 = some (2, .one) := by kernel_rfl
theorem td43 : td Try.prog 43 = .agg 3 := by kernel_rfl
theorem zv43 : zv Try.prog 43 = some (.agg ⟨[.int .i64 0, .slice none 0 0, .int .i64 0]⟩) := by kernel_rfl
theorem bf43 : flatZ Try.prog 43 = some [.int .i64 0, .slice none 0 0, .int .i64 0] := by kernel_rfl
theorem fd43_0 : fd Try.prog 43 0 = some (0, .one) := by kernel_rfl
theorem fd43_1 : fd Try.prog 43 1 = some (1, .one) := by kernel_rfl
theorem fd43_2 : fd Try.prog 43 2 = some (2, .one) := by kernel_rfl
theorem td50 : td Try.prog 50 = .one := by kernel_rfl
theorem zv50 : zv Try.prog 50 = some (.int .u64 0) := by kernel_rfl
theorem ik50 : ik Try.prog 50 = some .u64 := by kernel_rfl
theorem ui50 : ((Try.prog.underlying 50).isSome = true) = True := eq_true (by kernel_rfl)
theorem td51 : td Try.prog 51 = .one := by kernel_rfl
theorem zv51 : zv Try.prog 51 = some (.int .u64 0) := by kernel_rfl
theorem ik51 : ik Try.prog 51 = some .u64 := by kernel_rfl
theorem ui51 : ((Try.prog.underlying 51).isSome = true) = True := eq_true (by kernel_rfl)
theorem td84 : td Try.prog 84 = .one := by kernel_rfl
theorem zv84 : zv Try.prog 84 = some (.int .i64 0) := by kernel_rfl
theorem ik84 : ik Try.prog 84 = some .i64 := by kernel_rfl
theorem ui84 : ((Try.prog.underlying 84).isSome = true) = True := eq_true (by kernel_rfl)
theorem td92 : td Try.prog 92 = .one := by kernel_rfl
theorem zv92 : zv Try.prog 92 = some (.int .u32 0) := by kernel_rfl
theorem ik92 : ik Try.prog 92 = some .u32 := by kernel_rfl
theorem ui92 : ((Try.prog.underlying 92).isSome = true) = True := eq_true (by kernel_rfl)
theorem td94 : td Try.prog 94 = .one := by kernel_rfl
theorem zv94 : zv Try.prog 94 = some (.int .u64 0) := by kernel_rfl
theorem ik94 : ik Try.prog 94 = some .u64 := by kernel_rfl
theorem ui94 : ((Try.prog.underlying 94).isSome = true) = True := eq_true (by kernel_rfl)
theorem td95 : td Try.prog 95 = .one := by kernel_rfl
theorem zv95 : zv Try.prog 95 = some (.int .u64 0) := by kernel_rfl
theorem ik95 : ik Try.prog 95 = some .u64 := by kernel_rfl
theorem ui95 : ((Try.prog.underlying 95).isSome = true) = True := eq_true (by kernel_rfl)
theorem td111 : td Try.prog 111 = .one := by kernel_rfl
theorem zv111 : zv Try.prog 111 = some (.int .u8 0) := by kernel_rfl
theorem ik111 : ik Try.prog 111 = some .u8 := by kernel_rfl
theorem ui111 : ((Try.prog.underlying 111).isSome = true) = True := eq_true (by kernel_rfl)
theorem td112 : td Try.prog 112 = .one := by kernel_rfl
theorem zv112 : zv Try.prog 112 = some (.int .u8 0) := by kernel_rfl
theorem ik112 : ik Try.prog 112 = some .u8 := by kernel_rfl
theorem ui112 : ((Try.prog.underlying 112).isSome = true) = True := eq_true (by kernel_rfl)
theorem td115 : td Try.prog 115 = .one := by kernel_rfl
theorem zv115 : zv Try.prog 115 = some (.int .i32 0) := by kernel_rfl
theorem ik115 : ik Try.prog 115 = some .i32 := by kernel_rfl
theorem ui115 : ((Try.prog.underlying 115).isSome = true) = True := eq_true (by kernel_rfl)
theorem td116 : td Try.prog 116 = .one := by kernel_rfl
theorem zv116 : zv Try.prog 116 = some (.int .i32 0) := by kernel_rfl
theorem ik116 : ik Try.prog 116 = some .i32 := by kernel_rfl
theorem ui116 : ((Try.prog.underlying 116).isSome = true) = True := eq_true (by kernel_rfl)
theorem td117 : td Try.prog 117 = .agg 11 := by kernel_rfl
theorem fd117_0 : fd Try.prog 117 0 = some (0, .one) := by kernel_rfl
theorem fd117_1 : fd Try.prog 117 1 = some (1, .one) := by kernel_rfl
theorem fd117_2 : fd Try.prog 117 2 = some (2, .one) := by kernel_rfl
theorem fd117_3 : fd Try.prog 117 3 = some (3, .one) := by kernel_rfl
theorem fd117_4 : fd Try.prog 117 4 = some (4, .one) := by kernel_rfl
theorem fd117_5 : fd Try.prog 117 5 = some (5, .one) := by kernel_rfl
theorem fd117_6 : fd Try.prog 117 6 = some (6, .one) := by kernel_rfl
theorem fd117_8 : fd Try.prog 117 8 = some (8, .one) := by kernel_rfl
theorem fd117_9 : fd Try.prog 117 9 = some (9, .one) := by kernel_rfl
theorem fd117_10 : fd Try.prog 117 10 = some (10, .one) := by kernel_rfl
theorem td118 : td Try.prog 118 = .agg 11 := by kernel_rfl
theorem fd118_0 : fd Try.prog 118 0 = some (0, .one) := by kernel_rfl
theorem fd118_1 : fd Try.prog 118 1 = some (1, .one) := by kernel_rfl
theorem fd118_2 : fd Try.prog 118 2 = some (2, .one) := by kernel_rfl
theorem fd118_3 : fd Try.prog 118 3 = some (3, .one) := by kernel_rfl
theorem fd118_4 : fd Try.prog 118 4 = some (4, .one) := by kernel_rfl
theorem fd118_5 : fd Try.prog 118 5 = some (5, .one) := by kernel_rfl
theorem fd118_6 : fd Try.prog 118 6 = some (6, .one) := by kernel_rfl
theorem fd118_8 : fd Try.prog 118 8 = some (8, .one) := by kernel_rfl
theorem fd118_9 : fd Try.prog 118 9 = some (9, .one) := by kernel_rfl
theorem fd118_10 : fd Try.prog 118 10 = some (10, .one) := by kernel_rfl
attribute [go_sem] td2 zv2 ik2 ui2 td3 zv3 ik3 ui3 td4 zv4 ub4 td5 zv5 ik5 ui5 td6 zv6 ik6 ui6 td9 zv9 ut9 td10 zv10 ut10 td11 zv11 ut11 td12 zv12 ik12 ui12 td21 zv21 ik21 ui21 td22 zv22 ed22 sd22 ap22 aq22 is22 us22 td23 zv23 ed23 sd23 ap23 aq23 is23 us23 td24 zv24 bf24 fd24_0 fd24_1 td25 zv25 bf25 fd25_0 fd25_1 td29 zv29 bf29 fd29_0 fd29_1 td42 zv42 bf42 fd42_0 fd42_1 fd42_2 td43 zv43 bf43 fd43_0 fd43_1 fd43_2 td50 zv50 ik50 ui50 td51 zv51 ik51 ui51 td84 zv84 ik84 ui84 td92 zv92 ik92 ui92 td94 zv94 ik94 ui94 td95 zv95 ik95 ui95 td111 zv111 ik111 ui111 td112 zv112 ik112 ui112 td115 zv115 ik115 ui115 td116 zv116 ik116 ui116 td117 fd117_0 fd117_1 fd117_2 fd117_3 fd117_4 fd117_5 fd117_6 fd117_8 fd117_9 fd117_10 td118 fd118_0 fd118_1 fd118_2 fd118_3 fd118_4 fd118_5 fd118_6 fd118_8 fd118_9 fd118_10
theorem mixed : Try.prog.follows .mixedOrders = true := by kernel_rfl
end Go.Proofs.Ytgcbdpehnonghaa
