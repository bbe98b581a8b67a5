/- Facts on the types of the translation: what each comes to, one by one, by the kernel. -/
import Derived.Test.YtkjfmabadpfgaaaDoorVc
import Derived.Test.YtkjfmabadpfgaaaDoorProg
import Derived.KernelRfl
namespace Go.Proofs.YtkjfmabadpfgaaaDoor
open Go.Vc
theorem td2 : td Tryd.prog 2 = .one := by kernel_rfl
theorem zv2 : zv Tryd.prog 2 = some (.int .i64 0) := by kernel_rfl
theorem ik2 : ik Tryd.prog 2 = some .i64 := by kernel_rfl
theorem ui2 : ((Tryd.prog.underlying 2).isSome = true) = True := eq_true (by kernel_rfl)
theorem td3 : td Tryd.prog 3 = .one := by kernel_rfl
theorem zv3 : zv Tryd.prog 3 = some (.int .i64 0) := by kernel_rfl
theorem ik3 : ik Tryd.prog 3 = some .i64 := by kernel_rfl
theorem ui3 : ((Tryd.prog.underlying 3).isSome = true) = True := eq_true (by kernel_rfl)
theorem td4 : td Tryd.prog 4 = .one := by kernel_rfl
theorem zv4 : zv Tryd.prog 4 = some (.bool false) := by kernel_rfl
theorem ub4 : (Tryd.prog.underlying 4 = some TypeDesc.bool) = True := eq_true Tryd.underlying4
theorem td5 : td Tryd.prog 5 = .one := by kernel_rfl
theorem zv5 : zv Tryd.prog 5 = some (.int .u8 0) := by kernel_rfl
theorem ik5 : ik Tryd.prog 5 = some .u8 := by kernel_rfl
theorem ui5 : ((Tryd.prog.underlying 5).isSome = true) = True := eq_true (by kernel_rfl)
theorem td6 : td Tryd.prog 6 = .one := by kernel_rfl
theorem zv6 : zv Tryd.prog 6 = some (.int .u8 0) := by kernel_rfl
theorem ik6 : ik Tryd.prog 6 = some .u8 := by kernel_rfl
theorem ui6 : ((Tryd.prog.underlying 6).isSome = true) = True := eq_true (by kernel_rfl)
theorem td9 : td Tryd.prog 9 = .one := by kernel_rfl
theorem zv9 : zv Tryd.prog 9 = some (.string ByteArray.empty) := by kernel_rfl
theorem ut9 : (Tryd.prog.underlying 9 = some TypeDesc.string) = True := eq_true Tryd.underlying9
theorem td10 : td Tryd.prog 10 = .one := by kernel_rfl
theorem zv10 : zv Tryd.prog 10 = some (.string ByteArray.empty) := by kernel_rfl
theorem ut10 : (Tryd.prog.underlying 10 = some TypeDesc.string) = True := eq_true Tryd.underlying10
theorem td11 : td Tryd.prog 11 = .one := by kernel_rfl
theorem zv11 : zv Tryd.prog 11 = some (.string ByteArray.empty) := by kernel_rfl
theorem ut11 : (Tryd.prog.underlying 11 = some TypeDesc.string) = True := eq_true Tryd.underlying11
theorem td12 : td Tryd.prog 12 = .one := by kernel_rfl
theorem zv12 : zv Tryd.prog 12 = some (.int .u64 0) := by kernel_rfl
theorem ik12 : ik Tryd.prog 12 = some .u64 := by kernel_rfl
theorem ui12 : ((Tryd.prog.underlying 12).isSome = true) = True := eq_true (by kernel_rfl)
theorem td21 : td Tryd.prog 21 = .one := by kernel_rfl
theorem zv21 : zv Tryd.prog 21 = some (.int .i32 0) := by kernel_rfl
theorem ik21 : ik Tryd.prog 21 = some .i32 := by kernel_rfl
theorem ui21 : ((Tryd.prog.underlying 21).isSome = true) = True := eq_true (by kernel_rfl)
theorem td22 : td Tryd.prog 22 = .one := by kernel_rfl
theorem zv22 : zv Tryd.prog 22 = some (.slice none 0 0) := by kernel_rfl
theorem ed22 : ed Tryd.prog 22 = some (none, 1) := by kernel_rfl
theorem sd22 : sd Tryd.prog 22 = some (.int .u8 0) := by kernel_rfl
theorem ap22 : ap Tryd.prog 22 = some (1, 1) := by kernel_rfl
theorem aq22 : ((ap Tryd.prog 22).isSome = true) = True := eq_true (by rw [ap22]; rfl)
theorem is22 : isSl Tryd.prog 22 = True := eq_true ⟨_, Tryd.underlying22⟩
theorem us22 : (Tryd.prog.underlying 22 = some (TypeDesc.slice 5)) = True := eq_true Tryd.underlying22
theorem td26 : td Tryd.prog 26 = .one := by kernel_rfl
theorem zv26 : zv Tryd.prog 26 = some (.slice none 0 0) := by kernel_rfl
theorem ed26 : ed Tryd.prog 26 = some (none, 1) := by kernel_rfl
theorem sd26 : sd Tryd.prog 26 = some (.string ByteArray.empty) := by kernel_rfl
theorem ap26 : ap Tryd.prog 26 = some (1, 16) := by kernel_rfl
theorem aq26 : ((ap Tryd.prog 26).isSome = true) = True := eq_true (by rw [ap26]; rfl)
theorem is26 : isSl Tryd.prog 26 = True := eq_true ⟨_, Tryd.underlying26⟩
theorem us26 : (Tryd.prog.underlying 26 = some (TypeDesc.slice 9)) = True := eq_true Tryd.underlying26
theorem td42 : td Tryd.prog 42 = .one := by kernel_rfl
theorem zv42 : zv Tryd.prog 42 = some (.int .u64 0) := by kernel_rfl
theorem ik42 : ik Tryd.prog 42 = some .u64 := by kernel_rfl
theorem ui42 : ((Tryd.prog.underlying 42).isSome = true) = True := eq_true (by kernel_rfl)
theorem td43 : td Tryd.prog 43 = .agg 3 := by kernel_rfl
theorem zv43 : zv Tryd.prog 43 = some (.agg ⟨[.slice none 0 0, .int .i64 0, .int .u64 0]⟩) := by kernel_rfl
theorem bf43 : flatZ Tryd.prog 43 = some [.slice none 0 0, .int .i64 0, .int .u64 0] := by kernel_rfl
theorem fd43_0 : fd Tryd.prog 43 0 = some (0, .one) := by kernel_rfl
theorem fd43_1 : fd Tryd.prog 43 1 = some (1, .one) := by kernel_rfl
theorem fd43_2 : fd Tryd.prog 43 2 = some (2, .one) := by kernel_rfl
theorem td44 : td Tryd.prog 44 = .agg 3 := by kernel_rfl
theorem zv44 : zv Tryd.prog 44 = some (.agg ⟨[.slice none 0 0, .int .i64 0, .int .u64 0]⟩) := by kernel_rfl
theorem bf44 : flatZ Tryd.prog 44 = some [.slice none 0 0, .int .i64 0, .int .u64 0] := by kernel_rfl
theorem fd44_0 : fd Tryd.prog 44 0 = some (0, .one) := by kernel_rfl
theorem fd44_1 : fd Tryd.prog 44 1 = some (1, .one) := by kernel_rfl
theorem fd44_2 : fd Tryd.prog 44 2 = some (2, .one) := by kernel_rfl
theorem td55 : td Tryd.prog 55 = .one := by kernel_rfl
theorem zv55 : zv Tryd.prog 55 = some (.slice none 0 0) := by kernel_rfl
theorem ed55 : ed Tryd.prog 55 = some (none, 1) := by kernel_rfl
theorem sd55 : sd Tryd.prog 55 = some (.int .i64 0) := by kernel_rfl
theorem ap55 : ap Tryd.prog 55 = some (1, 8) := by kernel_rfl
theorem aq55 : ((ap Tryd.prog 55).isSome = true) = True := eq_true (by rw [ap55]; rfl)
theorem is55 : isSl Tryd.prog 55 = True := eq_true ⟨_, Tryd.underlying55⟩
theorem us55 : (Tryd.prog.underlying 55 = some (TypeDesc.slice 3)) = True := eq_true Tryd.underlying55
theorem td71 : td Tryd.prog 71 = .agg 2 := by kernel_rfl
theorem fd71_0 : fd Tryd.prog 71 0 = some (0, .one) := by kernel_rfl
theorem fd71_1 : fd Tryd.prog 71 1 = some (1, .one) := by kernel_rfl
theorem td72 : td Tryd.prog 72 = .agg 2 := by kernel_rfl
theorem fd72_0 : fd Tryd.prog 72 0 = some (0, .one) := by kernel_rfl
theorem fd72_1 : fd Tryd.prog 72 1 = some (1, .one) := by kernel_rfl
theorem td76 : td Tryd.prog 76 = .one := by kernel_rfl
theorem zv76 : zv Tryd.prog 76 = some (.int .u64 0) := by kernel_rfl
theorem ik76 : ik Tryd.prog 76 = some .u64 := by kernel_rfl
theorem ui76 : ((Tryd.prog.underlying 76).isSome = true) = True := eq_true (by kernel_rfl)
theorem td79 : td Tryd.prog 79 = .one := by kernel_rfl
theorem zv79 : zv Tryd.prog 79 = some (.int .i64 0) := by kernel_rfl
theorem ik79 : ik Tryd.prog 79 = some .i64 := by kernel_rfl
theorem ui79 : ((Tryd.prog.underlying 79).isSome = true) = True := eq_true (by kernel_rfl)
theorem td91 : td Tryd.prog 91 = .agg 24 := by kernel_rfl
theorem ed91 : ed Tryd.prog 91 = some (some 24, 1) := by kernel_rfl
theorem td98 : td Tryd.prog 98 = .agg 3 := by kernel_rfl
theorem fd98_0 : fd Tryd.prog 98 0 = some (0, .one) := by kernel_rfl
theorem fd98_1 : fd Tryd.prog 98 1 = some (1, .one) := by kernel_rfl
theorem fd98_2 : fd Tryd.prog 98 2 = some (2, .one) := by kernel_rfl
theorem td99 : td Tryd.prog 99 = .agg 3 := by kernel_rfl
theorem fd99_0 : fd Tryd.prog 99 0 = some (0, .one) := by kernel_rfl
theorem fd99_1 : fd Tryd.prog 99 1 = some (1, .one) := by kernel_rfl
theorem fd99_2 : fd Tryd.prog 99 2 = some (2, .one) := by kernel_rfl
theorem td101 : td Tryd.prog 101 = .one := by kernel_rfl
theorem zv101 : zv Tryd.prog 101 = some (.int .u32 0) := by kernel_rfl
theorem ik101 : ik Tryd.prog 101 = some .u32 := by kernel_rfl
theorem ui101 : ((Tryd.prog.underlying 101).isSome = true) = True := eq_true (by kernel_rfl)
theorem td105 : td Tryd.prog 105 = .agg 20 := by kernel_rfl
theorem ed105 : ed Tryd.prog 105 = some (some 20, 1) := by kernel_rfl
theorem td106 : td Tryd.prog 106 = .agg 65 := by kernel_rfl
theorem ed106 : ed Tryd.prog 106 = some (some 65, 1) := by kernel_rfl
theorem td110 : td Tryd.prog 110 = .agg 1 := by kernel_rfl
theorem zv110 : zv Tryd.prog 110 = some (.agg ⟨[.string ByteArray.empty]⟩) := by kernel_rfl
theorem bf110 : flatZ Tryd.prog 110 = some [.string ByteArray.empty] := by kernel_rfl
theorem fd110_0 : fd Tryd.prog 110 0 = some (0, .one) := by kernel_rfl
theorem td111 : td Tryd.prog 111 = .agg 1 := by kernel_rfl
theorem zv111 : zv Tryd.prog 111 = some (.agg ⟨[.string ByteArray.empty]⟩) := by kernel_rfl
theorem bf111 : flatZ Tryd.prog 111 = some [.string ByteArray.empty] := by kernel_rfl
theorem fd111_0 : fd Tryd.prog 111 0 = some (0, .one) := by kernel_rfl
theorem td112 : td Tryd.prog 112 = .agg 256 := by kernel_rfl
theorem ed112 : ed Tryd.prog 112 = some (some 256, 1) := by kernel_rfl
theorem td113 : td Tryd.prog 113 = .agg 2 := by kernel_rfl
theorem zv113 : zv Tryd.prog 113 = some (.agg ⟨[.int .u8 0, .int .u8 0]⟩) := by kernel_rfl
theorem bf113 : flatZ Tryd.prog 113 = some [.int .u8 0, .int .u8 0] := by kernel_rfl
theorem fd113_0 : fd Tryd.prog 113 0 = some (0, .one) := by kernel_rfl
theorem fd113_1 : fd Tryd.prog 113 1 = some (1, .one) := by kernel_rfl
theorem td114 : td Tryd.prog 114 = .agg 2 := by kernel_rfl
theorem zv114 : zv Tryd.prog 114 = some (.agg ⟨[.int .u8 0, .int .u8 0]⟩) := by kernel_rfl
theorem bf114 : flatZ Tryd.prog 114 = some [.int .u8 0, .int .u8 0] := by kernel_rfl
theorem fd114_0 : fd Tryd.prog 114 0 = some (0, .one) := by kernel_rfl
theorem fd114_1 : fd Tryd.prog 114 1 = some (1, .one) := by kernel_rfl
theorem td115 : td Tryd.prog 115 = .agg 32 := by kernel_rfl
theorem ed115 : ed Tryd.prog 115 = some (some 16, 2) := by kernel_rfl
theorem td117 : td Tryd.prog 117 = .agg 32 := by kernel_rfl
theorem ed117 : ed Tryd.prog 117 = some (some 32, 1) := by kernel_rfl
theorem td118 : td Tryd.prog 118 = .agg 64 := by kernel_rfl
theorem ed118 : ed Tryd.prog 118 = some (some 64, 1) := by kernel_rfl
theorem td124 : td Tryd.prog 124 = .one := by kernel_rfl
theorem zv124 : zv Tryd.prog 124 = some (.int .u8 0) := by kernel_rfl
theorem ik124 : ik Tryd.prog 124 = some .u8 := by kernel_rfl
theorem ui124 : ((Tryd.prog.underlying 124).isSome = true) = True := eq_true (by kernel_rfl)
theorem td125 : td Tryd.prog 125 = .one := by kernel_rfl
theorem zv125 : zv Tryd.prog 125 = some (.int .u8 0) := by kernel_rfl
theorem ik125 : ik Tryd.prog 125 = some .u8 := by kernel_rfl
theorem ui125 : ((Tryd.prog.underlying 125).isSome = true) = True := eq_true (by kernel_rfl)
theorem td127 : td Tryd.prog 127 = .one := by kernel_rfl
theorem zv127 : zv Tryd.prog 127 = some (.int .i32 0) := by kernel_rfl
theorem ik127 : ik Tryd.prog 127 = some .i32 := by kernel_rfl
theorem ui127 : ((Tryd.prog.underlying 127).isSome = true) = True := eq_true (by kernel_rfl)
theorem td128 : td Tryd.prog 128 = .one := by kernel_rfl
theorem zv128 : zv Tryd.prog 128 = some (.int .i32 0) := by kernel_rfl
theorem ik128 : ik Tryd.prog 128 = some .i32 := by kernel_rfl
theorem ui128 : ((Tryd.prog.underlying 128).isSome = true) = True := eq_true (by kernel_rfl)
theorem td129 : td Tryd.prog 129 = .agg 11 := by kernel_rfl
theorem fd129_0 : fd Tryd.prog 129 0 = some (0, .one) := by kernel_rfl
theorem fd129_1 : fd Tryd.prog 129 1 = some (1, .one) := by kernel_rfl
theorem fd129_2 : fd Tryd.prog 129 2 = some (2, .one) := by kernel_rfl
theorem fd129_3 : fd Tryd.prog 129 3 = some (3, .one) := by kernel_rfl
theorem fd129_4 : fd Tryd.prog 129 4 = some (4, .one) := by kernel_rfl
theorem fd129_5 : fd Tryd.prog 129 5 = some (5, .one) := by kernel_rfl
theorem fd129_6 : fd Tryd.prog 129 6 = some (6, .one) := by kernel_rfl
theorem fd129_8 : fd Tryd.prog 129 8 = some (8, .one) := by kernel_rfl
theorem fd129_9 : fd Tryd.prog 129 9 = some (9, .one) := by kernel_rfl
theorem fd129_10 : fd Tryd.prog 129 10 = some (10, .one) := by kernel_rfl
theorem td130 : td Tryd.prog 130 = .agg 11 := by kernel_rfl
theorem fd130_0 : fd Tryd.prog 130 0 = some (0, .one) := by kernel_rfl
theorem fd130_1 : fd Tryd.prog 130 1 = some (1, .one) := by kernel_rfl
theorem fd130_2 : fd Tryd.prog 130 2 = some (2, .one) := by kernel_rfl
theorem fd130_3 : fd Tryd.prog 130 3 = some (3, .one) := by kernel_rfl
theorem fd130_4 : fd Tryd.prog 130 4 = some (4, .one) := by kernel_rfl
theorem fd130_5 : fd Tryd.prog 130 5 = some (5, .one) := by kernel_rfl
theorem fd130_6 : fd Tryd.prog 130 6 = some (6, .one) := by kernel_rfl
theorem fd130_8 : fd Tryd.prog 130 8 = some (8, .one) := by kernel_rfl
theorem fd130_9 : fd Tryd.prog 130 9 = some (9, .one) := by kernel_rfl
theorem fd130_10 : fd Tryd.prog 130 10 = some (10, .one) := by kernel_rfl
theorem bt22_9 : bytesT Tryd.prog 22 9 = True := eq_true ⟨⟨5, by kernel_rfl, by kernel_rfl⟩, by kernel_rfl⟩
theorem bt22_10 : bytesT Tryd.prog 22 10 = True := eq_true ⟨⟨5, by kernel_rfl, by kernel_rfl⟩, by kernel_rfl⟩
theorem bt22_11 : bytesT Tryd.prog 22 11 = True := eq_true ⟨⟨5, by kernel_rfl, by kernel_rfl⟩, by kernel_rfl⟩
attribute [go_sem] td2 zv2 ik2 ui2 td3 zv3 ik3 ui3 td4 zv4 ub4 td5 zv5 ik5 ui5 td6 zv6 ik6 ui6 td9 zv9 ut9 td10 zv10 ut10 td11 zv11 ut11 td12 zv12 ik12 ui12 td21 zv21 ik21 ui21 td22 zv22 ed22 sd22 ap22 aq22 is22 us22 td26 zv26 ed26 sd26 ap26 aq26 is26 us26 td42 zv42 ik42 ui42 td43 zv43 bf43 fd43_0 fd43_1 fd43_2 td44 zv44 bf44 fd44_0 fd44_1 fd44_2 td55 zv55 ed55 sd55 ap55 aq55 is55 us55 td71 fd71_0 fd71_1 td72 fd72_0 fd72_1 td76 zv76 ik76 ui76 td79 zv79 ik79 ui79 td91 ed91 td98 fd98_0 fd98_1 fd98_2 td99 fd99_0 fd99_1 fd99_2 td101 zv101 ik101 ui101 td105 ed105 td106 ed106 td110 zv110 bf110 fd110_0 td111 zv111 bf111 fd111_0 td112 ed112 td113 zv113 bf113 fd113_0 fd113_1 td114 zv114 bf114 fd114_0 fd114_1 td115 ed115 td117 ed117 td118 ed118 td124 zv124 ik124 ui124 td125 zv125 ik125 ui125 td127 zv127 ik127 ui127 td128 zv128 ik128 ui128 td129 fd129_0 fd129_1 fd129_2 fd129_3 fd129_4 fd129_5 fd129_6 fd129_8 fd129_9 fd129_10 td130 fd130_0 fd130_1 fd130_2 fd130_3 fd130_4 fd130_5 fd130_6 fd130_8 fd130_9 fd130_10 bt22_9 bt22_10 bt22_11
theorem mixed : Tryd.prog.follows .mixedOrders = true := by kernel_rfl
end Go.Proofs.YtkjfmabadpfgaaaDoor
