/- Facts on the types of the translation: what each comes to, one by one, by the kernel. -/
import Derived.Test.YteefjdbdknkcjaaGreatVc
import Derived.Test.YteefjdbdknkcjaaGreatProg
import Derived.KernelRfl
namespace Go.Proofs.YteefjdbdknkcjaaGreat
open Go.Vc
theorem td2 : td Tryz.prog 2 = .one := by kernel_rfl
theorem zv2 : zv Tryz.prog 2 = some (.int .i64 0) := by kernel_rfl
theorem ik2 : ik Tryz.prog 2 = some .i64 := by kernel_rfl
theorem ui2 : ((Tryz.prog.underlying 2).isSome = true) = True := eq_true (by kernel_rfl)
theorem td3 : td Tryz.prog 3 = .one := by kernel_rfl
theorem zv3 : zv Tryz.prog 3 = some (.int .i64 0) := by kernel_rfl
theorem ik3 : ik Tryz.prog 3 = some .i64 := by kernel_rfl
theorem ui3 : ((Tryz.prog.underlying 3).isSome = true) = True := eq_true (by kernel_rfl)
theorem td4 : td Tryz.prog 4 = .one := by kernel_rfl
theorem zv4 : zv Tryz.prog 4 = some (.bool false) := by kernel_rfl
theorem ub4 : (Tryz.prog.underlying 4 = some TypeDesc.bool) = True := eq_true Tryz.underlying4
theorem td5 : td Tryz.prog 5 = .one := by kernel_rfl
theorem zv5 : zv Tryz.prog 5 = some (.int .u8 0) := by kernel_rfl
theorem ik5 : ik Tryz.prog 5 = some .u8 := by kernel_rfl
theorem ui5 : ((Tryz.prog.underlying 5).isSome = true) = True := eq_true (by kernel_rfl)
theorem td6 : td Tryz.prog 6 = .one := by kernel_rfl
theorem zv6 : zv Tryz.prog 6 = some (.int .u8 0) := by kernel_rfl
theorem ik6 : ik Tryz.prog 6 = some .u8 := by kernel_rfl
theorem ui6 : ((Tryz.prog.underlying 6).isSome = true) = True := eq_true (by kernel_rfl)
theorem td9 : td Tryz.prog 9 = .one := by kernel_rfl
theorem zv9 : zv Tryz.prog 9 = some (.string ByteArray.empty) := by kernel_rfl
theorem ut9 : (Tryz.prog.underlying 9 = some TypeDesc.string) = True := eq_true Tryz.underlying9
theorem td10 : td Tryz.prog 10 = .one := by kernel_rfl
theorem zv10 : zv Tryz.prog 10 = some (.string ByteArray.empty) := by kernel_rfl
theorem ut10 : (Tryz.prog.underlying 10 = some TypeDesc.string) = True := eq_true Tryz.underlying10
theorem td11 : td Tryz.prog 11 = .one := by kernel_rfl
theorem zv11 : zv Tryz.prog 11 = some (.string ByteArray.empty) := by kernel_rfl
theorem ut11 : (Tryz.prog.underlying 11 = some TypeDesc.string) = True := eq_true Tryz.underlying11
theorem td12 : td Tryz.prog 12 = .one := by kernel_rfl
theorem zv12 : zv Tryz.prog 12 = some (.int .u64 0) := by kernel_rfl
theorem ik12 : ik Tryz.prog 12 = some .u64 := by kernel_rfl
theorem ui12 : ((Tryz.prog.underlying 12).isSome = true) = True := eq_true (by kernel_rfl)
theorem td21 : td Tryz.prog 21 = .one := by kernel_rfl
theorem zv21 : zv Tryz.prog 21 = some (.int .i32 0) := by kernel_rfl
theorem ik21 : ik Tryz.prog 21 = some .i32 := by kernel_rfl
theorem ui21 : ((Tryz.prog.underlying 21).isSome = true) = True := eq_true (by kernel_rfl)
theorem td22 : td Tryz.prog 22 = .one := by kernel_rfl
theorem zv22 : zv Tryz.prog 22 = some (.slice none 0 0) := by kernel_rfl
theorem ed22 : ed Tryz.prog 22 = some (none, 1) := by kernel_rfl
theorem sd22 : sd Tryz.prog 22 = some (.int .u8 0) := by kernel_rfl
theorem ap22 : ap Tryz.prog 22 = some (1, 1) := by kernel_rfl
theorem aq22 : ((ap Tryz.prog 22).isSome = true) = True := eq_true (by rw [ap22]; rfl)
theorem is22 : isSl Tryz.prog 22 = True := eq_true ⟨_, Tryz.underlying22⟩
theorem us22 : (Tryz.prog.underlying 22 = some (TypeDesc.slice 5)) = True := eq_true Tryz.underlying22
theorem td24 : td Tryz.prog 24 = .one := by kernel_rfl
theorem zv24 : zv Tryz.prog 24 = some (.slice none 0 0) := by kernel_rfl
theorem ed24 : ed Tryz.prog 24 = some (none, 1) := by kernel_rfl
theorem sd24 : sd Tryz.prog 24 = some (.int .i64 0) := by kernel_rfl
theorem ap24 : ap Tryz.prog 24 = some (1, 8) := by kernel_rfl
theorem aq24 : ((ap Tryz.prog 24).isSome = true) = True := eq_true (by rw [ap24]; rfl)
theorem is24 : isSl Tryz.prog 24 = True := eq_true ⟨_, Tryz.underlying24⟩
theorem us24 : (Tryz.prog.underlying 24 = some (TypeDesc.slice 3)) = True := eq_true Tryz.underlying24
theorem td25 : td Tryz.prog 25 = .one := by kernel_rfl
theorem zv25 : zv Tryz.prog 25 = some (.slice none 0 0) := by kernel_rfl
theorem ed25 : ed Tryz.prog 25 = some (none, 1) := by kernel_rfl
theorem sd25 : sd Tryz.prog 25 = some (.slice none 0 0) := by kernel_rfl
theorem ap25 : ap Tryz.prog 25 = some (1, 24) := by kernel_rfl
theorem aq25 : ((ap Tryz.prog 25).isSome = true) = True := eq_true (by rw [ap25]; rfl)
theorem is25 : isSl Tryz.prog 25 = True := eq_true ⟨_, Tryz.underlying25⟩
theorem us25 : (Tryz.prog.underlying 25 = some (TypeDesc.slice 24)) = True := eq_true Tryz.underlying25
theorem td26 : td Tryz.prog 26 = .agg 2 := by kernel_rfl
theorem zv26 : zv Tryz.prog 26 = some (.agg ⟨[.slice none 0 0, .slice none 0 0]⟩) := by kernel_rfl
theorem bf26 : flatZ Tryz.prog 26 = some [.slice none 0 0, .slice none 0 0] := by kernel_rfl
theorem fd26_0 : fd Tryz.prog 26 0 = some (0, .one) := by kernel_rfl
theorem fd26_1 : fd Tryz.prog 26 1 = some (1, .one) := by kernel_rfl
theorem td27 : td Tryz.prog 27 = .agg 2 := by kernel_rfl
theorem zv27 : zv Tryz.prog 27 = some (.agg ⟨[.slice none 0 0, .slice none 0 0]⟩) := by kernel_rfl
theorem bf27 : flatZ Tryz.prog 27 = some [.slice none 0 0, .slice none 0 0] := by kernel_rfl
theorem fd27_0 : fd Tryz.prog 27 0 = some (0, .one) := by kernel_rfl
theorem fd27_1 : fd Tryz.prog 27 1 = some (1, .one) := by kernel_rfl
theorem td31 : td Tryz.prog 31 = .one := by kernel_rfl
theorem zv31 : zv Tryz.prog 31 = some (.slice none 0 0) := by kernel_rfl
theorem ed31 : ed Tryz.prog 31 = some (none, 2) := by kernel_rfl
theorem sd31 : sd Tryz.prog 31 = some (.agg ⟨[.int .i64 0, .int .i64 0]⟩) := by kernel_rfl
theorem ap31 : ap Tryz.prog 31 = some (2, 16) := by kernel_rfl
theorem aq31 : ((ap Tryz.prog 31).isSome = true) = True := eq_true (by rw [ap31]; rfl)
theorem is31 : isSl Tryz.prog 31 = True := eq_true ⟨_, Tryz.underlying31⟩
theorem us31 : (Tryz.prog.underlying 31 = some (TypeDesc.slice 37)) = True := eq_true Tryz.underlying31
theorem td37 : td Tryz.prog 37 = .agg 2 := by kernel_rfl
theorem ed37 : ed Tryz.prog 37 = some (some 2, 1) := by kernel_rfl
theorem bf37 : flatZ Tryz.prog 37 = some [.int .i64 0, .int .i64 0] := by kernel_rfl
theorem pt37 : pairT Tryz.prog 37 = True := eq_true ⟨3, by kernel_rfl, by kernel_rfl, by kernel_rfl, by kernel_rfl, by kernel_rfl, by kernel_rfl⟩
theorem td55 : td Tryz.prog 55 = .one := by kernel_rfl
theorem zv55 : zv Tryz.prog 55 = some (.int .u64 0) := by kernel_rfl
theorem ik55 : ik Tryz.prog 55 = some .u64 := by kernel_rfl
theorem ui55 : ((Tryz.prog.underlying 55).isSome = true) = True := eq_true (by kernel_rfl)
theorem td56 : td Tryz.prog 56 = .agg 3 := by kernel_rfl
theorem zv56 : zv Tryz.prog 56 = some (.agg ⟨[.slice none 0 0, .int .i64 0, .int .u64 0]⟩) := by kernel_rfl
theorem bf56 : flatZ Tryz.prog 56 = some [.slice none 0 0, .int .i64 0, .int .u64 0] := by kernel_rfl
theorem fd56_0 : fd Tryz.prog 56 0 = some (0, .one) := by kernel_rfl
theorem fd56_1 : fd Tryz.prog 56 1 = some (1, .one) := by kernel_rfl
theorem fd56_2 : fd Tryz.prog 56 2 = some (2, .one) := by kernel_rfl
theorem td57 : td Tryz.prog 57 = .agg 3 := by kernel_rfl
theorem zv57 : zv Tryz.prog 57 = some (.agg ⟨[.slice none 0 0, .int .i64 0, .int .u64 0]⟩) := by kernel_rfl
theorem bf57 : flatZ Tryz.prog 57 = some [.slice none 0 0, .int .i64 0, .int .u64 0] := by kernel_rfl
theorem fd57_0 : fd Tryz.prog 57 0 = some (0, .one) := by kernel_rfl
theorem fd57_1 : fd Tryz.prog 57 1 = some (1, .one) := by kernel_rfl
theorem fd57_2 : fd Tryz.prog 57 2 = some (2, .one) := by kernel_rfl
theorem td59 : td Tryz.prog 59 = .agg 3 := by kernel_rfl
theorem zv59 : zv Tryz.prog 59 = some (.agg ⟨[.slice none 0 0, .slice none 0 0, .slice none 0 0]⟩) := by kernel_rfl
theorem bf59 : flatZ Tryz.prog 59 = some [.slice none 0 0, .slice none 0 0, .slice none 0 0] := by kernel_rfl
theorem fd59_0 : fd Tryz.prog 59 0 = some (0, .one) := by kernel_rfl
theorem fd59_1 : fd Tryz.prog 59 1 = some (1, .one) := by kernel_rfl
theorem fd59_2 : fd Tryz.prog 59 2 = some (2, .one) := by kernel_rfl
theorem td60 : td Tryz.prog 60 = .agg 3 := by kernel_rfl
theorem zv60 : zv Tryz.prog 60 = some (.agg ⟨[.slice none 0 0, .slice none 0 0, .slice none 0 0]⟩) := by kernel_rfl
theorem bf60 : flatZ Tryz.prog 60 = some [.slice none 0 0, .slice none 0 0, .slice none 0 0] := by kernel_rfl
theorem fd60_0 : fd Tryz.prog 60 0 = some (0, .one) := by kernel_rfl
theorem fd60_1 : fd Tryz.prog 60 1 = some (1, .one) := by kernel_rfl
theorem fd60_2 : fd Tryz.prog 60 2 = some (2, .one) := by kernel_rfl
theorem td62 : td Tryz.prog 62 = .one := by kernel_rfl
theorem zv62 : zv Tryz.prog 62 = some (.slice none 0 0) := by kernel_rfl
theorem ed62 : ed Tryz.prog 62 = some (none, 1) := by kernel_rfl
theorem sd62 : sd Tryz.prog 62 = some (.bool false) := by kernel_rfl
theorem ap62 : ap Tryz.prog 62 = some (1, 1) := by kernel_rfl
theorem aq62 : ((ap Tryz.prog 62).isSome = true) = True := eq_true (by rw [ap62]; rfl)
theorem is62 : isSl Tryz.prog 62 = True := eq_true ⟨_, Tryz.underlying62⟩
theorem us62 : (Tryz.prog.underlying 62 = some (TypeDesc.slice 4)) = True := eq_true Tryz.underlying62
theorem td63 : td Tryz.prog 63 = .agg 5 := by kernel_rfl
theorem zv63 : zv Tryz.prog 63 = some (.agg ⟨[.int .i64 0, .slice none 0 0, .slice none 0 0, .slice none 0 0, .slice none 0 0]⟩) := by kernel_rfl
theorem bf63 : flatZ Tryz.prog 63 = some [.int .i64 0, .slice none 0 0, .slice none 0 0, .slice none 0 0, .slice none 0 0] := by kernel_rfl
theorem fd63_0 : fd Tryz.prog 63 0 = some (0, .one) := by kernel_rfl
theorem fd63_1 : fd Tryz.prog 63 1 = some (1, .one) := by kernel_rfl
theorem fd63_2 : fd Tryz.prog 63 2 = some (2, .one) := by kernel_rfl
theorem fd63_3 : fd Tryz.prog 63 3 = some (3, .one) := by kernel_rfl
theorem fd63_4 : fd Tryz.prog 63 4 = some (4, .one) := by kernel_rfl
theorem td64 : td Tryz.prog 64 = .agg 5 := by kernel_rfl
theorem zv64 : zv Tryz.prog 64 = some (.agg ⟨[.int .i64 0, .slice none 0 0, .slice none 0 0, .slice none 0 0, .slice none 0 0]⟩) := by kernel_rfl
theorem bf64 : flatZ Tryz.prog 64 = some [.int .i64 0, .slice none 0 0, .slice none 0 0, .slice none 0 0, .slice none 0 0] := by kernel_rfl
theorem fd64_0 : fd Tryz.prog 64 0 = some (0, .one) := by kernel_rfl
theorem fd64_1 : fd Tryz.prog 64 1 = some (1, .one) := by kernel_rfl
theorem fd64_2 : fd Tryz.prog 64 2 = some (2, .one) := by kernel_rfl
theorem fd64_3 : fd Tryz.prog 64 3 = some (3, .one) := by kernel_rfl
theorem fd64_4 : fd Tryz.prog 64 4 = some (4, .one) := by kernel_rfl
theorem td91 : td Tryz.prog 91 = .one := by kernel_rfl
theorem zv91 : zv Tryz.prog 91 = some (.int .u64 0) := by kernel_rfl
theorem ik91 : ik Tryz.prog 91 = some .u64 := by kernel_rfl
theorem ui91 : ((Tryz.prog.underlying 91).isSome = true) = True := eq_true (by kernel_rfl)
theorem td92 : td Tryz.prog 92 = .one := by kernel_rfl
theorem zv92 : zv Tryz.prog 92 = some (.int .u64 0) := by kernel_rfl
theorem ik92 : ik Tryz.prog 92 = some .u64 := by kernel_rfl
theorem ui92 : ((Tryz.prog.underlying 92).isSome = true) = True := eq_true (by kernel_rfl)
theorem td123 : td Tryz.prog 123 = .one := by kernel_rfl
theorem zv123 : zv Tryz.prog 123 = some (.int .i64 0) := by kernel_rfl
theorem ik123 : ik Tryz.prog 123 = some .i64 := by kernel_rfl
theorem ui123 : ((Tryz.prog.underlying 123).isSome = true) = True := eq_true (by kernel_rfl)
theorem td129 : td Tryz.prog 129 = .one := by kernel_rfl
theorem zv129 : zv Tryz.prog 129 = some (.int .u32 0) := by kernel_rfl
theorem ik129 : ik Tryz.prog 129 = some .u32 := by kernel_rfl
theorem ui129 : ((Tryz.prog.underlying 129).isSome = true) = True := eq_true (by kernel_rfl)
theorem td138 : td Tryz.prog 138 = .one := by kernel_rfl
theorem zv138 : zv Tryz.prog 138 = some (.int .u64 0) := by kernel_rfl
theorem ik138 : ik Tryz.prog 138 = some .u64 := by kernel_rfl
theorem ui138 : ((Tryz.prog.underlying 138).isSome = true) = True := eq_true (by kernel_rfl)
theorem td161 : td Tryz.prog 161 = .one := by kernel_rfl
theorem zv161 : zv Tryz.prog 161 = some (.int .u8 0) := by kernel_rfl
theorem ik161 : ik Tryz.prog 161 = some .u8 := by kernel_rfl
theorem ui161 : ((Tryz.prog.underlying 161).isSome = true) = True := eq_true (by kernel_rfl)
theorem td162 : td Tryz.prog 162 = .one := by kernel_rfl
theorem zv162 : zv Tryz.prog 162 = some (.int .u8 0) := by kernel_rfl
theorem ik162 : ik Tryz.prog 162 = some .u8 := by kernel_rfl
theorem ui162 : ((Tryz.prog.underlying 162).isSome = true) = True := eq_true (by kernel_rfl)
theorem td165 : td Tryz.prog 165 = .one := by kernel_rfl
theorem zv165 : zv Tryz.prog 165 = some (.int .i32 0) := by kernel_rfl
theorem ik165 : ik Tryz.prog 165 = some .i32 := by kernel_rfl
theorem ui165 : ((Tryz.prog.underlying 165).isSome = true) = True := eq_true (by kernel_rfl)
theorem td166 : td Tryz.prog 166 = .one := by kernel_rfl
theorem zv166 : zv Tryz.prog 166 = some (.int .i32 0) := by kernel_rfl
theorem ik166 : ik Tryz.prog 166 = some .i32 := by kernel_rfl
theorem ui166 : ((Tryz.prog.underlying 166).isSome = true) = True := eq_true (by kernel_rfl)
theorem td167 : td Tryz.prog 167 = .agg 11 := by kernel_rfl
theorem fd167_0 : fd Tryz.prog 167 0 = some (0, .one) := by kernel_rfl
theorem fd167_1 : fd Tryz.prog 167 1 = some (1, .one) := by kernel_rfl
theorem fd167_2 : fd Tryz.prog 167 2 = some (2, .one) := by kernel_rfl
theorem fd167_3 : fd Tryz.prog 167 3 = some (3, .one) := by kernel_rfl
theorem fd167_4 : fd Tryz.prog 167 4 = some (4, .one) := by kernel_rfl
theorem fd167_5 : fd Tryz.prog 167 5 = some (5, .one) := by kernel_rfl
theorem fd167_6 : fd Tryz.prog 167 6 = some (6, .one) := by kernel_rfl
theorem fd167_8 : fd Tryz.prog 167 8 = some (8, .one) := by kernel_rfl
theorem fd167_9 : fd Tryz.prog 167 9 = some (9, .one) := by kernel_rfl
theorem fd167_10 : fd Tryz.prog 167 10 = some (10, .one) := by kernel_rfl
theorem td168 : td Tryz.prog 168 = .agg 11 := by kernel_rfl
theorem fd168_0 : fd Tryz.prog 168 0 = some (0, .one) := by kernel_rfl
theorem fd168_1 : fd Tryz.prog 168 1 = some (1, .one) := by kernel_rfl
theorem fd168_2 : fd Tryz.prog 168 2 = some (2, .one) := by kernel_rfl
theorem fd168_3 : fd Tryz.prog 168 3 = some (3, .one) := by kernel_rfl
theorem fd168_4 : fd Tryz.prog 168 4 = some (4, .one) := by kernel_rfl
theorem fd168_5 : fd Tryz.prog 168 5 = some (5, .one) := by kernel_rfl
theorem fd168_6 : fd Tryz.prog 168 6 = some (6, .one) := by kernel_rfl
theorem fd168_8 : fd Tryz.prog 168 8 = some (8, .one) := by kernel_rfl
theorem fd168_9 : fd Tryz.prog 168 9 = some (9, .one) := by kernel_rfl
theorem fd168_10 : fd Tryz.prog 168 10 = some (10, .one) := by kernel_rfl
theorem bt22_9 : bytesT Tryz.prog 22 9 = True := eq_true ⟨⟨5, by kernel_rfl, by kernel_rfl⟩, by kernel_rfl⟩
theorem bt22_10 : bytesT Tryz.prog 22 10 = True := eq_true ⟨⟨5, by kernel_rfl, by kernel_rfl⟩, by kernel_rfl⟩
theorem bt22_11 : bytesT Tryz.prog 22 11 = True := eq_true ⟨⟨5, by kernel_rfl, by kernel_rfl⟩, by kernel_rfl⟩
attribute [go_sem] td2 zv2 ik2 ui2 td3 zv3 ik3 ui3 td4 zv4 ub4 td5 zv5 ik5 ui5 td6 zv6 ik6 ui6 td9 zv9 ut9 td10 zv10 ut10 td11 zv11 ut11 td12 zv12 ik12 ui12 td21 zv21 ik21 ui21 td22 zv22 ed22 sd22 ap22 aq22 is22 us22 td24 zv24 ed24 sd24 ap24 aq24 is24 us24 td25 zv25 ed25 sd25 ap25 aq25 is25 us25 td26 zv26 bf26 fd26_0 fd26_1 td27 zv27 bf27 fd27_0 fd27_1 td31 zv31 ed31 sd31 ap31 aq31 is31 us31 td37 ed37 bf37 pt37 td55 zv55 ik55 ui55 td56 zv56 bf56 fd56_0 fd56_1 fd56_2 td57 zv57 bf57 fd57_0 fd57_1 fd57_2 td59 zv59 bf59 fd59_0 fd59_1 fd59_2 td60 zv60 bf60 fd60_0 fd60_1 fd60_2 td62 zv62 ed62 sd62 ap62 aq62 is62 us62 td63 zv63 bf63 fd63_0 fd63_1 fd63_2 fd63_3 fd63_4 td64 zv64 bf64 fd64_0 fd64_1 fd64_2 fd64_3 fd64_4 td91 zv91 ik91 ui91 td92 zv92 ik92 ui92 td123 zv123 ik123 ui123 td129 zv129 ik129 ui129 td138 zv138 ik138 ui138 td161 zv161 ik161 ui161 td162 zv162 ik162 ui162 td165 zv165 ik165 ui165 td166 zv166 ik166 ui166 td167 fd167_0 fd167_1 fd167_2 fd167_3 fd167_4 fd167_5 fd167_6 fd167_8 fd167_9 fd167_10 td168 fd168_0 fd168_1 fd168_2 fd168_3 fd168_4 fd168_5 fd168_6 fd168_8 fd168_9 fd168_10 bt22_9 bt22_10 bt22_11
theorem mixed : Tryz.prog.follows .mixedOrders = true := by kernel_rfl
end Go.Proofs.YteefjdbdknkcjaaGreat
