/- Facts on the types of the translation: what each comes to, one by one, by the kernel. -/
import Derived.Test.YtjnongegddnobaaDoorVc
import Derived.Test.YtjnongegddnobaaDoorProg
import Derived.KernelRfl
namespace Go.Proofs.YtjnongegddnobaaDoor
open Go.Vc
theorem td2 : td Tryd.prog 2 = .one := by kernel_rfl
theorem zv2 : zv Tryd.prog 2 = some (.int .i64 0) := by kernel_rfl
theorem ik2 : ik Tryd.prog 2 = some .i64 := by kernel_rfl
theorem ui2 : ((Tryd.prog.underlying 2).isSome = true) = True := eq_true (by kernel_rfl)
theorem td3 : td Tryd.prog 3 = .one := by kernel_rfl
theorem zv3 : zv Tryd.prog 3 = some (.int .i64 0) := by kernel_rfl
theorem ik3 : ik Tryd.prog 3 = some .i64 := by kernel_rfl
theorem ui3 : ((Tryd.prog.underlying 3).isSome = true) = True := eq_true (by kernel_rfl)
theorem td4 : td Tryd.prog 4 = .one := by kernel_rfl
theorem zv4 : zv Tryd.prog 4 = some (.bool false) := by kernel_rfl
theorem ub4 : (Tryd.prog.underlying 4 = some TypeDesc.bool) = True := eq_true Tryd.underlying4
theorem td5 : td Tryd.prog 5 = .one := by kernel_rfl
theorem zv5 : zv Tryd.prog 5 = some (.int .u8 0) := by kernel_rfl
theorem ik5 : ik Tryd.prog 5 = some .u8 := by kernel_rfl
theorem ui5 : ((Tryd.prog.underlying 5).isSome = true) = True := eq_true (by kernel_rfl)
theorem td6 : td Tryd.prog 6 = .one := by kernel_rfl
theorem zv6 : zv Tryd.prog 6 = some (.int .u8 0) := by kernel_rfl
theorem ik6 : ik Tryd.prog 6 = some .u8 := by kernel_rfl
theorem ui6 : ((Tryd.prog.underlying 6).isSome = true) = True := eq_true (by kernel_rfl)
theorem td9 : td Tryd.prog 9 = .one := by kernel_rfl
theorem zv9 : zv Tryd.prog 9 = some (.string ByteArray.empty) := by kernel_rfl
theorem ut9 : (Tryd.prog.underlying 9 = some TypeDesc.string) = True := eq_true Tryd.underlying9
theorem td10 : td Tryd.prog 10 = .one := by kernel_rfl
theorem zv10 : zv Tryd.prog 10 = some (.string ByteArray.empty) := by kernel_rfl
theorem ut10 : (Tryd.prog.underlying 10 = some TypeDesc.string) = True := eq_true Tryd.underlying10
theorem td11 : td Tryd.prog 11 = .one := by kernel_rfl
theorem zv11 : zv Tryd.prog 11 = some (.string ByteArray.empty) := by kernel_rfl
theorem ut11 : (Tryd.prog.underlying 11 = some TypeDesc.string) = True := eq_true Tryd.underlying11
theorem td12 : td Tryd.prog 12 = .one := by kernel_rfl
theorem zv12 : zv Tryd.prog 12 = some (.int .u64 0) := by kernel_rfl
theorem ik12 : ik Tryd.prog 12 = some .u64 := by kernel_rfl
theorem ui12 : ((Tryd.prog.underlying 12).isSome = true) = True := eq_true (by kernel_rfl)
theorem td21 : td Tryd.prog 21 = .one := by kernel_rfl
theorem zv21 : zv Tryd.prog 21 = some (.int .i32 0) := by kernel_rfl
theorem ik21 : ik Tryd.prog 21 = some .i32 := by kernel_rfl
theorem ui21 : ((Tryd.prog.underlying 21).isSome = true) = True := eq_true (by kernel_rfl)
theorem td29 : td Tryd.prog 29 = .one := by kernel_rfl
theorem zv29 : zv Tryd.prog 29 = some (.slice none 0 0) := by kernel_rfl
theorem ed29 : ed Tryd.prog 29 = some (none, 1) := by kernel_rfl
theorem sd29 : sd Tryd.prog 29 = some (.string ByteArray.empty) := by kernel_rfl
theorem ap29 : ap Tryd.prog 29 = some (1, 16) := by kernel_rfl
theorem aq29 : ((ap Tryd.prog 29).isSome = true) = True := eq_true (by rw [ap29]; rfl)
theorem is29 : isSl Tryd.prog 29 = True := eq_true ⟨_, Tryd.underlying29⟩
theorem us29 : (Tryd.prog.underlying 29 = some (TypeDesc.slice 9)) = True := eq_true Tryd.underlying29
theorem td35 : td Tryd.prog 35 = .one := by kernel_rfl
theorem zv35 : zv Tryd.prog 35 = some (.slice none 0 0) := by kernel_rfl
theorem ed35 : ed Tryd.prog 35 = some (none, 1) := by kernel_rfl
theorem sd35 : sd Tryd.prog 35 = some (.int .i64 0) := by kernel_rfl
theorem ap35 : ap Tryd.prog 35 = some (1, 8) := by kernel_rfl
theorem aq35 : ((ap Tryd.prog 35).isSome = true) = True := eq_true (by rw [ap35]; rfl)
theorem is35 : isSl Tryd.prog 35 = True := eq_true ⟨_, Tryd.underlying35⟩
theorem us35 : (Tryd.prog.underlying 35 = some (TypeDesc.slice 3)) = True := eq_true Tryd.underlying35
theorem td36 : td Tryd.prog 36 = .one := by kernel_rfl
theorem zv36 : zv Tryd.prog 36 = some (.slice none 0 0) := by kernel_rfl
theorem ed36 : ed Tryd.prog 36 = some (none, 1) := by kernel_rfl
theorem sd36 : sd Tryd.prog 36 = some (.slice none 0 0) := by kernel_rfl
theorem ap36 : ap Tryd.prog 36 = some (1, 24) := by kernel_rfl
theorem aq36 : ((ap Tryd.prog 36).isSome = true) = True := eq_true (by rw [ap36]; rfl)
theorem is36 : isSl Tryd.prog 36 = True := eq_true ⟨_, Tryd.underlying36⟩
theorem us36 : (Tryd.prog.underlying 36 = some (TypeDesc.slice 35)) = True := eq_true Tryd.underlying36
theorem td37 : td Tryd.prog 37 = .agg 2 := by kernel_rfl
theorem zv37 : zv Tryd.prog 37 = some (.agg ⟨[.slice none 0 0, .slice none 0 0]⟩) := by kernel_rfl
theorem bf37 : flatZ Tryd.prog 37 = some [.slice none 0 0, .slice none 0 0] := by kernel_rfl
theorem fd37_0 : fd Tryd.prog 37 0 = some (0, .one) := by kernel_rfl
theorem fd37_1 : fd Tryd.prog 37 1 = some (1, .one) := by kernel_rfl
theorem td38 : td Tryd.prog 38 = .agg 2 := by kernel_rfl
theorem zv38 : zv Tryd.prog 38 = some (.agg ⟨[.slice none 0 0, .slice none 0 0]⟩) := by kernel_rfl
theorem bf38 : flatZ Tryd.prog 38 = some [.slice none 0 0, .slice none 0 0] := by kernel_rfl
theorem fd38_0 : fd Tryd.prog 38 0 = some (0, .one) := by kernel_rfl
theorem fd38_1 : fd Tryd.prog 38 1 = some (1, .one) := by kernel_rfl
theorem td41 : td Tryd.prog 41 = .agg 2 := by kernel_rfl
theorem zv41 : zv Tryd.prog 41 = some (.agg ⟨[.slice none 0 0, .slice none 0 0]⟩) := by kernel_rfl
theorem bf41 : flatZ Tryd.prog 41 = some [.slice none 0 0, .slice none 0 0] := by kernel_rfl
theorem fd41_0 : fd Tryd.prog 41 0 = some (0, .one) := by kernel_rfl
theorem fd41_1 : fd Tryd.prog 41 1 = some (1, .one) := by kernel_rfl
theorem td75 : td Tryd.prog 75 = .one := by kernel_rfl
theorem zv75 : zv Tryd.prog 75 = some (.slice none 0 0) := by kernel_rfl
theorem ed75 : ed Tryd.prog 75 = some (none, 1) := by kernel_rfl
theorem sd75 : sd Tryd.prog 75 = some (.int .u8 0) := by kernel_rfl
theorem ap75 : ap Tryd.prog 75 = some (1, 1) := by kernel_rfl
theorem aq75 : ((ap Tryd.prog 75).isSome = true) = True := eq_true (by rw [ap75]; rfl)
theorem is75 : isSl Tryd.prog 75 = True := eq_true ⟨_, Tryd.underlying75⟩
theorem us75 : (Tryd.prog.underlying 75 = some (TypeDesc.slice 5)) = True := eq_true Tryd.underlying75
theorem td80 : td Tryd.prog 80 = .agg 2 := by kernel_rfl
theorem fd80_0 : fd Tryd.prog 80 0 = some (0, .one) := by kernel_rfl
theorem fd80_1 : fd Tryd.prog 80 1 = some (1, .one) := by kernel_rfl
theorem td81 : td Tryd.prog 81 = .agg 2 := by kernel_rfl
theorem fd81_0 : fd Tryd.prog 81 0 = some (0, .one) := by kernel_rfl
theorem fd81_1 : fd Tryd.prog 81 1 = some (1, .one) := by kernel_rfl
theorem td85 : td Tryd.prog 85 = .one := by kernel_rfl
theorem zv85 : zv Tryd.prog 85 = some (.int .i64 0) := by kernel_rfl
theorem ik85 : ik Tryd.prog 85 = some .i64 := by kernel_rfl
theorem ui85 : ((Tryd.prog.underlying 85).isSome = true) = True := eq_true (by kernel_rfl)
theorem td95 : td Tryd.prog 95 = .agg 24 := by kernel_rfl
theorem ed95 : ed Tryd.prog 95 = some (some 24, 1) := by kernel_rfl
theorem td96 : td Tryd.prog 96 = .one := by kernel_rfl
theorem zv96 : zv Tryd.prog 96 = some (.int .u64 0) := by kernel_rfl
theorem ik96 : ik Tryd.prog 96 = some .u64 := by kernel_rfl
theorem ui96 : ((Tryd.prog.underlying 96).isSome = true) = True := eq_true (by kernel_rfl)
theorem td103 : td Tryd.prog 103 = .one := by kernel_rfl
theorem zv103 : zv Tryd.prog 103 = some (.int .u64 0) := by kernel_rfl
theorem ik103 : ik Tryd.prog 103 = some .u64 := by kernel_rfl
theorem ui103 : ((Tryd.prog.underlying 103).isSome = true) = True := eq_true (by kernel_rfl)
theorem td104 : td Tryd.prog 104 = .agg 3 := by kernel_rfl
theorem fd104_0 : fd Tryd.prog 104 0 = some (0, .one) := by kernel_rfl
theorem fd104_1 : fd Tryd.prog 104 1 = some (1, .one) := by kernel_rfl
theorem fd104_2 : fd Tryd.prog 104 2 = some (2, .one) := by kernel_rfl
theorem td105 : td Tryd.prog 105 = .agg 3 := by kernel_rfl
theorem fd105_0 : fd Tryd.prog 105 0 = some (0, .one) := by kernel_rfl
theorem fd105_1 : fd Tryd.prog 105 1 = some (1, .one) := by kernel_rfl
theorem fd105_2 : fd Tryd.prog 105 2 = some (2, .one) := by kernel_rfl
theorem td116 : td Tryd.prog 116 = .agg 20 := by kernel_rfl
theorem ed116 : ed Tryd.prog 116 = some (some 20, 1) := by kernel_rfl
theorem td117 : td Tryd.prog 117 = .one := by kernel_rfl
theorem zv117 : zv Tryd.prog 117 = some (.int .u32 0) := by kernel_rfl
theorem ik117 : ik Tryd.prog 117 = some .u32 := by kernel_rfl
theorem ui117 : ((Tryd.prog.underlying 117).isSome = true) = True := eq_true (by kernel_rfl)
theorem td118 : td Tryd.prog 118 = .agg 65 := by kernel_rfl
theorem ed118 : ed Tryd.prog 118 = some (some 65, 1) := by kernel_rfl
theorem td122 : td Tryd.prog 122 = .agg 1 := by kernel_rfl
theorem zv122 : zv Tryd.prog 122 = some (.agg ⟨[.string ByteArray.empty]⟩) := by kernel_rfl
theorem bf122 : flatZ Tryd.prog 122 = some [.string ByteArray.empty] := by kernel_rfl
theorem fd122_0 : fd Tryd.prog 122 0 = some (0, .one) := by kernel_rfl
theorem td123 : td Tryd.prog 123 = .agg 1 := by kernel_rfl
theorem zv123 : zv Tryd.prog 123 = some (.agg ⟨[.string ByteArray.empty]⟩) := by kernel_rfl
theorem bf123 : flatZ Tryd.prog 123 = some [.string ByteArray.empty] := by kernel_rfl
theorem fd123_0 : fd Tryd.prog 123 0 = some (0, .one) := by kernel_rfl
theorem td127 : td Tryd.prog 127 = .agg 256 := by kernel_rfl
theorem ed127 : ed Tryd.prog 127 = some (some 256, 1) := by kernel_rfl
theorem td128 : td Tryd.prog 128 = .agg 2 := by kernel_rfl
theorem zv128 : zv Tryd.prog 128 = some (.agg ⟨[.int .u8 0, .int .u8 0]⟩) := by kernel_rfl
theorem bf128 : flatZ Tryd.prog 128 = some [.int .u8 0, .int .u8 0] := by kernel_rfl
theorem fd128_0 : fd Tryd.prog 128 0 = some (0, .one) := by kernel_rfl
theorem fd128_1 : fd Tryd.prog 128 1 = some (1, .one) := by kernel_rfl
theorem td129 : td Tryd.prog 129 = .agg 2 := by kernel_rfl
theorem zv129 : zv Tryd.prog 129 = some (.agg ⟨[.int .u8 0, .int .u8 0]⟩) := by kernel_rfl
theorem bf129 : flatZ Tryd.prog 129 = some [.int .u8 0, .int .u8 0] := by kernel_rfl
theorem fd129_0 : fd Tryd.prog 129 0 = some (0, .one) := by kernel_rfl
theorem fd129_1 : fd Tryd.prog 129 1 = some (1, .one) := by kernel_rfl
theorem td130 : td Tryd.prog 130 = .agg 32 := by kernel_rfl
theorem ed130 : ed Tryd.prog 130 = some (some 16, 2) := by kernel_rfl
theorem td131 : td Tryd.prog 131 = .agg 32 := by kernel_rfl
theorem ed131 : ed Tryd.prog 131 = some (some 32, 1) := by kernel_rfl
theorem td132 : td Tryd.prog 132 = .agg 64 := by kernel_rfl
theorem ed132 : ed Tryd.prog 132 = some (some 64, 1) := by kernel_rfl
theorem td139 : td Tryd.prog 139 = .one := by kernel_rfl
theorem zv139 : zv Tryd.prog 139 = some (.int .u8 0) := by kernel_rfl
theorem ik139 : ik Tryd.prog 139 = some .u8 := by kernel_rfl
theorem ui139 : ((Tryd.prog.underlying 139).isSome = true) = True := eq_true (by kernel_rfl)
theorem td140 : td Tryd.prog 140 = .one := by kernel_rfl
theorem zv140 : zv Tryd.prog 140 = some (.int .u8 0) := by kernel_rfl
theorem ik140 : ik Tryd.prog 140 = some .u8 := by kernel_rfl
theorem ui140 : ((Tryd.prog.underlying 140).isSome = true) = True := eq_true (by kernel_rfl)
theorem td142 : td Tryd.prog 142 = .one := by kernel_rfl
theorem zv142 : zv Tryd.prog 142 = some (.int .i32 0) := by kernel_rfl
theorem ik142 : ik Tryd.prog 142 = some .i32 := by kernel_rfl
theorem ui142 : ((Tryd.prog.underlying 142).isSome = true) = True := eq_true (by kernel_rfl)
theorem td143 : td Tryd.prog 143 = .one := by kernel_rfl
theorem zv143 : zv Tryd.prog 143 = some (.int .i32 0) := by kernel_rfl
theorem ik143 : ik Tryd.prog 143 = some .i32 := by kernel_rfl
theorem ui143 : ((Tryd.prog.underlying 143).isSome = true) = True := eq_true (by kernel_rfl)
theorem td144 : td Tryd.prog 144 = .agg 11 := by kernel_rfl
theorem fd144_0 : fd Tryd.prog 144 0 = some (0, .one) := by kernel_rfl
theorem fd144_1 : fd Tryd.prog 144 1 = some (1, .one) := by kernel_rfl
theorem fd144_2 : fd Tryd.prog 144 2 = some (2, .one) := by kernel_rfl
theorem fd144_3 : fd Tryd.prog 144 3 = some (3, .one) := by kernel_rfl
theorem fd144_4 : fd Tryd.prog 144 4 = some (4, .one) := by kernel_rfl
theorem fd144_5 : fd Tryd.prog 144 5 = some (5, .one) := by kernel_rfl
theorem fd144_6 : fd Tryd.prog 144 6 = some (6, .one) := by kernel_rfl
theorem fd144_8 : fd Tryd.prog 144 8 = some (8, .one) := by kernel_rfl
theorem fd144_9 : fd Tryd.prog 144 9 = some (9, .one) := by kernel_rfl
theorem fd144_10 : fd Tryd.prog 144 10 = some (10, .one) := by kernel_rfl
theorem td145 : td Tryd.prog 145 = .agg 11 := by kernel_rfl
theorem fd145_0 : fd Tryd.prog 145 0 = some (0, .one) := by kernel_rfl
theorem fd145_1 : fd Tryd.prog 145 1 = some (1, .one) := by kernel_rfl
theorem fd145_2 : fd Tryd.prog 145 2 = some (2, .one) := by kernel_rfl
theorem fd145_3 : fd Tryd.prog 145 3 = some (3, .one) := by kernel_rfl
theorem fd145_4 : fd Tryd.prog 145 4 = some (4, .one) := by kernel_rfl
theorem fd145_5 : fd Tryd.prog 145 5 = some (5, .one) := by kernel_rfl
theorem fd145_6 : fd Tryd.prog 145 6 = some (6, .one) := by kernel_rfl
theorem fd145_8 : fd Tryd.prog 145 8 = some (8, .one) := by kernel_rfl
theorem fd145_9 : fd Tryd.prog 145 9 = some (9, .one) := by kernel_rfl
theorem fd145_10 : fd Tryd.prog 145 10 = some (10, .one) := by kernel_rfl
theorem bt75_9 : bytesT Tryd.prog 75 9 = True := eq_true ⟨⟨5, by kernel_rfl, by kernel_rfl⟩, by kernel_rfl⟩
theorem bt75_10 : bytesT Tryd.prog 75 10 = True := eq_true ⟨⟨5, by kernel_rfl, by kernel_rfl⟩, by kernel_rfl⟩
theorem bt75_11 : bytesT Tryd.prog 75 11 = True := eq_true ⟨⟨5, by kernel_rfl, by kernel_rfl⟩, by kernel_rfl⟩
attribute [go_sem] td2 zv2 ik2 ui2 td3 zv3 ik3 ui3 td4 zv4 ub4 td5 zv5 ik5 ui5 td6 zv6 ik6 ui6 td9 zv9 ut9 td10 zv10 ut10 td11 zv11 ut11 td12 zv12 ik12 ui12 td21 zv21 ik21 ui21 td29 zv29 ed29 sd29 ap29 aq29 is29 us29 td35 zv35 ed35 sd35 ap35 aq35 is35 us35 td36 zv36 ed36 sd36 ap36 aq36 is36 us36 td37 zv37 bf37 fd37_0 fd37_1 td38 zv38 bf38 fd38_0 fd38_1 td41 zv41 bf41 fd41_0 fd41_1 td75 zv75 ed75 sd75 ap75 aq75 is75 us75 td80 fd80_0 fd80_1 td81 fd81_0 fd81_1 td85 zv85 ik85 ui85 td95 ed95 td96 zv96 ik96 ui96 td103 zv103 ik103 ui103 td104 fd104_0 fd104_1 fd104_2 td105 fd105_0 fd105_1 fd105_2 td116 ed116 td117 zv117 ik117 ui117 td118 ed118 td122 zv122 bf122 fd122_0 td123 zv123 bf123 fd123_0 td127 ed127 td128 zv128 bf128 fd128_0 fd128_1 td129 zv129 bf129 fd129_0 fd129_1 td130 ed130 td131 ed131 td132 ed132 td139 zv139 ik139 ui139 td140 zv140 ik140 ui140 td142 zv142 ik142 ui142 td143 zv143 ik143 ui143 td144 fd144_0 fd144_1 fd144_2 fd144_3 fd144_4 fd144_5 fd144_6 fd144_8 fd144_9 fd144_10 td145 fd145_0 fd145_1 fd145_2 fd145_3 fd145_4 fd145_5 fd145_6 fd145_8 fd145_9 fd145_10 bt75_9 bt75_10 bt75_11
theorem mixed : Tryd.prog.follows .mixedOrders = true := by kernel_rfl
end Go.Proofs.YtjnongegddnobaaDoor
