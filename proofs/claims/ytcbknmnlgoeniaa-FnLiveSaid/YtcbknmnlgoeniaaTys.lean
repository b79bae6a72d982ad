/- The types of the program, as a table. -/
import Derived.Test.YtcbknmnlgoeniaaProg
import Derived.Test.YtcbknmnlgoeniaaI3
namespace Go.Proofs.Ytcbknmnlgoeniaa
open Go.RowKit
set_option maxHeartbeats 0

def tys : Tys := fun t => match t with
  | 1 => some ⟨.other, 1, .nilFunc⟩
  | 3 => some ⟨.int .i64, 1, .int .i64 0⟩
  | 4 => some ⟨.bool, 1, .bool false⟩
  | 5 => some ⟨.int .u8, 1, .int .u8 0⟩
  | 9 => some ⟨.string, 1, .string ByteArray.empty⟩
  | 22 => some ⟨.slice 5 1 1, 1, .slice none 0 0⟩
  | 23 => some ⟨.other, 1, .nilFunc⟩
  | 24 => some ⟨.slice 39 10 96, 1, .slice none 0 0⟩
  | 25 => some ⟨.slice 32 5 40, 1, .slice none 0 0⟩
  | 27 => some ⟨.struct [(0, 1, false), (1, 1, false)], 2, .agg #[.slice none 0 0, .slice none 0 0]⟩
  | 28 => some ⟨.other, 1, .nilFunc⟩
  | 30 => some ⟨.other, 1, .nilFunc⟩
  | 32 => some ⟨.struct [(0, 1, false), (1, 1, false), (2, 1, false), (3, 1, false), (4, 1, false)], 5, .agg #[.int .i64 0, .int .i64 0, .int .i64 0, .int .i64 0, .int .i64 0]⟩
  | 34 => some ⟨.struct [(0, 1, false), (1, 1, false), (2, 1, false), (3, 5, true)], 8, .agg #[.int .i64 0, .int .i64 0, .int .i64 0, .int .i64 0, .int .i64 0, .int .i64 0, .int .i64 0, .int .i64 0]⟩
  | 35 => some ⟨.other, 1, .nilFunc⟩
  | 36 => some ⟨.slice 3 1 8, 1, .slice none 0 0⟩
  | 37 => some ⟨.other, 1, .nilFunc⟩
  | 39 => some ⟨.struct [(0, 1, false), (1, 1, false), (2, 1, false), (3, 1, false), (4, 1, false), (5, 1, false), (6, 1, false), (7, 1, false), (8, 1, false), (9, 1, false)], 10, .agg #[.int .i64 0, .int .i64 0, .int .i64 0, .int .i64 0, .int .i64 0, .int .i64 0, .int .i64 0, .int .i64 0, .int .i64 0, .slice none 0 0]⟩
  | 40 => some ⟨.slice 34 8 64, 1, .slice none 0 0⟩
  | 41 => some ⟨.other, 1, .nilFunc⟩
  | 43 => some ⟨.other, 1, .nilFunc⟩
  | 44 => some ⟨.other, 1, .nilFunc⟩
  | 46 => some ⟨.other, 1, .nilFunc⟩
  | 47 => some ⟨.other, 1, .nilFunc⟩
  | 48 => some ⟨.other, 1, .nilFunc⟩
  | 49 => some ⟨.other, 1, .nilFunc⟩
  | 50 => some ⟨.other, 1, .pointer none⟩
  | 51 => some ⟨.other, 1, .nilFunc⟩
  | 52 => some ⟨.other, 1, .nilFunc⟩
  | 53 => some ⟨.other, 1, .nilFunc⟩
  | 54 => some ⟨.other, 1, .nilFunc⟩
  | 55 => some ⟨.other, 1, .nilFunc⟩
  | 56 => some ⟨.other, 1, .nilFunc⟩
  | 57 => some ⟨.other, 1, .nilFunc⟩
  | 58 => some ⟨.other, 1, .nilFunc⟩
  | 59 => some ⟨.other, 1, .nilFunc⟩
  | 60 => some ⟨.other, 1, .nilFunc⟩
  | 62 => some ⟨.other, 1, .nilFunc⟩
  | 63 => some ⟨.other, 1, .nilFunc⟩
  | 64 => some ⟨.other, 1, .nilFunc⟩
  | 65 => some ⟨.other, 1, .nilFunc⟩
  | 66 => some ⟨.other, 1, .nilFunc⟩
  | 67 => some ⟨.int .u64, 1, .int .u64 0⟩
  | 69 => some ⟨.struct [(0, 1, false), (1, 1, false), (2, 1, false)], 3, .agg #[.slice none 0 0, .int .i64 0, .int .i64 0]⟩
  | 70 => some ⟨.other, 1, .nilFunc⟩
  | 71 => some ⟨.other, 1, .nilFunc⟩
  | 72 => some ⟨.other, 1, .nilFunc⟩
  | 73 => some ⟨.other, 1, .nilFunc⟩
  | 74 => some ⟨.other, 1, .nilFunc⟩
  | 75 => some ⟨.other, 1, .pointer none⟩
  | 77 => some ⟨.struct [(0, 10, true), (10, 1, false)], 11, .agg #[.int .i64 0, .int .i64 0, .int .i64 0, .int .i64 0, .int .i64 0, .int .i64 0, .int .i64 0, .int .i64 0, .int .i64 0, .slice none 0 0, .slice none 0 0]⟩
  | 78 => some ⟨.other, 1, .nilFunc⟩
  | 79 => some ⟨.other, 1, .nilFunc⟩
  | 80 => some ⟨.other, 1, .nilFunc⟩
  | 81 => some ⟨.other, 1, .nilFunc⟩
  | 82 => some ⟨.other, 1, .nilFunc⟩
  | 83 => some ⟨.int .i64, 1, .int .i64 0⟩
  | 85 => some ⟨.other, 1, .nilFunc⟩
  | 86 => some ⟨.other, 1, .nilFunc⟩
  | 87 => some ⟨.other, 1, .nilFunc⟩
  | 88 => some ⟨.other, 1, .nilFunc⟩
  | 90 => some ⟨.other, 1, .nilFunc⟩
  | 91 => some ⟨.other, 1, .nilFunc⟩
  | 92 => some ⟨.int .u32, 1, .int .u32 0⟩
  | 93 => some ⟨.other, 1, .nilFunc⟩
  | 94 => some ⟨.int .u64, 1, .int .u64 0⟩
  | 96 => some ⟨.other, 1, .nilFunc⟩
  | 97 => some ⟨.other, 1, .nilFunc⟩
  | 98 => some ⟨.other, 1, .pointer none⟩
  | 99 => some ⟨.other, 1, .nilFunc⟩
  | 100 => some ⟨.int .u64, 1, .int .u64 0⟩
  | 101 => some ⟨.other, 1, .nilFunc⟩
  | 102 => some ⟨.other, 1, .nilFunc⟩
  | 103 => some ⟨.other, 1, .nilFunc⟩
  | 104 => some ⟨.other, 1, .pointer none⟩
  | 105 => some ⟨.other, 1, .nilFunc⟩
  | 106 => some ⟨.other, 1, .nilFunc⟩
  | 107 => some ⟨.other, 1, .nilFunc⟩
  | 110 => some ⟨.other, 1, .nilFunc⟩
  | 111 => some ⟨.other, 1, .nilFunc⟩
  | 113 => some ⟨.other, 1, .nilFunc⟩
  | 114 => some ⟨.other, 1, .nilFunc⟩
  | 115 => some ⟨.other, 1, .pointer none⟩
  | 117 => some ⟨.other, 1, .nilFunc⟩
  | 118 => some ⟨.other, 1, .nilFunc⟩
  | 119 => some ⟨.other, 1, .nilFunc⟩
  | 120 => some ⟨.other, 1, .nilFunc⟩
  | 122 => some ⟨.other, 1, .nilFunc⟩
  | 123 => some ⟨.other, 1, .nilFunc⟩
  | 124 => some ⟨.other, 1, .nilFunc⟩
  | 125 => some ⟨.other, 1, .nilFunc⟩
  | 126 => some ⟨.slice 4 1 1, 1, .slice none 0 0⟩
  | 127 => some ⟨.other, 1, .nilFunc⟩
  | 133 => some ⟨.other, 1, .nilFunc⟩
  | 136 => some ⟨.other, 1, .nilFunc⟩
  | 137 => some ⟨.other, 1, .pointer none⟩
  | _ => none
theorem tys_1 : tys 1 = some ⟨.other, 1, .nilFunc⟩ := rfl
theorem tys_3 : tys 3 = some ⟨.int .i64, 1, .int .i64 0⟩ := rfl
theorem tys_4 : tys 4 = some ⟨.bool, 1, .bool false⟩ := rfl
theorem tys_5 : tys 5 = some ⟨.int .u8, 1, .int .u8 0⟩ := rfl
theorem tys_9 : tys 9 = some ⟨.string, 1, .string ByteArray.empty⟩ := rfl
theorem tys_22 : tys 22 = some ⟨.slice 5 1 1, 1, .slice none 0 0⟩ := rfl
theorem tys_23 : tys 23 = some ⟨.other, 1, .nilFunc⟩ := rfl
theorem tys_24 : tys 24 = some ⟨.slice 39 10 96, 1, .slice none 0 0⟩ := rfl
theorem tys_25 : tys 25 = some ⟨.slice 32 5 40, 1, .slice none 0 0⟩ := rfl
theorem tys_27 : tys 27 = some ⟨.struct [(0, 1, false), (1, 1, false)], 2, .agg #[.slice none 0 0, .slice none 0 0]⟩ := rfl
theorem tys_28 : tys 28 = some ⟨.other, 1, .nilFunc⟩ := rfl
theorem tys_30 : tys 30 = some ⟨.other, 1, .nilFunc⟩ := rfl
theorem tys_32 : tys 32 = some ⟨.struct [(0, 1, false), (1, 1, false), (2, 1, false), (3, 1, false), (4, 1, false)], 5, .agg #[.int .i64 0, .int .i64 0, .int .i64 0, .int .i64 0, .int .i64 0]⟩ := rfl
theorem tys_34 : tys 34 = some ⟨.struct [(0, 1, false), (1, 1, false), (2, 1, false), (3, 5, true)], 8, .agg #[.int .i64 0, .int .i64 0, .int .i64 0, .int .i64 0, .int .i64 0, .int .i64 0, .int .i64 0, .int .i64 0]⟩ := rfl
theorem tys_35 : tys 35 = some ⟨.other, 1, .nilFunc⟩ := rfl
theorem tys_36 : tys 36 = some ⟨.slice 3 1 8, 1, .slice none 0 0⟩ := rfl
theorem tys_37 : tys 37 = some ⟨.other, 1, .nilFunc⟩ := rfl
theorem tys_39 : tys 39 = some ⟨.struct [(0, 1, false), (1, 1, false), (2, 1, false), (3, 1, false), (4, 1, false), (5, 1, false), (6, 1, false), (7, 1, false), (8, 1, false), (9, 1, false)], 10, .agg #[.int .i64 0, .int .i64 0, .int .i64 0, .int .i64 0, .int .i64 0, .int .i64 0, .int .i64 0, .int .i64 0, .int .i64 0, .slice none 0 0]⟩ := rfl
theorem tys_40 : tys 40 = some ⟨.slice 34 8 64, 1, .slice none 0 0⟩ := rfl
theorem tys_41 : tys 41 = some ⟨.other, 1, .nilFunc⟩ := rfl
theorem tys_43 : tys 43 = some ⟨.other, 1, .nilFunc⟩ := rfl
theorem tys_44 : tys 44 = some ⟨.other, 1, .nilFunc⟩ := rfl
theorem tys_46 : tys 46 = some ⟨.other, 1, .nilFunc⟩ := rfl
theorem tys_47 : tys 47 = some ⟨.other, 1, .nilFunc⟩ := rfl
theorem tys_48 : tys 48 = some ⟨.other, 1, .nilFunc⟩ := rfl
theorem tys_49 : tys 49 = some ⟨.other, 1, .nilFunc⟩ := rfl
theorem tys_50 : tys 50 = some ⟨.other, 1, .pointer none⟩ := rfl
theorem tys_51 : tys 51 = some ⟨.other, 1, .nilFunc⟩ := rfl
theorem tys_52 : tys 52 = some ⟨.other, 1, .nilFunc⟩ := rfl
theorem tys_53 : tys 53 = some ⟨.other, 1, .nilFunc⟩ := rfl
theorem tys_54 : tys 54 = some ⟨.other, 1, .nilFunc⟩ := rfl
theorem tys_55 : tys 55 = some ⟨.other, 1, .nilFunc⟩ := rfl
theorem tys_56 : tys 56 = some ⟨.other, 1, .nilFunc⟩ := rfl
theorem tys_57 : tys 57 = some ⟨.other, 1, .nilFunc⟩ := rfl
theorem tys_58 : tys 58 = some ⟨.other, 1, .nilFunc⟩ := rfl
theorem tys_59 : tys 59 = some ⟨.other, 1, .nilFunc⟩ := rfl
theorem tys_60 : tys 60 = some ⟨.other, 1, .nilFunc⟩ := rfl
theorem tys_62 : tys 62 = some ⟨.other, 1, .nilFunc⟩ := rfl
theorem tys_63 : tys 63 = some ⟨.other, 1, .nilFunc⟩ := rfl
theorem tys_64 : tys 64 = some ⟨.other, 1, .nilFunc⟩ := rfl
theorem tys_65 : tys 65 = some ⟨.other, 1, .nilFunc⟩ := rfl
theorem tys_66 : tys 66 = some ⟨.other, 1, .nilFunc⟩ := rfl
theorem tys_67 : tys 67 = some ⟨.int .u64, 1, .int .u64 0⟩ := rfl
theorem tys_69 : tys 69 = some ⟨.struct [(0, 1, false), (1, 1, false), (2, 1, false)], 3, .agg #[.slice none 0 0, .int .i64 0, .int .i64 0]⟩ := rfl
theorem tys_70 : tys 70 = some ⟨.other, 1, .nilFunc⟩ := rfl
theorem tys_71 : tys 71 = some ⟨.other, 1, .nilFunc⟩ := rfl
theorem tys_72 : tys 72 = some ⟨.other, 1, .nilFunc⟩ := rfl
theorem tys_73 : tys 73 = some ⟨.other, 1, .nilFunc⟩ := rfl
theorem tys_74 : tys 74 = some ⟨.other, 1, .nilFunc⟩ := rfl
theorem tys_75 : tys 75 = some ⟨.other, 1, .pointer none⟩ := rfl
theorem tys_77 : tys 77 = some ⟨.struct [(0, 10, true), (10, 1, false)], 11, .agg #[.int .i64 0, .int .i64 0, .int .i64 0, .int .i64 0, .int .i64 0, .int .i64 0, .int .i64 0, .int .i64 0, .int .i64 0, .slice none 0 0, .slice none 0 0]⟩ := rfl
theorem tys_78 : tys 78 = some ⟨.other, 1, .nilFunc⟩ := rfl
theorem tys_79 : tys 79 = some ⟨.other, 1, .nilFunc⟩ := rfl
theorem tys_80 : tys 80 = some ⟨.other, 1, .nilFunc⟩ := rfl
theorem tys_81 : tys 81 = some ⟨.other, 1, .nilFunc⟩ := rfl
theorem tys_82 : tys 82 = some ⟨.other, 1, .nilFunc⟩ := rfl
theorem tys_83 : tys 83 = some ⟨.int .i64, 1, .int .i64 0⟩ := rfl
theorem tys_85 : tys 85 = some ⟨.other, 1, .nilFunc⟩ := rfl
theorem tys_86 : tys 86 = some ⟨.other, 1, .nilFunc⟩ := rfl
theorem tys_87 : tys 87 = some ⟨.other, 1, .nilFunc⟩ := rfl
theorem tys_88 : tys 88 = some ⟨.other, 1, .nilFunc⟩ := rfl
theorem tys_90 : tys 90 = some ⟨.other, 1, .nilFunc⟩ := rfl
theorem tys_91 : tys 91 = some ⟨.other, 1, .nilFunc⟩ := rfl
theorem tys_92 : tys 92 = some ⟨.int .u32, 1, .int .u32 0⟩ := rfl
theorem tys_93 : tys 93 = some ⟨.other, 1, .nilFunc⟩ := rfl
theorem tys_94 : tys 94 = some ⟨.int .u64, 1, .int .u64 0⟩ := rfl
theorem tys_96 : tys 96 = some ⟨.other, 1, .nilFunc⟩ := rfl
theorem tys_97 : tys 97 = some ⟨.other, 1, .nilFunc⟩ := rfl
theorem tys_98 : tys 98 = some ⟨.other, 1, .pointer none⟩ := rfl
theorem tys_99 : tys 99 = some ⟨.other, 1, .nilFunc⟩ := rfl
theorem tys_100 : tys 100 = some ⟨.int .u64, 1, .int .u64 0⟩ := rfl
theorem tys_101 : tys 101 = some ⟨.other, 1, .nilFunc⟩ := rfl
theorem tys_102 : tys 102 = some ⟨.other, 1, .nilFunc⟩ := rfl
theorem tys_103 : tys 103 = some ⟨.other, 1, .nilFunc⟩ := rfl
theorem tys_104 : tys 104 = some ⟨.other, 1, .pointer none⟩ := rfl
theorem tys_105 : tys 105 = some ⟨.other, 1, .nilFunc⟩ := rfl
theorem tys_106 : tys 106 = some ⟨.other, 1, .nilFunc⟩ := rfl
theorem tys_107 : tys 107 = some ⟨.other, 1, .nilFunc⟩ := rfl
theorem tys_110 : tys 110 = some ⟨.other, 1, .nilFunc⟩ := rfl
theorem tys_111 : tys 111 = some ⟨.other, 1, .nilFunc⟩ := rfl
theorem tys_113 : tys 113 = some ⟨.other, 1, .nilFunc⟩ := rfl
theorem tys_114 : tys 114 = some ⟨.other, 1, .nilFunc⟩ := rfl
theorem tys_115 : tys 115 = some ⟨.other, 1, .pointer none⟩ := rfl
theorem tys_117 : tys 117 = some ⟨.other, 1, .nilFunc⟩ := rfl
theorem tys_118 : tys 118 = some ⟨.other, 1, .nilFunc⟩ := rfl
theorem tys_119 : tys 119 = some ⟨.other, 1, .nilFunc⟩ := rfl
theorem tys_120 : tys 120 = some ⟨.other, 1, .nilFunc⟩ := rfl
theorem tys_122 : tys 122 = some ⟨.other, 1, .nilFunc⟩ := rfl
theorem tys_123 : tys 123 = some ⟨.other, 1, .nilFunc⟩ := rfl
theorem tys_124 : tys 124 = some ⟨.other, 1, .nilFunc⟩ := rfl
theorem tys_125 : tys 125 = some ⟨.other, 1, .nilFunc⟩ := rfl
theorem tys_126 : tys 126 = some ⟨.slice 4 1 1, 1, .slice none 0 0⟩ := rfl
theorem tys_127 : tys 127 = some ⟨.other, 1, .nilFunc⟩ := rfl
theorem tys_133 : tys 133 = some ⟨.other, 1, .nilFunc⟩ := rfl
theorem tys_136 : tys 136 = some ⟨.other, 1, .nilFunc⟩ := rfl
theorem tys_137 : tys 137 = some ⟨.other, 1, .pointer none⟩ := rfl
set_option maxRecDepth 1000000 in
theorem tys_ok : TysOk Try.prog tys := by
  intro t i h
  unfold tys at h
  split at h <;> first | (cases h; kernel_rfl) | cases h
set_option maxRecDepth 1000000 in
theorem tys_el : elemsOk Try.prog tys := by
  intro t i h
  unfold tys at h
  split at h <;> first | (cases h; first | trivial | kernel_rfl) | cases h
theorem okP : Ok Try.prog tys := ⟨tys_ok, tys_el, by kernel_rfl⟩
end Go.Proofs.Ytcbknmnlgoeniaa
