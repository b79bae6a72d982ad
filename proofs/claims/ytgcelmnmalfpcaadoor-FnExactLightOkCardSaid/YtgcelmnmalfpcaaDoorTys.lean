/- The types of the program, as a table. -/
import Derived.Test.YtgcelmnmalfpcaaDoorProg
import Derived.Test.YtgcelmnmalfpcaaDoorI3
namespace Go.Proofs.YtgcelmnmalfpcaaDoor
open Go.RowKit
set_option maxHeartbeats 0

def tys : Tys := fun t => match t with
  | 3 => some ⟨.int .i64, 1, .int .i64 0⟩
  | 4 => some ⟨.bool, 1, .bool false⟩
  | 5 => some ⟨.int .u8, 1, .int .u8 0⟩
  | 9 => some ⟨.string, 1, .string ByteArray.empty⟩
  | 22 => some ⟨.slice 3 1 8, 1, .slice none 0 0⟩
  | 27 => some ⟨.slice 74 8 112, 1, .slice none 0 0⟩
  | 49 => some ⟨.struct [(0, 1, false), (1, 1, false)], 2, .agg #[.int .i64 0, .int .i64 0]⟩
  | 50 => some ⟨.struct [(0, 1, false), (1, 1, false), (2, 1, false), (3, 1, false), (4, 1, false), (5, 1, false)], 6, .agg #[.int .i64 0, .int .i64 0, .string ByteArray.empty, .string ByteArray.empty, .string ByteArray.empty, .string ByteArray.empty]⟩
  | 51 => some ⟨.slice 120 2 16, 1, .slice none 0 0⟩
  | 53 => some ⟨.struct [(0, 6, true), (6, 1, false)], 7, .agg #[.int .i64 0, .int .i64 0, .string ByteArray.empty, .string ByteArray.empty, .string ByteArray.empty, .string ByteArray.empty, .slice none 0 0]⟩
  | 54 => some ⟨.slice 50 6 80, 1, .slice none 0 0⟩
  | 56 => some ⟨.struct [(0, 1, false), (1, 1, false)], 2, .agg #[.slice none 0 0, .int .i64 0]⟩
  | 57 => some ⟨.slice 111 4 32, 1, .slice none 0 0⟩
  | 59 => some ⟨.struct [(0, 1, false), (1, 1, false)], 2, .agg #[.slice none 0 0, .int .i64 0]⟩
  | 61 => some ⟨.struct [(0, 2, true), (2, 1, false), (3, 7, true), (10, 2, true), (12, 2, true), (14, 1, false)], 15, .agg #[.int .i64 0, .int .i64 0, .int .i64 0, .int .i64 0, .int .i64 0, .string ByteArray.empty, .string ByteArray.empty, .string ByteArray.empty, .string ByteArray.empty, .slice none 0 0, .slice none 0 0, .int .i64 0, .slice none 0 0, .int .i64 0, .int .i64 0]⟩
  | 74 => some ⟨.struct [(0, 1, false), (1, 6, true), (7, 1, false)], 8, .agg #[.int .i64 0, .int .i64 0, .int .i64 0, .string ByteArray.empty, .string ByteArray.empty, .string ByteArray.empty, .string ByteArray.empty, .slice none 0 0]⟩
  | 111 => some ⟨.struct [(0, 1, false), (1, 1, false), (2, 1, false), (3, 1, false)], 4, .agg #[.int .i64 0, .bool false, .int .i64 0, .int .i64 0]⟩
  | 120 => some ⟨.struct [(0, 1, false), (1, 1, false)], 2, .agg #[.int .i64 0, .int .i64 0]⟩
  | 131 => some ⟨.slice 5 1 1, 1, .slice none 0 0⟩
  | 132 => some ⟨.int .u64, 1, .int .u64 0⟩
  | 137 => some ⟨.int .u32, 1, .int .u32 0⟩
  | 138 => some ⟨.array 8 137 1, 8, .agg #[.int .u32 0, .int .u32 0, .int .u32 0, .int .u32 0, .int .u32 0, .int .u32 0, .int .u32 0, .int .u32 0]⟩
  | 141 => some ⟨.array 64 137 1, 64, .agg #[.int .u32 0, .int .u32 0, .int .u32 0, .int .u32 0, .int .u32 0, .int .u32 0, .int .u32 0, .int .u32 0, .int .u32 0, .int .u32 0, .int .u32 0, .int .u32 0, .int .u32 0, .int .u32 0, .int .u32 0, .int .u32 0, .int .u32 0, .int .u32 0, .int .u32 0, .int .u32 0, .int .u32 0, .int .u32 0, .int .u32 0, .int .u32 0, .int .u32 0, .int .u32 0, .int .u32 0, .int .u32 0, .int .u32 0, .int .u32 0, .int .u32 0, .int .u32 0, .int .u32 0, .int .u32 0, .int .u32 0, .int .u32 0, .int .u32 0, .int .u32 0, .int .u32 0, .int .u32 0, .int .u32 0, .int .u32 0, .int .u32 0, .int .u32 0, .int .u32 0, .int .u32 0, .int .u32 0, .int .u32 0, .int .u32 0, .int .u32 0, .int .u32 0, .int .u32 0, .int .u32 0, .int .u32 0, .int .u32 0, .int .u32 0, .int .u32 0, .int .u32 0, .int .u32 0, .int .u32 0, .int .u32 0, .int .u32 0, .int .u32 0, .int .u32 0]⟩
  | _ => none
theorem tys_3 : tys 3 = some ⟨.int .i64, 1, .int .i64 0⟩ := rfl
theorem tys_4 : tys 4 = some ⟨.bool, 1, .bool false⟩ := rfl
theorem tys_5 : tys 5 = some ⟨.int .u8, 1, .int .u8 0⟩ := rfl
theorem tys_9 : tys 9 = some ⟨.string, 1, .string ByteArray.empty⟩ := rfl
theorem tys_22 : tys 22 = some ⟨.slice 3 1 8, 1, .slice none 0 0⟩ := rfl
theorem tys_27 : tys 27 = some ⟨.slice 74 8 112, 1, .slice none 0 0⟩ := rfl
theorem tys_49 : tys 49 = some ⟨.struct [(0, 1, false), (1, 1, false)], 2, .agg #[.int .i64 0, .int .i64 0]⟩ := rfl
theorem tys_50 : tys 50 = some ⟨.struct [(0, 1, false), (1, 1, false), (2, 1, false), (3, 1, false), (4, 1, false), (5, 1, false)], 6, .agg #[.int .i64 0, .int .i64 0, .string ByteArray.empty, .string ByteArray.empty, .string ByteArray.empty, .string ByteArray.empty]⟩ := rfl
theorem tys_51 : tys 51 = some ⟨.slice 120 2 16, 1, .slice none 0 0⟩ := rfl
theorem tys_53 : tys 53 = some ⟨.struct [(0, 6, true), (6, 1, false)], 7, .agg #[.int .i64 0, .int .i64 0, .string ByteArray.empty, .string ByteArray.empty, .string ByteArray.empty, .string ByteArray.empty, .slice none 0 0]⟩ := rfl
theorem tys_54 : tys 54 = some ⟨.slice 50 6 80, 1, .slice none 0 0⟩ := rfl
theorem tys_56 : tys 56 = some ⟨.struct [(0, 1, false), (1, 1, false)], 2, .agg #[.slice none 0 0, .int .i64 0]⟩ := rfl
theorem tys_57 : tys 57 = some ⟨.slice 111 4 32, 1, .slice none 0 0⟩ := rfl
theorem tys_59 : tys 59 = some ⟨.struct [(0, 1, false), (1, 1, false)], 2, .agg #[.slice none 0 0, .int .i64 0]⟩ := rfl
theorem tys_61 : tys 61 = some ⟨.struct [(0, 2, true), (2, 1, false), (3, 7, true), (10, 2, true), (12, 2, true), (14, 1, false)], 15, .agg #[.int .i64 0, .int .i64 0, .int .i64 0, .int .i64 0, .int .i64 0, .string ByteArray.empty, .string ByteArray.empty, .string ByteArray.empty, .string ByteArray.empty, .slice none 0 0, .slice none 0 0, .int .i64 0, .slice none 0 0, .int .i64 0, .int .i64 0]⟩ := rfl
theorem tys_74 : tys 74 = some ⟨.struct [(0, 1, false), (1, 6, true), (7, 1, false)], 8, .agg #[.int .i64 0, .int .i64 0, .int .i64 0, .string ByteArray.empty, .string ByteArray.empty, .string ByteArray.empty, .string ByteArray.empty, .slice none 0 0]⟩ := rfl
theorem tys_111 : tys 111 = some ⟨.struct [(0, 1, false), (1, 1, false), (2, 1, false), (3, 1, false)], 4, .agg #[.int .i64 0, .bool false, .int .i64 0, .int .i64 0]⟩ := rfl
theorem tys_120 : tys 120 = some ⟨.struct [(0, 1, false), (1, 1, false)], 2, .agg #[.int .i64 0, .int .i64 0]⟩ := rfl
theorem tys_131 : tys 131 = some ⟨.slice 5 1 1, 1, .slice none 0 0⟩ := rfl
theorem tys_132 : tys 132 = some ⟨.int .u64, 1, .int .u64 0⟩ := rfl
theorem tys_137 : tys 137 = some ⟨.int .u32, 1, .int .u32 0⟩ := rfl
theorem tys_138 : tys 138 = some ⟨.array 8 137 1, 8, .agg #[.int .u32 0, .int .u32 0, .int .u32 0, .int .u32 0, .int .u32 0, .int .u32 0, .int .u32 0, .int .u32 0]⟩ := rfl
theorem tys_141 : tys 141 = some ⟨.array 64 137 1, 64, .agg #[.int .u32 0, .int .u32 0, .int .u32 0, .int .u32 0, .int .u32 0, .int .u32 0, .int .u32 0, .int .u32 0, .int .u32 0, .int .u32 0, .int .u32 0, .int .u32 0, .int .u32 0, .int .u32 0, .int .u32 0, .int .u32 0, .int .u32 0, .int .u32 0, .int .u32 0, .int .u32 0, .int .u32 0, .int .u32 0, .int .u32 0, .int .u32 0, .int .u32 0, .int .u32 0, .int .u32 0, .int .u32 0, .int .u32 0, .int .u32 0, .int .u32 0, .int .u32 0, .int .u32 0, .int .u32 0, .int .u32 0, .int .u32 0, .int .u32 0, .int .u32 0, .int .u32 0, .int .u32 0, .int .u32 0, .int .u32 0, .int .u32 0, .int .u32 0, .int .u32 0, .int .u32 0, .int .u32 0, .int .u32 0, .int .u32 0, .int .u32 0, .int .u32 0, .int .u32 0, .int .u32 0, .int .u32 0, .int .u32 0, .int .u32 0, .int .u32 0, .int .u32 0, .int .u32 0, .int .u32 0, .int .u32 0, .int .u32 0, .int .u32 0, .int .u32 0]⟩ := rfl
set_option maxRecDepth 1000000 in
theorem tys_ok : TysOk Tryd.prog tys := by
  intro t i h
  unfold tys at h
  split at h <;> first | (cases h; kernel_rfl) | cases h
set_option maxRecDepth 1000000 in
theorem tys_el : elemsOk Tryd.prog tys := by
  intro t i h
  unfold tys at h
  split at h <;> first | (cases h; first | trivial | kernel_rfl) | cases h
theorem okP : Ok Tryd.prog tys := ⟨tys_ok, tys_el, by kernel_rfl⟩
end Go.Proofs.YtgcelmnmalfpcaaDoor
