/- The types of the program, as a table. -/
import Derived.Test.YtkbikihbomnghaaProg
import Derived.Test.YtkbikihbomnghaaI3
namespace Go.Proofs.Ytkbikihbomnghaa
open Go.RowKit
set_option maxHeartbeats 0

def tys : Tys := fun t => match t with
  | 3 => some ⟨.int .i64, 1, .int .i64 0⟩
  | 4 => some ⟨.bool, 1, .bool false⟩
  | 5 => some ⟨.int .u8, 1, .int .u8 0⟩
  | 9 => some ⟨.string, 1, .string ByteArray.empty⟩
  | 26 => some ⟨.slice 64 4 32, 1, .slice none 0 0⟩
  | 28 => some ⟨.struct [(0, 1, false), (1, 1, false)], 2, .agg #[.slice none 0 0, .int .i64 0]⟩
  | 35 => some ⟨.slice 5 1 1, 1, .slice none 0 0⟩
  | 39 => some ⟨.struct [(0, 1, false), (1, 1, false), (2, 1, false), (3, 1, false)], 4, .agg #[.int .i64 0, .int .i64 0, .int .i64 0, .string ByteArray.empty]⟩
  | 40 => some ⟨.slice 44 5 48, 1, .slice none 0 0⟩
  | 42 => some ⟨.struct [(0, 1, false), (1, 4, true), (5, 4, true), (9, 1, false), (10, 1, false)], 11, .agg #[.int .i64 0, .int .i64 0, .int .i64 0, .int .i64 0, .string ByteArray.empty, .int .i64 0, .int .i64 0, .int .i64 0, .string ByteArray.empty, .bool false, .slice none 0 0]⟩
  | 44 => some ⟨.struct [(0, 1, false), (1, 1, false), (2, 1, false), (3, 1, false), (4, 1, false)], 5, .agg #[.int .i64 0, .int .i64 0, .int .i64 0, .string ByteArray.empty, .int .i64 0]⟩
  | 51 => some ⟨.slice 3 1 8, 1, .slice none 0 0⟩
  | 64 => some ⟨.struct [(0, 1, false), (1, 1, false), (2, 1, false), (3, 1, false)], 4, .agg #[.int .i64 0, .bool false, .int .i64 0, .int .i64 0]⟩
  | 68 => some ⟨.slice 9 1 16, 1, .slice none 0 0⟩
  | 76 => some ⟨.slice 51 1 24, 1, .slice none 0 0⟩
  | 78 => some ⟨.struct [(0, 1, false), (1, 1, false)], 2, .agg #[.slice none 0 0, .int .i64 0]⟩
  | 97 => some ⟨.slice 144 2 16, 1, .slice none 0 0⟩
  | 144 => some ⟨.struct [(0, 1, false), (1, 1, false)], 2, .agg #[.int .i64 0, .int .i64 0]⟩
  | 157 => some ⟨.int .u64, 1, .int .u64 0⟩
  | 164 => some ⟨.struct [(0, 1, false), (1, 1, false), (2, 1, false)], 3, .agg #[.slice none 0 0, .int .i64 0, .int .i64 0]⟩
  | 168 => some ⟨.struct [(0, 1, false), (1, 1, false)], 2, .agg #[.string ByteArray.empty, .bool false]⟩
  | 180 => some ⟨.int .i64, 1, .int .i64 0⟩
  | 189 => some ⟨.int .u32, 1, .int .u32 0⟩
  | 191 => some ⟨.int .u64, 1, .int .u64 0⟩
  | 200 => some ⟨.int .u64, 1, .int .u64 0⟩
  | _ => none
theorem tys_3 : tys 3 = some ⟨.int .i64, 1, .int .i64 0⟩ := rfl
theorem tys_4 : tys 4 = some ⟨.bool, 1, .bool false⟩ := rfl
theorem tys_5 : tys 5 = some ⟨.int .u8, 1, .int .u8 0⟩ := rfl
theorem tys_9 : tys 9 = some ⟨.string, 1, .string ByteArray.empty⟩ := rfl
theorem tys_26 : tys 26 = some ⟨.slice 64 4 32, 1, .slice none 0 0⟩ := rfl
theorem tys_28 : tys 28 = some ⟨.struct [(0, 1, false), (1, 1, false)], 2, .agg #[.slice none 0 0, .int .i64 0]⟩ := rfl
theorem tys_35 : tys 35 = some ⟨.slice 5 1 1, 1, .slice none 0 0⟩ := rfl
theorem tys_39 : tys 39 = some ⟨.struct [(0, 1, false), (1, 1, false), (2, 1, false), (3, 1, false)], 4, .agg #[.int .i64 0, .int .i64 0, .int .i64 0, .string ByteArray.empty]⟩ := rfl
theorem tys_40 : tys 40 = some ⟨.slice 44 5 48, 1, .slice none 0 0⟩ := rfl
theorem tys_42 : tys 42 = some ⟨.struct [(0, 1, false), (1, 4, true), (5, 4, true), (9, 1, false), (10, 1, false)], 11, .agg #[.int .i64 0, .int .i64 0, .int .i64 0, .int .i64 0, .string ByteArray.empty, .int .i64 0, .int .i64 0, .int .i64 0, .string ByteArray.empty, .bool false, .slice none 0 0]⟩ := rfl
theorem tys_44 : tys 44 = some ⟨.struct [(0, 1, false), (1, 1, false), (2, 1, false), (3, 1, false), (4, 1, false)], 5, .agg #[.int .i64 0, .int .i64 0, .int .i64 0, .string ByteArray.empty, .int .i64 0]⟩ := rfl
theorem tys_51 : tys 51 = some ⟨.slice 3 1 8, 1, .slice none 0 0⟩ := rfl
theorem tys_64 : tys 64 = some ⟨.struct [(0, 1, false), (1, 1, false), (2, 1, false), (3, 1, false)], 4, .agg #[.int .i64 0, .bool false, .int .i64 0, .int .i64 0]⟩ := rfl
theorem tys_68 : tys 68 = some ⟨.slice 9 1 16, 1, .slice none 0 0⟩ := rfl
theorem tys_76 : tys 76 = some ⟨.slice 51 1 24, 1, .slice none 0 0⟩ := rfl
theorem tys_78 : tys 78 = some ⟨.struct [(0, 1, false), (1, 1, false)], 2, .agg #[.slice none 0 0, .int .i64 0]⟩ := rfl
theorem tys_97 : tys 97 = some ⟨.slice 144 2 16, 1, .slice none 0 0⟩ := rfl
theorem tys_144 : tys 144 = some ⟨.struct [(0, 1, false), (1, 1, false)], 2, .agg #[.int .i64 0, .int .i64 0]⟩ := rfl
theorem tys_157 : tys 157 = some ⟨.int .u64, 1, .int .u64 0⟩ := rfl
theorem tys_164 : tys 164 = some ⟨.struct [(0, 1, false), (1, 1, false), (2, 1, false)], 3, .agg #[.slice none 0 0, .int .i64 0, .int .i64 0]⟩ := rfl
theorem tys_168 : tys 168 = some ⟨.struct [(0, 1, false), (1, 1, false)], 2, .agg #[.string ByteArray.empty, .bool false]⟩ := rfl
theorem tys_180 : tys 180 = some ⟨.int .i64, 1, .int .i64 0⟩ := rfl
theorem tys_189 : tys 189 = some ⟨.int .u32, 1, .int .u32 0⟩ := rfl
theorem tys_191 : tys 191 = some ⟨.int .u64, 1, .int .u64 0⟩ := rfl
theorem tys_200 : tys 200 = some ⟨.int .u64, 1, .int .u64 0⟩ := rfl
set_option maxRecDepth 1000000 in
theorem tys_ok : TysOk Try.prog tys := by
  intro t i h
  unfold tys at h
  split at h <;> first | (cases h; kernel_rfl) | cases h
set_option maxRecDepth 1000000 in
theorem tys_el : elemsOk Try.prog tys := by
  intro t i h
  unfold tys at h
  split at h <;> first | (cases h; first | trivial | kernel_rfl) | cases h
theorem okP : Ok Try.prog tys := ⟨tys_ok, tys_el, by kernel_rfl⟩
end Go.Proofs.Ytkbikihbomnghaa
