/- The types of the program, as a table. -/
import Derived.Test.YtolabdbojephpaaDoorProg
import Derived.Test.YtolabdbojephpaaDoorI3
namespace Go.Proofs.YtolabdbojephpaaDoor
open Go.RowKit
set_option maxHeartbeats 0

def tys : Tys := fun t => match t with
  | 3 => some ⟨.int .i64, 1, .int .i64 0⟩
  | 4 => some ⟨.bool, 1, .bool false⟩
  | 5 => some ⟨.int .u8, 1, .int .u8 0⟩
  | 9 => some ⟨.string, 1, .string ByteArray.empty⟩
  | 22 => some ⟨.slice 5 1 1, 1, .slice none 0 0⟩
  | 24 => some ⟨.slice 39 2 16, 1, .slice none 0 0⟩
  | 34 => some ⟨.slice 3 1 8, 1, .slice none 0 0⟩
  | 39 => some ⟨.struct [(0, 1, false), (1, 1, false)], 2, .agg #[.int .i64 0, .int .i64 0]⟩
  | 55 => some ⟨.struct [(0, 1, false), (1, 1, false)], 2, .agg #[.string ByteArray.empty, .bool false]⟩
  | 65 => some ⟨.int .u32, 1, .int .u32 0⟩
  | 66 => some ⟨.array 8 65 1, 8, .agg #[.int .u32 0, .int .u32 0, .int .u32 0, .int .u32 0, .int .u32 0, .int .u32 0, .int .u32 0, .int .u32 0]⟩
  | 68 => some ⟨.int .u64, 1, .int .u64 0⟩
  | 72 => some ⟨.struct [(0, 1, false), (1, 1, false), (2, 1, false)], 3, .agg #[.slice none 0 0, .int .i64 0, .int .i64 0]⟩
  | 78 => some ⟨.array 64 65 1, 64, .agg #[.int .u32 0, .int .u32 0, .int .u32 0, .int .u32 0, .int .u32 0, .int .u32 0, .int .u32 0, .int .u32 0, .int .u32 0, .int .u32 0, .int .u32 0, .int .u32 0, .int .u32 0, .int .u32 0, .int .u32 0, .int .u32 0, .int .u32 0, .int .u32 0, .int .u32 0, .int .u32 0, .int .u32 0, .int .u32 0, .int .u32 0, .int .u32 0, .int .u32 0, .int .u32 0, .int .u32 0, .int .u32 0, .int .u32 0, .int .u32 0, .int .u32 0, .int .u32 0, .int .u32 0, .int .u32 0, .int .u32 0, .int .u32 0, .int .u32 0, .int .u32 0, .int .u32 0, .int .u32 0, .int .u32 0, .int .u32 0, .int .u32 0, .int .u32 0, .int .u32 0, .int .u32 0, .int .u32 0, .int .u32 0, .int .u32 0, .int .u32 0, .int .u32 0, .int .u32 0, .int .u32 0, .int .u32 0, .int .u32 0, .int .u32 0, .int .u32 0, .int .u32 0, .int .u32 0, .int .u32 0, .int .u32 0, .int .u32 0, .int .u32 0, .int .u32 0]⟩
  | 84 => some ⟨.int .i64, 1, .int .i64 0⟩
  | 93 => some ⟨.int .u64, 1, .int .u64 0⟩
  | 94 => some ⟨.int .u64, 1, .int .u64 0⟩
  | _ => none
theorem tys_3 : tys 3 = some ⟨.int .i64, 1, .int .i64 0⟩ := rfl
theorem tys_4 : tys 4 = some ⟨.bool, 1, .bool false⟩ := rfl
theorem tys_5 : tys 5 = some ⟨.int .u8, 1, .int .u8 0⟩ := rfl
theorem tys_9 : tys 9 = some ⟨.string, 1, .string ByteArray.empty⟩ := rfl
theorem tys_22 : tys 22 = some ⟨.slice 5 1 1, 1, .slice none 0 0⟩ := rfl
theorem tys_24 : tys 24 = some ⟨.slice 39 2 16, 1, .slice none 0 0⟩ := rfl
theorem tys_34 : tys 34 = some ⟨.slice 3 1 8, 1, .slice none 0 0⟩ := rfl
theorem tys_39 : tys 39 = some ⟨.struct [(0, 1, false), (1, 1, false)], 2, .agg #[.int .i64 0, .int .i64 0]⟩ := rfl
theorem tys_55 : tys 55 = some ⟨.struct [(0, 1, false), (1, 1, false)], 2, .agg #[.string ByteArray.empty, .bool false]⟩ := rfl
theorem tys_65 : tys 65 = some ⟨.int .u32, 1, .int .u32 0⟩ := rfl
theorem tys_66 : tys 66 = some ⟨.array 8 65 1, 8, .agg #[.int .u32 0, .int .u32 0, .int .u32 0, .int .u32 0, .int .u32 0, .int .u32 0, .int .u32 0, .int .u32 0]⟩ := rfl
theorem tys_68 : tys 68 = some ⟨.int .u64, 1, .int .u64 0⟩ := rfl
theorem tys_72 : tys 72 = some ⟨.struct [(0, 1, false), (1, 1, false), (2, 1, false)], 3, .agg #[.slice none 0 0, .int .i64 0, .int .i64 0]⟩ := rfl
theorem tys_78 : tys 78 = some ⟨.array 64 65 1, 64, .agg #[.int .u32 0, .int .u32 0, .int .u32 0, .int .u32 0, .int .u32 0, .int .u32 0, .int .u32 0, .int .u32 0, .int .u32 0, .int .u32 0, .int .u32 0, .int .u32 0, .int .u32 0, .int .u32 0, .int .u32 0, .int .u32 0, .int .u32 0, .int .u32 0, .int .u32 0, .int .u32 0, .int .u32 0, .int .u32 0, .int .u32 0, .int .u32 0, .int .u32 0, .int .u32 0, .int .u32 0, .int .u32 0, .int .u32 0, .int .u32 0, .int .u32 0, .int .u32 0, .int .u32 0, .int .u32 0, .int .u32 0, .int .u32 0, .int .u32 0, .int .u32 0, .int .u32 0, .int .u32 0, .int .u32 0, .int .u32 0, .int .u32 0, .int .u32 0, .int .u32 0, .int .u32 0, .int .u32 0, .int .u32 0, .int .u32 0, .int .u32 0, .int .u32 0, .int .u32 0, .int .u32 0, .int .u32 0, .int .u32 0, .int .u32 0, .int .u32 0, .int .u32 0, .int .u32 0, .int .u32 0, .int .u32 0, .int .u32 0, .int .u32 0, .int .u32 0]⟩ := rfl
theorem tys_84 : tys 84 = some ⟨.int .i64, 1, .int .i64 0⟩ := rfl
theorem tys_93 : tys 93 = some ⟨.int .u64, 1, .int .u64 0⟩ := rfl
theorem tys_94 : tys 94 = some ⟨.int .u64, 1, .int .u64 0⟩ := rfl
set_option maxRecDepth 1000000 in
theorem tys_ok : TysOk Tryd.prog tys := by
  intro t i h
  unfold tys at h
  split at h <;> first | (cases h; kernel_rfl) | cases h
set_option maxRecDepth 1000000 in
theorem tys_el : elemsOk Tryd.prog tys := by
  intro t i h
  unfold tys at h
  split at h <;> first | (cases h; first | trivial | kernel_rfl) | cases h
theorem okP : Ok Tryd.prog tys := ⟨tys_ok, tys_el, by kernel_rfl⟩
end Go.Proofs.YtolabdbojephpaaDoor
