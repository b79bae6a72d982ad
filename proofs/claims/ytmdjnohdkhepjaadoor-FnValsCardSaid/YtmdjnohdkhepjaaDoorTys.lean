/- The types of the program, as a table. -/
import Derived.Test.YtmdjnohdkhepjaaDoorProg
import Derived.Test.YtmdjnohdkhepjaaDoorI3
namespace Go.Proofs.YtmdjnohdkhepjaaDoor
open Go.RowKit
set_option maxHeartbeats 0

def tys : Tys := fun t => match t with
  | 3 => some ⟨.int .i64, 1, .int .i64 0⟩
  | 4 => some ⟨.bool, 1, .bool false⟩
  | 5 => some ⟨.int .u8, 1, .int .u8 0⟩
  | 9 => some ⟨.string, 1, .string ByteArray.empty⟩
  | 22 => some ⟨.slice 5 1 1, 1, .slice none 0 0⟩
  | 28 => some ⟨.slice 42 2 16, 1, .slice none 0 0⟩
  | 38 => some ⟨.slice 3 1 8, 1, .slice none 0 0⟩
  | 42 => some ⟨.struct [(0, 1, false), (1, 1, false)], 2, .agg #[.int .i64 0, .int .i64 0]⟩
  | 44 => some ⟨.slice 9 1 16, 1, .slice none 0 0⟩
  | 67 => some ⟨.struct [(0, 1, false), (1, 1, false)], 2, .agg #[.string ByteArray.empty, .bool false]⟩
  | 80 => some ⟨.int .u64, 1, .int .u64 0⟩
  | 82 => some ⟨.struct [(0, 1, false), (1, 1, false), (2, 1, false)], 3, .agg #[.slice none 0 0, .int .i64 0, .int .i64 0]⟩
  | 90 => some ⟨.int .u32, 1, .int .u32 0⟩
  | 91 => some ⟨.array 8 90 1, 8, .agg #[.int .u32 0, .int .u32 0, .int .u32 0, .int .u32 0, .int .u32 0, .int .u32 0, .int .u32 0, .int .u32 0]⟩
  | 97 => some ⟨.int .i64, 1, .int .i64 0⟩
  | 106 => some ⟨.int .u64, 1, .int .u64 0⟩
  | 107 => some ⟨.array 64 90 1, 64, .agg #[.int .u32 0, .int .u32 0, .int .u32 0, .int .u32 0, .int .u32 0, .int .u32 0, .int .u32 0, .int .u32 0, .int .u32 0, .int .u32 0, .int .u32 0, .int .u32 0, .int .u32 0, .int .u32 0, .int .u32 0, .int .u32 0, .int .u32 0, .int .u32 0, .int .u32 0, .int .u32 0, .int .u32 0, .int .u32 0, .int .u32 0, .int .u32 0, .int .u32 0, .int .u32 0, .int .u32 0, .int .u32 0, .int .u32 0, .int .u32 0, .int .u32 0, .int .u32 0, .int .u32 0, .int .u32 0, .int .u32 0, .int .u32 0, .int .u32 0, .int .u32 0, .int .u32 0, .int .u32 0, .int .u32 0, .int .u32 0, .int .u32 0, .int .u32 0, .int .u32 0, .int .u32 0, .int .u32 0, .int .u32 0, .int .u32 0, .int .u32 0, .int .u32 0, .int .u32 0, .int .u32 0, .int .u32 0, .int .u32 0, .int .u32 0, .int .u32 0, .int .u32 0, .int .u32 0, .int .u32 0, .int .u32 0, .int .u32 0, .int .u32 0, .int .u32 0]⟩
  | 111 => some ⟨.int .u64, 1, .int .u64 0⟩
  | _ => none
theorem tys_3 : tys 3 = some ⟨.int .i64, 1, .int .i64 0⟩ := rfl
theorem tys_4 : tys 4 = some ⟨.bool, 1, .bool false⟩ := rfl
theorem tys_5 : tys 5 = some ⟨.int .u8, 1, .int .u8 0⟩ := rfl
theorem tys_9 : tys 9 = some ⟨.string, 1, .string ByteArray.empty⟩ := rfl
theorem tys_22 : tys 22 = some ⟨.slice 5 1 1, 1, .slice none 0 0⟩ := rfl
theorem tys_28 : tys 28 = some ⟨.slice 42 2 16, 1, .slice none 0 0⟩ := rfl
theorem tys_38 : tys 38 = some ⟨.slice 3 1 8, 1, .slice none 0 0⟩ := rfl
theorem tys_42 : tys 42 = some ⟨.struct [(0, 1, false), (1, 1, false)], 2, .agg #[.int .i64 0, .int .i64 0]⟩ := rfl
theorem tys_44 : tys 44 = some ⟨.slice 9 1 16, 1, .slice none 0 0⟩ := rfl
theorem tys_67 : tys 67 = some ⟨.struct [(0, 1, false), (1, 1, false)], 2, .agg #[.string ByteArray.empty, .bool false]⟩ := rfl
theorem tys_80 : tys 80 = some ⟨.int .u64, 1, .int .u64 0⟩ := rfl
theorem tys_82 : tys 82 = some ⟨.struct [(0, 1, false), (1, 1, false), (2, 1, false)], 3, .agg #[.slice none 0 0, .int .i64 0, .int .i64 0]⟩ := rfl
theorem tys_90 : tys 90 = some ⟨.int .u32, 1, .int .u32 0⟩ := rfl
theorem tys_91 : tys 91 = some ⟨.array 8 90 1, 8, .agg #[.int .u32 0, .int .u32 0, .int .u32 0, .int .u32 0, .int .u32 0, .int .u32 0, .int .u32 0, .int .u32 0]⟩ := rfl
theorem tys_97 : tys 97 = some ⟨.int .i64, 1, .int .i64 0⟩ := rfl
theorem tys_106 : tys 106 = some ⟨.int .u64, 1, .int .u64 0⟩ := rfl
theorem tys_107 : tys 107 = some ⟨.array 64 90 1, 64, .agg #[.int .u32 0, .int .u32 0, .int .u32 0, .int .u32 0, .int .u32 0, .int .u32 0, .int .u32 0, .int .u32 0, .int .u32 0, .int .u32 0, .int .u32 0, .int .u32 0, .int .u32 0, .int .u32 0, .int .u32 0, .int .u32 0, .int .u32 0, .int .u32 0, .int .u32 0, .int .u32 0, .int .u32 0, .int .u32 0, .int .u32 0, .int .u32 0, .int .u32 0, .int .u32 0, .int .u32 0, .int .u32 0, .int .u32 0, .int .u32 0, .int .u32 0, .int .u32 0, .int .u32 0, .int .u32 0, .int .u32 0, .int .u32 0, .int .u32 0, .int .u32 0, .int .u32 0, .int .u32 0, .int .u32 0, .int .u32 0, .int .u32 0, .int .u32 0, .int .u32 0, .int .u32 0, .int .u32 0, .int .u32 0, .int .u32 0, .int .u32 0, .int .u32 0, .int .u32 0, .int .u32 0, .int .u32 0, .int .u32 0, .int .u32 0, .int .u32 0, .int .u32 0, .int .u32 0, .int .u32 0, .int .u32 0, .int .u32 0, .int .u32 0, .int .u32 0]⟩ := rfl
theorem tys_111 : tys 111 = some ⟨.int .u64, 1, .int .u64 0⟩ := rfl
set_option maxRecDepth 1000000 in
theorem tys_ok : TysOk Tryd.prog tys := by
  intro t i h
  unfold tys at h
  split at h <;> first | (cases h; kernel_rfl) | cases h
set_option maxRecDepth 1000000 in
theorem tys_el : elemsOk Tryd.prog tys := by
  intro t i h
  unfold tys at h
  split at h <;> first | (cases h; first | trivial | kernel_rfl) | cases h
theorem okP : Ok Tryd.prog tys := ⟨tys_ok, tys_el, by kernel_rfl⟩
end Go.Proofs.YtmdjnohdkhepjaaDoor
