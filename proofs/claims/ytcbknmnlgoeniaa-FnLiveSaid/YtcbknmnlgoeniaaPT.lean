/- Data of the program on the pure machine. Printed by a program of ours. -/
import Derived.Test.YtcbknmnlgoeniaaPvZ
import Derived.Test.YtcbknmnlgoeniaaI4
import Derived.Test.YtcbknmnlgoeniaaTys
namespace Go.Proofs.Ytcbknmnlgoeniaa
open Go.RowKit

def pInt (x : Int) : List PV := [.val (.int .i64 x)]
theorem pInt_len (x : Int) : (pInt x).length = 1 := rfl
theorem pInt_clo (x : Int) : (pInt x).all cloC = true := rfl
theorem pInt_ren {φ : List Nat} {n : Nat} (l : List Int) : (l.map pInt).map (renL φ n) = l.map pInt := rows_flat pInt_clo l
theorem pInt_one {φ : List Nat} {n : Nat} (x : Int) : renL φ n (pInt x) = pInt x := renL_flat (pInt_clo x)
theorem pInt_rc (l : List Int) : (∀ row ∈ l.map pInt, row.all cloC = true) = True := eq_true fun row h => by obtain ⟨x, _, rfl⟩ := List.mem_map.1 h; rfl
theorem pInt_fre (x : Int) : freL (pInt x) = true := rfl
theorem pInt_rf (l : List Int) : (∀ row ∈ l.map pInt, freL row = true) = True := eq_true fun row h => by obtain ⟨x, _, rfl⟩ := List.mem_map.1 h; rfl
theorem pInt_ro (l : List Int) : (∀ row ∈ l.map pInt, row.all oneP = true) = True := eq_true fun row h => by obtain ⟨x, _, rfl⟩ := List.mem_map.1 h; rfl
theorem pInt_rl (l : List Int) : (∀ row ∈ l.map pInt, row.length = 1) = True := eq_true fun row h => by obtain ⟨x, _, rfl⟩ := List.mem_map.1 h; rfl
def pStr (x : ByteArray) : List PV := [.val (.string x)]
theorem pStr_len (x : ByteArray) : (pStr x).length = 1 := rfl
theorem pStr_clo (x : ByteArray) : (pStr x).all cloC = true := rfl
theorem pStr_ren {φ : List Nat} {n : Nat} (l : List ByteArray) : (l.map pStr).map (renL φ n) = l.map pStr := rows_flat pStr_clo l
theorem pStr_one {φ : List Nat} {n : Nat} (x : ByteArray) : renL φ n (pStr x) = pStr x := renL_flat (pStr_clo x)
theorem pStr_rc (l : List ByteArray) : (∀ row ∈ l.map pStr, row.all cloC = true) = True := eq_true fun row h => by obtain ⟨x, _, rfl⟩ := List.mem_map.1 h; rfl
theorem pStr_fre (x : ByteArray) : freL (pStr x) = true := rfl
theorem pStr_rf (l : List ByteArray) : (∀ row ∈ l.map pStr, freL row = true) = True := eq_true fun row h => by obtain ⟨x, _, rfl⟩ := List.mem_map.1 h; rfl
theorem pStr_ro (l : List ByteArray) : (∀ row ∈ l.map pStr, row.all oneP = true) = True := eq_true fun row h => by obtain ⟨x, _, rfl⟩ := List.mem_map.1 h; rfl
theorem pStr_rl (l : List ByteArray) : (∀ row ∈ l.map pStr, row.length = 1) = True := eq_true fun row h => by obtain ⟨x, _, rfl⟩ := List.mem_map.1 h; rfl
def pBool (x : Bool) : List PV := [.val (.bool x)]
theorem pBool_len (x : Bool) : (pBool x).length = 1 := rfl
theorem pBool_clo (x : Bool) : (pBool x).all cloC = true := rfl
theorem pBool_ren {φ : List Nat} {n : Nat} (l : List Bool) : (l.map pBool).map (renL φ n) = l.map pBool := rows_flat pBool_clo l
theorem pBool_one {φ : List Nat} {n : Nat} (x : Bool) : renL φ n (pBool x) = pBool x := renL_flat (pBool_clo x)
theorem pBool_rc (l : List Bool) : (∀ row ∈ l.map pBool, row.all cloC = true) = True := eq_true fun row h => by obtain ⟨x, _, rfl⟩ := List.mem_map.1 h; rfl
theorem pBool_fre (x : Bool) : freL (pBool x) = true := rfl
theorem pBool_rf (l : List Bool) : (∀ row ∈ l.map pBool, freL row = true) = True := eq_true fun row h => by obtain ⟨x, _, rfl⟩ := List.mem_map.1 h; rfl
theorem pBool_ro (l : List Bool) : (∀ row ∈ l.map pBool, row.all oneP = true) = True := eq_true fun row h => by obtain ⟨x, _, rfl⟩ := List.mem_map.1 h; rfl
theorem pBool_rl (l : List Bool) : (∀ row ∈ l.map pBool, row.length = 1) = True := eq_true fun row h => by obtain ⟨x, _, rfl⟩ := List.mem_map.1 h; rfl
def pRow (x : List Int) : List PV := [.sl 1 (x.map pInt)]
theorem pRow_len (x : (List Int)) : (pRow x).length = 1 := rfl
theorem pRow_clo (x : (List Int)) : (pRow x).all cloC = true := rfl
theorem pRow_ren {φ : List Nat} {n : Nat} (l : List (List Int)) : (l.map pRow).map (renL φ n) = l.map pRow := rows_flat pRow_clo l
theorem pRow_one {φ : List Nat} {n : Nat} (x : (List Int)) : renL φ n (pRow x) = pRow x := renL_flat (pRow_clo x)
theorem pRow_rc (l : List (List Int)) : (∀ row ∈ l.map pRow, row.all cloC = true) = True := eq_true fun row h => by obtain ⟨x, _, rfl⟩ := List.mem_map.1 h; rfl
theorem pRow_rl (l : List (List Int)) : (∀ row ∈ l.map pRow, row.length = 1) = True := eq_true fun row h => by obtain ⟨x, _, rfl⟩ := List.mem_map.1 h; rfl
structure GVal where
  fId : Int
  fPower : Int
def pVal (x : GVal) : List PV := [.val (.int .i64 x.fId), .val (.int .i64 x.fPower)]
theorem pVal_len (x : GVal) : (pVal x).length = 2 := rfl
theorem pVal_clo (x : GVal) : (pVal x).all cloC = true := rfl
theorem pVal_ren {φ : List Nat} {n : Nat} (l : List GVal) : (l.map pVal).map (renL φ n) = l.map pVal := rows_flat pVal_clo l
theorem pVal_one {φ : List Nat} {n : Nat} (x : GVal) : renL φ n (pVal x) = pVal x := renL_flat (pVal_clo x)
theorem pVal_rc (l : List GVal) : (∀ row ∈ l.map pVal, row.all cloC = true) = True := eq_true fun row h => by obtain ⟨x, _, rfl⟩ := List.mem_map.1 h; rfl
theorem pVal_fre (x : GVal) : freL (pVal x) = true := rfl
theorem pVal_rf (l : List GVal) : (∀ row ∈ l.map pVal, freL row = true) = True := eq_true fun row h => by obtain ⟨x, _, rfl⟩ := List.mem_map.1 h; rfl
theorem pVal_ro (l : List GVal) : (∀ row ∈ l.map pVal, row.all oneP = true) = True := eq_true fun row h => by obtain ⟨x, _, rfl⟩ := List.mem_map.1 h; rfl
theorem pVal_rl (l : List GVal) : (∀ row ∈ l.map pVal, row.length = 2) = True := eq_true fun row h => by obtain ⟨x, _, rfl⟩ := List.mem_map.1 h; rfl
theorem GVal_eta (x : GVal) : (⟨x.fId, x.fPower⟩ : GVal) = x := rfl
structure GNMsg where
  fKind : Int
  fRound : Int
  fVal : Int
  fPol : Int
  fFrom : Int
def pNMsg (x : GNMsg) : List PV := [.val (.int .i64 x.fKind), .val (.int .i64 x.fRound), .val (.int .i64 x.fVal), .val (.int .i64 x.fPol), .val (.int .i64 x.fFrom)]
theorem pNMsg_len (x : GNMsg) : (pNMsg x).length = 5 := rfl
theorem pNMsg_clo (x : GNMsg) : (pNMsg x).all cloC = true := rfl
theorem pNMsg_ren {φ : List Nat} {n : Nat} (l : List GNMsg) : (l.map pNMsg).map (renL φ n) = l.map pNMsg := rows_flat pNMsg_clo l
theorem pNMsg_one {φ : List Nat} {n : Nat} (x : GNMsg) : renL φ n (pNMsg x) = pNMsg x := renL_flat (pNMsg_clo x)
theorem pNMsg_rc (l : List GNMsg) : (∀ row ∈ l.map pNMsg, row.all cloC = true) = True := eq_true fun row h => by obtain ⟨x, _, rfl⟩ := List.mem_map.1 h; rfl
theorem pNMsg_fre (x : GNMsg) : freL (pNMsg x) = true := rfl
theorem pNMsg_rf (l : List GNMsg) : (∀ row ∈ l.map pNMsg, freL row = true) = True := eq_true fun row h => by obtain ⟨x, _, rfl⟩ := List.mem_map.1 h; rfl
theorem pNMsg_ro (l : List GNMsg) : (∀ row ∈ l.map pNMsg, row.all oneP = true) = True := eq_true fun row h => by obtain ⟨x, _, rfl⟩ := List.mem_map.1 h; rfl
theorem pNMsg_rl (l : List GNMsg) : (∀ row ∈ l.map pNMsg, row.length = 5) = True := eq_true fun row h => by obtain ⟨x, _, rfl⟩ := List.mem_map.1 h; rfl
theorem GNMsg_eta (x : GNMsg) : (⟨x.fKind, x.fRound, x.fVal, x.fPol, x.fFrom⟩ : GNMsg) = x := rfl
structure GNode where
  fMe : Int
  fRound : Int
  fStep : Int
  fLockVal : Int
  fLockRound : Int
  fValidVal : Int
  fValidRound : Int
  fPolka : Int
  fDecided : Int
  fMsgs : List GNMsg
def pNode (x : GNode) : List PV := [.val (.int .i64 x.fMe), .val (.int .i64 x.fRound), .val (.int .i64 x.fStep), .val (.int .i64 x.fLockVal), .val (.int .i64 x.fLockRound), .val (.int .i64 x.fValidVal), .val (.int .i64 x.fValidRound), .val (.int .i64 x.fPolka), .val (.int .i64 x.fDecided), .sl 5 (x.fMsgs.map pNMsg)]
theorem pNode_len (x : GNode) : (pNode x).length = 10 := rfl
theorem pNode_clo (x : GNode) : (pNode x).all cloC = true := rfl
theorem pNode_ren {φ : List Nat} {n : Nat} (l : List GNode) : (l.map pNode).map (renL φ n) = l.map pNode := rows_flat pNode_clo l
theorem pNode_one {φ : List Nat} {n : Nat} (x : GNode) : renL φ n (pNode x) = pNode x := renL_flat (pNode_clo x)
theorem pNode_rc (l : List GNode) : (∀ row ∈ l.map pNode, row.all cloC = true) = True := eq_true fun row h => by obtain ⟨x, _, rfl⟩ := List.mem_map.1 h; rfl
theorem pNode_rl (l : List GNode) : (∀ row ∈ l.map pNode, row.length = 10) = True := eq_true fun row h => by obtain ⟨x, _, rfl⟩ := List.mem_map.1 h; rfl
theorem GNode_eta (x : GNode) : (⟨x.fMe, x.fRound, x.fStep, x.fLockVal, x.fLockRound, x.fValidVal, x.fValidRound, x.fPolka, x.fDecided, x.fMsgs⟩ : GNode) = x := rfl
structure GNet where
  fNodes : List GNode
  fPool : List GNMsg
def pNet (x : GNet) : List PV := [.sl 10 (x.fNodes.map pNode), .sl 5 (x.fPool.map pNMsg)]
theorem pNet_len (x : GNet) : (pNet x).length = 2 := rfl
theorem pNet_clo (x : GNet) : (pNet x).all cloC = true := rfl
theorem pNet_ren {φ : List Nat} {n : Nat} (l : List GNet) : (l.map pNet).map (renL φ n) = l.map pNet := rows_flat pNet_clo l
theorem pNet_one {φ : List Nat} {n : Nat} (x : GNet) : renL φ n (pNet x) = pNet x := renL_flat (pNet_clo x)
theorem pNet_rc (l : List GNet) : (∀ row ∈ l.map pNet, row.all cloC = true) = True := eq_true fun row h => by obtain ⟨x, _, rfl⟩ := List.mem_map.1 h; rfl
theorem pNet_rl (l : List GNet) : (∀ row ∈ l.map pNet, row.length = 2) = True := eq_true fun row h => by obtain ⟨x, _, rfl⟩ := List.mem_map.1 h; rfl
theorem GNet_eta (x : GNet) : (⟨x.fNodes, x.fPool⟩ : GNet) = x := rfl
structure GNetAct where
  fKind : Int
  fA : Int
  fB : Int
  fMsg : GNMsg
def pNetAct (x : GNetAct) : List PV := [.val (.int .i64 x.fKind), .val (.int .i64 x.fA), .val (.int .i64 x.fB), .val (.int .i64 x.fMsg.fKind), .val (.int .i64 x.fMsg.fRound), .val (.int .i64 x.fMsg.fVal), .val (.int .i64 x.fMsg.fPol), .val (.int .i64 x.fMsg.fFrom)]
theorem pNetAct_len (x : GNetAct) : (pNetAct x).length = 8 := rfl
theorem pNetAct_clo (x : GNetAct) : (pNetAct x).all cloC = true := rfl
theorem pNetAct_ren {φ : List Nat} {n : Nat} (l : List GNetAct) : (l.map pNetAct).map (renL φ n) = l.map pNetAct := rows_flat pNetAct_clo l
theorem pNetAct_one {φ : List Nat} {n : Nat} (x : GNetAct) : renL φ n (pNetAct x) = pNetAct x := renL_flat (pNetAct_clo x)
theorem pNetAct_rc (l : List GNetAct) : (∀ row ∈ l.map pNetAct, row.all cloC = true) = True := eq_true fun row h => by obtain ⟨x, _, rfl⟩ := List.mem_map.1 h; rfl
theorem pNetAct_fre (x : GNetAct) : freL (pNetAct x) = true := rfl
theorem pNetAct_rf (l : List GNetAct) : (∀ row ∈ l.map pNetAct, freL row = true) = True := eq_true fun row h => by obtain ⟨x, _, rfl⟩ := List.mem_map.1 h; rfl
theorem pNetAct_ro (l : List GNetAct) : (∀ row ∈ l.map pNetAct, row.all oneP = true) = True := eq_true fun row h => by obtain ⟨x, _, rfl⟩ := List.mem_map.1 h; rfl
theorem pNetAct_rl (l : List GNetAct) : (∀ row ∈ l.map pNetAct, row.length = 8) = True := eq_true fun row h => by obtain ⟨x, _, rfl⟩ := List.mem_map.1 h; rfl
theorem GNetAct_eta (x : GNetAct) : (⟨x.fKind, x.fA, x.fB, x.fMsg⟩ : GNetAct) = x := rfl
attribute [push_cast] pInt pInt_ren pInt_rc pInt_rf pInt_ro pInt_rl pStr pStr_ren pStr_rc pStr_rf pStr_ro pStr_rl pBool pBool_ren pBool_rc pBool_rf pBool_ro pBool_rl pRow pRow_ren pRow_rc pRow_rl pVal pVal_ren pVal_rc pVal_rf pVal_ro pVal_rl GVal_eta pNMsg pNMsg_ren pNMsg_rc pNMsg_rf pNMsg_ro pNMsg_rl GNMsg_eta pNode pNode_ren pNode_rc pNode_rl GNode_eta pNet pNet_ren pNet_rc pNet_rl GNet_eta pNetAct pNetAct_ren pNetAct_rc pNetAct_rf pNetAct_ro pNetAct_rl GNetAct_eta
theorem cv_3_3 {k : IntKind} {n : Int} : sflat Try.prog (convert 3 3 (.int k n)) = some (.int .i64 (IntKind.wrap .i64 n)) := conv_int (by kernel_rfl) (by kernel_rfl)
theorem cv_3_5 {k : IntKind} {n : Int} : sflat Try.prog (convert 3 5 (.int k n)) = some (.int .u8 (IntKind.wrap .u8 n)) := conv_int (by kernel_rfl) (by kernel_rfl)
theorem cv_3_67 {k : IntKind} {n : Int} : sflat Try.prog (convert 3 67 (.int k n)) = some (.int .u64 (IntKind.wrap .u64 n)) := conv_int (by kernel_rfl) (by kernel_rfl)
theorem cv_3_92 {k : IntKind} {n : Int} : sflat Try.prog (convert 3 92 (.int k n)) = some (.int .u32 (IntKind.wrap .u32 n)) := conv_int (by kernel_rfl) (by kernel_rfl)
theorem cv_3_94 {k : IntKind} {n : Int} : sflat Try.prog (convert 3 94 (.int k n)) = some (.int .u64 (IntKind.wrap .u64 n)) := conv_int (by kernel_rfl) (by kernel_rfl)
theorem cv_5_3 {k : IntKind} {n : Int} : sflat Try.prog (convert 5 3 (.int k n)) = some (.int .i64 (IntKind.wrap .i64 n)) := conv_int (by kernel_rfl) (by kernel_rfl)
theorem cv_5_5 {k : IntKind} {n : Int} : sflat Try.prog (convert 5 5 (.int k n)) = some (.int .u8 (IntKind.wrap .u8 n)) := conv_int (by kernel_rfl) (by kernel_rfl)
theorem cv_5_67 {k : IntKind} {n : Int} : sflat Try.prog (convert 5 67 (.int k n)) = some (.int .u64 (IntKind.wrap .u64 n)) := conv_int (by kernel_rfl) (by kernel_rfl)
theorem cv_5_92 {k : IntKind} {n : Int} : sflat Try.prog (convert 5 92 (.int k n)) = some (.int .u32 (IntKind.wrap .u32 n)) := conv_int (by kernel_rfl) (by kernel_rfl)
theorem cv_5_94 {k : IntKind} {n : Int} : sflat Try.prog (convert 5 94 (.int k n)) = some (.int .u64 (IntKind.wrap .u64 n)) := conv_int (by kernel_rfl) (by kernel_rfl)
theorem cv_67_3 {k : IntKind} {n : Int} : sflat Try.prog (convert 67 3 (.int k n)) = some (.int .i64 (IntKind.wrap .i64 n)) := conv_int (by kernel_rfl) (by kernel_rfl)
theorem cv_67_5 {k : IntKind} {n : Int} : sflat Try.prog (convert 67 5 (.int k n)) = some (.int .u8 (IntKind.wrap .u8 n)) := conv_int (by kernel_rfl) (by kernel_rfl)
theorem cv_67_67 {k : IntKind} {n : Int} : sflat Try.prog (convert 67 67 (.int k n)) = some (.int .u64 (IntKind.wrap .u64 n)) := conv_int (by kernel_rfl) (by kernel_rfl)
theorem cv_67_92 {k : IntKind} {n : Int} : sflat Try.prog (convert 67 92 (.int k n)) = some (.int .u32 (IntKind.wrap .u32 n)) := conv_int (by kernel_rfl) (by kernel_rfl)
theorem cv_67_94 {k : IntKind} {n : Int} : sflat Try.prog (convert 67 94 (.int k n)) = some (.int .u64 (IntKind.wrap .u64 n)) := conv_int (by kernel_rfl) (by kernel_rfl)
theorem cv_92_3 {k : IntKind} {n : Int} : sflat Try.prog (convert 92 3 (.int k n)) = some (.int .i64 (IntKind.wrap .i64 n)) := conv_int (by kernel_rfl) (by kernel_rfl)
theorem cv_92_5 {k : IntKind} {n : Int} : sflat Try.prog (convert 92 5 (.int k n)) = some (.int .u8 (IntKind.wrap .u8 n)) := conv_int (by kernel_rfl) (by kernel_rfl)
theorem cv_92_67 {k : IntKind} {n : Int} : sflat Try.prog (convert 92 67 (.int k n)) = some (.int .u64 (IntKind.wrap .u64 n)) := conv_int (by kernel_rfl) (by kernel_rfl)
theorem cv_92_92 {k : IntKind} {n : Int} : sflat Try.prog (convert 92 92 (.int k n)) = some (.int .u32 (IntKind.wrap .u32 n)) := conv_int (by kernel_rfl) (by kernel_rfl)
theorem cv_92_94 {k : IntKind} {n : Int} : sflat Try.prog (convert 92 94 (.int k n)) = some (.int .u64 (IntKind.wrap .u64 n)) := conv_int (by kernel_rfl) (by kernel_rfl)
theorem cv_94_3 {k : IntKind} {n : Int} : sflat Try.prog (convert 94 3 (.int k n)) = some (.int .i64 (IntKind.wrap .i64 n)) := conv_int (by kernel_rfl) (by kernel_rfl)
theorem cv_94_5 {k : IntKind} {n : Int} : sflat Try.prog (convert 94 5 (.int k n)) = some (.int .u8 (IntKind.wrap .u8 n)) := conv_int (by kernel_rfl) (by kernel_rfl)
theorem cv_94_67 {k : IntKind} {n : Int} : sflat Try.prog (convert 94 67 (.int k n)) = some (.int .u64 (IntKind.wrap .u64 n)) := conv_int (by kernel_rfl) (by kernel_rfl)
theorem cv_94_92 {k : IntKind} {n : Int} : sflat Try.prog (convert 94 92 (.int k n)) = some (.int .u32 (IntKind.wrap .u32 n)) := conv_int (by kernel_rfl) (by kernel_rfl)
theorem cv_94_94 {k : IntKind} {n : Int} : sflat Try.prog (convert 94 94 (.int k n)) = some (.int .u64 (IntKind.wrap .u64 n)) := conv_int (by kernel_rfl) (by kernel_rfl)
attribute [push_cast] cv_3_3 cv_3_5 cv_3_67 cv_3_92 cv_3_94 cv_5_3 cv_5_5 cv_5_67 cv_5_92 cv_5_94 cv_67_3 cv_67_5 cv_67_67 cv_67_92 cv_67_94 cv_92_3 cv_92_5 cv_92_67 cv_92_92 cv_92_94 cv_94_3 cv_94_5 cv_94_67 cv_94_92 cv_94_94
attribute [push_cast] tys_1 tys_3 tys_4 tys_5 tys_9 tys_22 tys_23 tys_24 tys_25 tys_27 tys_28 tys_30 tys_32 tys_34 tys_35 tys_36 tys_37 tys_39 tys_40 tys_41 tys_43 tys_44 tys_46 tys_47 tys_48 tys_49 tys_50 tys_51 tys_52 tys_53 tys_54 tys_55 tys_56 tys_57 tys_58 tys_59 tys_60 tys_62 tys_63 tys_64 tys_65 tys_66 tys_67 tys_69 tys_70 tys_71 tys_72 tys_73 tys_74 tys_75 tys_77 tys_78 tys_79 tys_80 tys_81 tys_82 tys_83 tys_85 tys_86 tys_87 tys_88 tys_90 tys_91 tys_92 tys_93 tys_94 tys_96 tys_97 tys_98 tys_99 tys_100 tys_101 tys_102 tys_103 tys_104 tys_105 tys_106 tys_107 tys_110 tys_111 tys_113 tys_114 tys_115 tys_117 tys_118 tys_119 tys_120 tys_122 tys_123 tys_124 tys_125 tys_126 tys_127 tys_133 tys_136 tys_137
end Go.Proofs.Ytcbknmnlgoeniaa
