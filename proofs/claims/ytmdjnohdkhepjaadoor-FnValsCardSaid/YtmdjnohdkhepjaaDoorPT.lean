/- Data of the program on the pure machine. Printed by a program of ours. -/
import Derived.Test.YtmdjnohdkhepjaaDoorPvZ
import Derived.Test.YtmdjnohdkhepjaaDoorI4
import Derived.Test.YtmdjnohdkhepjaaDoorTys
namespace Go.Proofs.YtmdjnohdkhepjaaDoor
open Go.RowKit

def pInt (x : Int) : List PV := [.val (.int .i64 x)]
theorem pInt_len (x : Int) : (pInt x).length = 1 := rfl
theorem pInt_clo (x : Int) : (pInt x).all cloC = true := rfl
theorem pInt_ren {φ : List Nat} {n : Nat} (l : List Int) : (l.map pInt).map (renL φ n) = l.map pInt := rows_flat pInt_clo l
theorem pInt_one {φ : List Nat} {n : Nat} (x : Int) : renL φ n (pInt x) = pInt x := renL_flat (pInt_clo x)
theorem pInt_rc (l : List Int) : (∀ row ∈ l.map pInt, row.all cloC = true) = True := eq_true fun row h => by obtain ⟨x, _, rfl⟩ := List.mem_map.1 h; rfl
theorem pInt_fre (x : Int) : freL (pInt x) = true := rfl
theorem pInt_rf (l : List Int) : (∀ row ∈ l.map pInt, freL row = true) = True := eq_true fun row h => by obtain ⟨x, _, rfl⟩ := List.mem_map.1 h; rfl
theorem pInt_ro (l : List Int) : (∀ row ∈ l.map pInt, row.all oneP = true) = True := eq_true fun row h => by obtain ⟨x, _, rfl⟩ := List.mem_map.1 h; rfl
theorem pInt_rl (l : List Int) : (∀ row ∈ l.map pInt, row.length = 1) = True := eq_true fun row h => by obtain ⟨x, _, rfl⟩ := List.mem_map.1 h; rfl
def pStr (x : ByteArray) : List PV := [.val (.string x)]
theorem pStr_len (x : ByteArray) : (pStr x).length = 1 := rfl
theorem pStr_clo (x : ByteArray) : (pStr x).all cloC = true := rfl
theorem pStr_ren {φ : List Nat} {n : Nat} (l : List ByteArray) : (l.map pStr).map (renL φ n) = l.map pStr := rows_flat pStr_clo l
theorem pStr_one {φ : List Nat} {n : Nat} (x : ByteArray) : renL φ n (pStr x) = pStr x := renL_flat (pStr_clo x)
theorem pStr_rc (l : List ByteArray) : (∀ row ∈ l.map pStr, row.all cloC = true) = True := eq_true fun row h => by obtain ⟨x, _, rfl⟩ := List.mem_map.1 h; rfl
theorem pStr_fre (x : ByteArray) : freL (pStr x) = true := rfl
theorem pStr_rf (l : List ByteArray) : (∀ row ∈ l.map pStr, freL row = true) = True := eq_true fun row h => by obtain ⟨x, _, rfl⟩ := List.mem_map.1 h; rfl
theorem pStr_ro (l : List ByteArray) : (∀ row ∈ l.map pStr, row.all oneP = true) = True := eq_true fun row h => by obtain ⟨x, _, rfl⟩ := List.mem_map.1 h; rfl
theorem pStr_rl (l : List ByteArray) : (∀ row ∈ l.map pStr, row.length = 1) = True := eq_true fun row h => by obtain ⟨x, _, rfl⟩ := List.mem_map.1 h; rfl
def pBool (x : Bool) : List PV := [.val (.bool x)]
theorem pBool_len (x : Bool) : (pBool x).length = 1 := rfl
theorem pBool_clo (x : Bool) : (pBool x).all cloC = true := rfl
theorem pBool_ren {φ : List Nat} {n : Nat} (l : List Bool) : (l.map pBool).map (renL φ n) = l.map pBool := rows_flat pBool_clo l
theorem pBool_one {φ : List Nat} {n : Nat} (x : Bool) : renL φ n (pBool x) = pBool x := renL_flat (pBool_clo x)
theorem pBool_rc (l : List Bool) : (∀ row ∈ l.map pBool, row.all cloC = true) = True := eq_true fun row h => by obtain ⟨x, _, rfl⟩ := List.mem_map.1 h; rfl
theorem pBool_fre (x : Bool) : freL (pBool x) = true := rfl
theorem pBool_rf (l : List Bool) : (∀ row ∈ l.map pBool, freL row = true) = True := eq_true fun row h => by obtain ⟨x, _, rfl⟩ := List.mem_map.1 h; rfl
theorem pBool_ro (l : List Bool) : (∀ row ∈ l.map pBool, row.all oneP = true) = True := eq_true fun row h => by obtain ⟨x, _, rfl⟩ := List.mem_map.1 h; rfl
theorem pBool_rl (l : List Bool) : (∀ row ∈ l.map pBool, row.length = 1) = True := eq_true fun row h => by obtain ⟨x, _, rfl⟩ := List.mem_map.1 h; rfl
def pRow (x : List Int) : List PV := [.sl 1 (x.map pInt)]
theorem pRow_len (x : (List Int)) : (pRow x).length = 1 := rfl
theorem pRow_clo (x : (List Int)) : (pRow x).all cloC = true := rfl
theorem pRow_ren {φ : List Nat} {n : Nat} (l : List (List Int)) : (l.map pRow).map (renL φ n) = l.map pRow := rows_flat pRow_clo l
theorem pRow_one {φ : List Nat} {n : Nat} (x : (List Int)) : renL φ n (pRow x) = pRow x := renL_flat (pRow_clo x)
theorem pRow_rc (l : List (List Int)) : (∀ row ∈ l.map pRow, row.all cloC = true) = True := eq_true fun row h => by obtain ⟨x, _, rfl⟩ := List.mem_map.1 h; rfl
theorem pRow_rl (l : List (List Int)) : (∀ row ∈ l.map pRow, row.length = 1) = True := eq_true fun row h => by obtain ⟨x, _, rfl⟩ := List.mem_map.1 h; rfl
structure GVal where
  fId : Int
  fPower : Int
def pVal (x : GVal) : List PV := [.val (.int .i64 x.fId), .val (.int .i64 x.fPower)]
theorem pVal_len (x : GVal) : (pVal x).length = 2 := rfl
theorem pVal_clo (x : GVal) : (pVal x).all cloC = true := rfl
theorem pVal_ren {φ : List Nat} {n : Nat} (l : List GVal) : (l.map pVal).map (renL φ n) = l.map pVal := rows_flat pVal_clo l
theorem pVal_one {φ : List Nat} {n : Nat} (x : GVal) : renL φ n (pVal x) = pVal x := renL_flat (pVal_clo x)
theorem pVal_rc (l : List GVal) : (∀ row ∈ l.map pVal, row.all cloC = true) = True := eq_true fun row h => by obtain ⟨x, _, rfl⟩ := List.mem_map.1 h; rfl
theorem pVal_fre (x : GVal) : freL (pVal x) = true := rfl
theorem pVal_rf (l : List GVal) : (∀ row ∈ l.map pVal, freL row = true) = True := eq_true fun row h => by obtain ⟨x, _, rfl⟩ := List.mem_map.1 h; rfl
theorem pVal_ro (l : List GVal) : (∀ row ∈ l.map pVal, row.all oneP = true) = True := eq_true fun row h => by obtain ⟨x, _, rfl⟩ := List.mem_map.1 h; rfl
theorem pVal_rl (l : List GVal) : (∀ row ∈ l.map pVal, row.length = 2) = True := eq_true fun row h => by obtain ⟨x, _, rfl⟩ := List.mem_map.1 h; rfl
theorem GVal_eta (x : GVal) : (⟨x.fId, x.fPower⟩ : GVal) = x := rfl
structure GHeader where
  fHeight : Int
  fTime : Int
  fLast : ByteArray
  fVals : ByteArray
  fNext : ByteArray
  fData : ByteArray
def pHeader (x : GHeader) : List PV := [.val (.int .i64 x.fHeight), .val (.int .i64 x.fTime), .val (.string x.fLast), .val (.string x.fVals), .val (.string x.fNext), .val (.string x.fData)]
theorem pHeader_len (x : GHeader) : (pHeader x).length = 6 := rfl
theorem pHeader_clo (x : GHeader) : (pHeader x).all cloC = true := rfl
theorem pHeader_ren {φ : List Nat} {n : Nat} (l : List GHeader) : (l.map pHeader).map (renL φ n) = l.map pHeader := rows_flat pHeader_clo l
theorem pHeader_one {φ : List Nat} {n : Nat} (x : GHeader) : renL φ n (pHeader x) = pHeader x := renL_flat (pHeader_clo x)
theorem pHeader_rc (l : List GHeader) : (∀ row ∈ l.map pHeader, row.all cloC = true) = True := eq_true fun row h => by obtain ⟨x, _, rfl⟩ := List.mem_map.1 h; rfl
theorem pHeader_fre (x : GHeader) : freL (pHeader x) = true := rfl
theorem pHeader_rf (l : List GHeader) : (∀ row ∈ l.map pHeader, freL row = true) = True := eq_true fun row h => by obtain ⟨x, _, rfl⟩ := List.mem_map.1 h; rfl
theorem pHeader_ro (l : List GHeader) : (∀ row ∈ l.map pHeader, row.all oneP = true) = True := eq_true fun row h => by obtain ⟨x, _, rfl⟩ := List.mem_map.1 h; rfl
theorem pHeader_rl (l : List GHeader) : (∀ row ∈ l.map pHeader, row.length = 6) = True := eq_true fun row h => by obtain ⟨x, _, rfl⟩ := List.mem_map.1 h; rfl
theorem GHeader_eta (x : GHeader) : (⟨x.fHeight, x.fTime, x.fLast, x.fVals, x.fNext, x.fData⟩ : GHeader) = x := rfl
structure GVote where
  fHeight : Int
  fRound : Int
  fStep : Int
  fId : ByteArray
  fVal : Int
def pVote (x : GVote) : List PV := [.val (.int .i64 x.fHeight), .val (.int .i64 x.fRound), .val (.int .i64 x.fStep), .val (.string x.fId), .val (.int .i64 x.fVal)]
theorem pVote_len (x : GVote) : (pVote x).length = 5 := rfl
theorem pVote_clo (x : GVote) : (pVote x).all cloC = true := rfl
theorem pVote_ren {φ : List Nat} {n : Nat} (l : List GVote) : (l.map pVote).map (renL φ n) = l.map pVote := rows_flat pVote_clo l
theorem pVote_one {φ : List Nat} {n : Nat} (x : GVote) : renL φ n (pVote x) = pVote x := renL_flat (pVote_clo x)
theorem pVote_rc (l : List GVote) : (∀ row ∈ l.map pVote, row.all cloC = true) = True := eq_true fun row h => by obtain ⟨x, _, rfl⟩ := List.mem_map.1 h; rfl
theorem pVote_fre (x : GVote) : freL (pVote x) = true := rfl
theorem pVote_rf (l : List GVote) : (∀ row ∈ l.map pVote, freL row = true) = True := eq_true fun row h => by obtain ⟨x, _, rfl⟩ := List.mem_map.1 h; rfl
theorem pVote_ro (l : List GVote) : (∀ row ∈ l.map pVote, row.all oneP = true) = True := eq_true fun row h => by obtain ⟨x, _, rfl⟩ := List.mem_map.1 h; rfl
theorem pVote_rl (l : List GVote) : (∀ row ∈ l.map pVote, row.length = 5) = True := eq_true fun row h => by obtain ⟨x, _, rfl⟩ := List.mem_map.1 h; rfl
theorem GVote_eta (x : GVote) : (⟨x.fHeight, x.fRound, x.fStep, x.fId, x.fVal⟩ : GVote) = x := rfl
structure GCSig where
  fVal : Int
  fSig : ByteArray
def pCSig (x : GCSig) : List PV := [.val (.int .i64 x.fVal), .val (.string x.fSig)]
theorem pCSig_len (x : GCSig) : (pCSig x).length = 2 := rfl
theorem pCSig_clo (x : GCSig) : (pCSig x).all cloC = true := rfl
theorem pCSig_ren {φ : List Nat} {n : Nat} (l : List GCSig) : (l.map pCSig).map (renL φ n) = l.map pCSig := rows_flat pCSig_clo l
theorem pCSig_one {φ : List Nat} {n : Nat} (x : GCSig) : renL φ n (pCSig x) = pCSig x := renL_flat (pCSig_clo x)
theorem pCSig_rc (l : List GCSig) : (∀ row ∈ l.map pCSig, row.all cloC = true) = True := eq_true fun row h => by obtain ⟨x, _, rfl⟩ := List.mem_map.1 h; rfl
theorem pCSig_fre (x : GCSig) : freL (pCSig x) = true := rfl
theorem pCSig_rf (l : List GCSig) : (∀ row ∈ l.map pCSig, freL row = true) = True := eq_true fun row h => by obtain ⟨x, _, rfl⟩ := List.mem_map.1 h; rfl
theorem pCSig_ro (l : List GCSig) : (∀ row ∈ l.map pCSig, row.all oneP = true) = True := eq_true fun row h => by obtain ⟨x, _, rfl⟩ := List.mem_map.1 h; rfl
theorem pCSig_rl (l : List GCSig) : (∀ row ∈ l.map pCSig, row.length = 2) = True := eq_true fun row h => by obtain ⟨x, _, rfl⟩ := List.mem_map.1 h; rfl
theorem GCSig_eta (x : GCSig) : (⟨x.fVal, x.fSig⟩ : GCSig) = x := rfl
structure GCommit where
  fHeight : Int
  fRound : Int
  fId : ByteArray
  fSigs : List GCSig
def pCommit (x : GCommit) : List PV := [.val (.int .i64 x.fHeight), .val (.int .i64 x.fRound), .val (.string x.fId), .sl 2 (x.fSigs.map pCSig)]
theorem pCommit_len (x : GCommit) : (pCommit x).length = 4 := rfl
theorem pCommit_clo (x : GCommit) : (pCommit x).all cloC = true := rfl
theorem pCommit_ren {φ : List Nat} {n : Nat} (l : List GCommit) : (l.map pCommit).map (renL φ n) = l.map pCommit := rows_flat pCommit_clo l
theorem pCommit_one {φ : List Nat} {n : Nat} (x : GCommit) : renL φ n (pCommit x) = pCommit x := renL_flat (pCommit_clo x)
theorem pCommit_rc (l : List GCommit) : (∀ row ∈ l.map pCommit, row.all cloC = true) = True := eq_true fun row h => by obtain ⟨x, _, rfl⟩ := List.mem_map.1 h; rfl
theorem pCommit_rl (l : List GCommit) : (∀ row ∈ l.map pCommit, row.length = 4) = True := eq_true fun row h => by obtain ⟨x, _, rfl⟩ := List.mem_map.1 h; rfl
theorem GCommit_eta (x : GCommit) : (⟨x.fHeight, x.fRound, x.fId, x.fSigs⟩ : GCommit) = x := rfl
structure GTrust where
  fPeriod : Int
  fSlack : Int
def pTrust (x : GTrust) : List PV := [.val (.int .i64 x.fPeriod), .val (.int .i64 x.fSlack)]
theorem pTrust_len (x : GTrust) : (pTrust x).length = 2 := rfl
theorem pTrust_clo (x : GTrust) : (pTrust x).all cloC = true := rfl
theorem pTrust_ren {φ : List Nat} {n : Nat} (l : List GTrust) : (l.map pTrust).map (renL φ n) = l.map pTrust := rows_flat pTrust_clo l
theorem pTrust_one {φ : List Nat} {n : Nat} (x : GTrust) : renL φ n (pTrust x) = pTrust x := renL_flat (pTrust_clo x)
theorem pTrust_rc (l : List GTrust) : (∀ row ∈ l.map pTrust, row.all cloC = true) = True := eq_true fun row h => by obtain ⟨x, _, rfl⟩ := List.mem_map.1 h; rfl
theorem pTrust_fre (x : GTrust) : freL (pTrust x) = true := rfl
theorem pTrust_rf (l : List GTrust) : (∀ row ∈ l.map pTrust, freL row = true) = True := eq_true fun row h => by obtain ⟨x, _, rfl⟩ := List.mem_map.1 h; rfl
theorem pTrust_ro (l : List GTrust) : (∀ row ∈ l.map pTrust, row.all oneP = true) = True := eq_true fun row h => by obtain ⟨x, _, rfl⟩ := List.mem_map.1 h; rfl
theorem pTrust_rl (l : List GTrust) : (∀ row ∈ l.map pTrust, row.length = 2) = True := eq_true fun row h => by obtain ⟨x, _, rfl⟩ := List.mem_map.1 h; rfl
theorem GTrust_eta (x : GTrust) : (⟨x.fPeriod, x.fSlack⟩ : GTrust) = x := rfl
structure GAnchor where
  fHead : GHeader
  fNext : List GVal
def pAnchor (x : GAnchor) : List PV := [.val (.int .i64 x.fHead.fHeight), .val (.int .i64 x.fHead.fTime), .val (.string x.fHead.fLast), .val (.string x.fHead.fVals), .val (.string x.fHead.fNext), .val (.string x.fHead.fData), .sl 2 (x.fNext.map pVal)]
theorem pAnchor_len (x : GAnchor) : (pAnchor x).length = 7 := rfl
theorem pAnchor_clo (x : GAnchor) : (pAnchor x).all cloC = true := rfl
theorem pAnchor_ren {φ : List Nat} {n : Nat} (l : List GAnchor) : (l.map pAnchor).map (renL φ n) = l.map pAnchor := rows_flat pAnchor_clo l
theorem pAnchor_one {φ : List Nat} {n : Nat} (x : GAnchor) : renL φ n (pAnchor x) = pAnchor x := renL_flat (pAnchor_clo x)
theorem pAnchor_rc (l : List GAnchor) : (∀ row ∈ l.map pAnchor, row.all cloC = true) = True := eq_true fun row h => by obtain ⟨x, _, rfl⟩ := List.mem_map.1 h; rfl
theorem pAnchor_rl (l : List GAnchor) : (∀ row ∈ l.map pAnchor, row.length = 7) = True := eq_true fun row h => by obtain ⟨x, _, rfl⟩ := List.mem_map.1 h; rfl
theorem GAnchor_eta (x : GAnchor) : (⟨x.fHead, x.fNext⟩ : GAnchor) = x := rfl
structure GStore where
  fHeads : List GHeader
  fSynced : Int
def pStore (x : GStore) : List PV := [.sl 6 (x.fHeads.map pHeader), .val (.int .i64 x.fSynced)]
theorem pStore_len (x : GStore) : (pStore x).length = 2 := rfl
theorem pStore_clo (x : GStore) : (pStore x).all cloC = true := rfl
theorem pStore_ren {φ : List Nat} {n : Nat} (l : List GStore) : (l.map pStore).map (renL φ n) = l.map pStore := rows_flat pStore_clo l
theorem pStore_one {φ : List Nat} {n : Nat} (x : GStore) : renL φ n (pStore x) = pStore x := renL_flat (pStore_clo x)
theorem pStore_rc (l : List GStore) : (∀ row ∈ l.map pStore, row.all cloC = true) = True := eq_true fun row h => by obtain ⟨x, _, rfl⟩ := List.mem_map.1 h; rfl
theorem pStore_rl (l : List GStore) : (∀ row ∈ l.map pStore, row.length = 2) = True := eq_true fun row h => by obtain ⟨x, _, rfl⟩ := List.mem_map.1 h; rfl
theorem GStore_eta (x : GStore) : (⟨x.fHeads, x.fSynced⟩ : GStore) = x := rfl
structure GPeer where
  fId : Int
  fPinned : Bool
  fUntil : Int
  fBans : Int
def pPeer (x : GPeer) : List PV := [.val (.int .i64 x.fId), .val (.bool x.fPinned), .val (.int .i64 x.fUntil), .val (.int .i64 x.fBans)]
theorem pPeer_len (x : GPeer) : (pPeer x).length = 4 := rfl
theorem pPeer_clo (x : GPeer) : (pPeer x).all cloC = true := rfl
theorem pPeer_ren {φ : List Nat} {n : Nat} (l : List GPeer) : (l.map pPeer).map (renL φ n) = l.map pPeer := rows_flat pPeer_clo l
theorem pPeer_one {φ : List Nat} {n : Nat} (x : GPeer) : renL φ n (pPeer x) = pPeer x := renL_flat (pPeer_clo x)
theorem pPeer_rc (l : List GPeer) : (∀ row ∈ l.map pPeer, row.all cloC = true) = True := eq_true fun row h => by obtain ⟨x, _, rfl⟩ := List.mem_map.1 h; rfl
theorem pPeer_fre (x : GPeer) : freL (pPeer x) = true := rfl
theorem pPeer_rf (l : List GPeer) : (∀ row ∈ l.map pPeer, freL row = true) = True := eq_true fun row h => by obtain ⟨x, _, rfl⟩ := List.mem_map.1 h; rfl
theorem pPeer_ro (l : List GPeer) : (∀ row ∈ l.map pPeer, row.all oneP = true) = True := eq_true fun row h => by obtain ⟨x, _, rfl⟩ := List.mem_map.1 h; rfl
theorem pPeer_rl (l : List GPeer) : (∀ row ∈ l.map pPeer, row.length = 4) = True := eq_true fun row h => by obtain ⟨x, _, rfl⟩ := List.mem_map.1 h; rfl
theorem GPeer_eta (x : GPeer) : (⟨x.fId, x.fPinned, x.fUntil, x.fBans⟩ : GPeer) = x := rfl
structure GTable where
  fPeers : List GPeer
  fTurn : Int
def pTable (x : GTable) : List PV := [.sl 4 (x.fPeers.map pPeer), .val (.int .i64 x.fTurn)]
theorem pTable_len (x : GTable) : (pTable x).length = 2 := rfl
theorem pTable_clo (x : GTable) : (pTable x).all cloC = true := rfl
theorem pTable_ren {φ : List Nat} {n : Nat} (l : List GTable) : (l.map pTable).map (renL φ n) = l.map pTable := rows_flat pTable_clo l
theorem pTable_one {φ : List Nat} {n : Nat} (x : GTable) : renL φ n (pTable x) = pTable x := renL_flat (pTable_clo x)
theorem pTable_rc (l : List GTable) : (∀ row ∈ l.map pTable, row.all cloC = true) = True := eq_true fun row h => by obtain ⟨x, _, rfl⟩ := List.mem_map.1 h; rfl
theorem pTable_rl (l : List GTable) : (∀ row ∈ l.map pTable, row.length = 2) = True := eq_true fun row h => by obtain ⟨x, _, rfl⟩ := List.mem_map.1 h; rfl
theorem GTable_eta (x : GTable) : (⟨x.fPeers, x.fTurn⟩ : GTable) = x := rfl
structure GLight where
  fTrust : GTrust
  fState : Int
  fAnchor : GAnchor
  fStore : GStore
  fPeers : GTable
  fNow : Int
def pLight (x : GLight) : List PV := [.val (.int .i64 x.fTrust.fPeriod), .val (.int .i64 x.fTrust.fSlack), .val (.int .i64 x.fState), .val (.int .i64 x.fAnchor.fHead.fHeight), .val (.int .i64 x.fAnchor.fHead.fTime), .val (.string x.fAnchor.fHead.fLast), .val (.string x.fAnchor.fHead.fVals), .val (.string x.fAnchor.fHead.fNext), .val (.string x.fAnchor.fHead.fData), .sl 2 (x.fAnchor.fNext.map pVal), .sl 6 (x.fStore.fHeads.map pHeader), .val (.int .i64 x.fStore.fSynced), .sl 4 (x.fPeers.fPeers.map pPeer), .val (.int .i64 x.fPeers.fTurn), .val (.int .i64 x.fNow)]
theorem pLight_len (x : GLight) : (pLight x).length = 15 := rfl
theorem pLight_clo (x : GLight) : (pLight x).all cloC = true := rfl
theorem pLight_ren {φ : List Nat} {n : Nat} (l : List GLight) : (l.map pLight).map (renL φ n) = l.map pLight := rows_flat pLight_clo l
theorem pLight_one {φ : List Nat} {n : Nat} (x : GLight) : renL φ n (pLight x) = pLight x := renL_flat (pLight_clo x)
theorem pLight_rc (l : List GLight) : (∀ row ∈ l.map pLight, row.all cloC = true) = True := eq_true fun row h => by obtain ⟨x, _, rfl⟩ := List.mem_map.1 h; rfl
theorem pLight_rl (l : List GLight) : (∀ row ∈ l.map pLight, row.length = 15) = True := eq_true fun row h => by obtain ⟨x, _, rfl⟩ := List.mem_map.1 h; rfl
theorem GLight_eta (x : GLight) : (⟨x.fTrust, x.fState, x.fAnchor, x.fStore, x.fPeers, x.fNow⟩ : GLight) = x := rfl
structure GBlock where
  fHead : GHeader
  fVals : List GVal
  fNext : List GVal
  fCommit : GCommit
def pBlock (x : GBlock) : List PV := [.val (.int .i64 x.fHead.fHeight), .val (.int .i64 x.fHead.fTime), .val (.string x.fHead.fLast), .val (.string x.fHead.fVals), .val (.string x.fHead.fNext), .val (.string x.fHead.fData), .sl 2 (x.fVals.map pVal), .sl 2 (x.fNext.map pVal), .val (.int .i64 x.fCommit.fHeight), .val (.int .i64 x.fCommit.fRound), .val (.string x.fCommit.fId), .sl 2 (x.fCommit.fSigs.map pCSig)]
theorem pBlock_len (x : GBlock) : (pBlock x).length = 12 := rfl
theorem pBlock_clo (x : GBlock) : (pBlock x).all cloC = true := rfl
theorem pBlock_ren {φ : List Nat} {n : Nat} (l : List GBlock) : (l.map pBlock).map (renL φ n) = l.map pBlock := rows_flat pBlock_clo l
theorem pBlock_one {φ : List Nat} {n : Nat} (x : GBlock) : renL φ n (pBlock x) = pBlock x := renL_flat (pBlock_clo x)
theorem pBlock_rc (l : List GBlock) : (∀ row ∈ l.map pBlock, row.all cloC = true) = True := eq_true fun row h => by obtain ⟨x, _, rfl⟩ := List.mem_map.1 h; rfl
theorem pBlock_rl (l : List GBlock) : (∀ row ∈ l.map pBlock, row.length = 12) = True := eq_true fun row h => by obtain ⟨x, _, rfl⟩ := List.mem_map.1 h; rfl
theorem GBlock_eta (x : GBlock) : (⟨x.fHead, x.fVals, x.fNext, x.fCommit⟩ : GBlock) = x := rfl
structure GReport where
  fWit : Int
  fHead : GHeader
  fNext : List GVal
def pReport (x : GReport) : List PV := [.val (.int .i64 x.fWit), .val (.int .i64 x.fHead.fHeight), .val (.int .i64 x.fHead.fTime), .val (.string x.fHead.fLast), .val (.string x.fHead.fVals), .val (.string x.fHead.fNext), .val (.string x.fHead.fData), .sl 2 (x.fNext.map pVal)]
theorem pReport_len (x : GReport) : (pReport x).length = 8 := rfl
theorem pReport_clo (x : GReport) : (pReport x).all cloC = true := rfl
theorem pReport_ren {φ : List Nat} {n : Nat} (l : List GReport) : (l.map pReport).map (renL φ n) = l.map pReport := rows_flat pReport_clo l
theorem pReport_one {φ : List Nat} {n : Nat} (x : GReport) : renL φ n (pReport x) = pReport x := renL_flat (pReport_clo x)
theorem pReport_rc (l : List GReport) : (∀ row ∈ l.map pReport, row.all cloC = true) = True := eq_true fun row h => by obtain ⟨x, _, rfl⟩ := List.mem_map.1 h; rfl
theorem pReport_rl (l : List GReport) : (∀ row ∈ l.map pReport, row.length = 8) = True := eq_true fun row h => by obtain ⟨x, _, rfl⟩ := List.mem_map.1 h; rfl
theorem GReport_eta (x : GReport) : (⟨x.fWit, x.fHead, x.fNext⟩ : GReport) = x := rfl
structure GOffer where
  fPeer : Int
  fBlock : GBlock
  fWait : Int
def pOffer (x : GOffer) : List PV := [.val (.int .i64 x.fPeer), .val (.int .i64 x.fBlock.fHead.fHeight), .val (.int .i64 x.fBlock.fHead.fTime), .val (.string x.fBlock.fHead.fLast), .val (.string x.fBlock.fHead.fVals), .val (.string x.fBlock.fHead.fNext), .val (.string x.fBlock.fHead.fData), .sl 2 (x.fBlock.fVals.map pVal), .sl 2 (x.fBlock.fNext.map pVal), .val (.int .i64 x.fBlock.fCommit.fHeight), .val (.int .i64 x.fBlock.fCommit.fRound), .val (.string x.fBlock.fCommit.fId), .sl 2 (x.fBlock.fCommit.fSigs.map pCSig), .val (.int .i64 x.fWait)]
theorem pOffer_len (x : GOffer) : (pOffer x).length = 14 := rfl
theorem pOffer_clo (x : GOffer) : (pOffer x).all cloC = true := rfl
theorem pOffer_ren {φ : List Nat} {n : Nat} (l : List GOffer) : (l.map pOffer).map (renL φ n) = l.map pOffer := rows_flat pOffer_clo l
theorem pOffer_one {φ : List Nat} {n : Nat} (x : GOffer) : renL φ n (pOffer x) = pOffer x := renL_flat (pOffer_clo x)
theorem pOffer_rc (l : List GOffer) : (∀ row ∈ l.map pOffer, row.all cloC = true) = True := eq_true fun row h => by obtain ⟨x, _, rfl⟩ := List.mem_map.1 h; rfl
theorem pOffer_rl (l : List GOffer) : (∀ row ∈ l.map pOffer, row.length = 14) = True := eq_true fun row h => by obtain ⟨x, _, rfl⟩ := List.mem_map.1 h; rfl
theorem GOffer_eta (x : GOffer) : (⟨x.fPeer, x.fBlock, x.fWait⟩ : GOffer) = x := rfl
structure GReq where
  fKind : Int
  fFrom : Int
  fMost : Int
def pReq (x : GReq) : List PV := [.val (.int .i64 x.fKind), .val (.int .i64 x.fFrom), .val (.int .i64 x.fMost)]
theorem pReq_len (x : GReq) : (pReq x).length = 3 := rfl
theorem pReq_clo (x : GReq) : (pReq x).all cloC = true := rfl
theorem pReq_ren {φ : List Nat} {n : Nat} (l : List GReq) : (l.map pReq).map (renL φ n) = l.map pReq := rows_flat pReq_clo l
theorem pReq_one {φ : List Nat} {n : Nat} (x : GReq) : renL φ n (pReq x) = pReq x := renL_flat (pReq_clo x)
theorem pReq_rc (l : List GReq) : (∀ row ∈ l.map pReq, row.all cloC = true) = True := eq_true fun row h => by obtain ⟨x, _, rfl⟩ := List.mem_map.1 h; rfl
theorem pReq_fre (x : GReq) : freL (pReq x) = true := rfl
theorem pReq_rf (l : List GReq) : (∀ row ∈ l.map pReq, freL row = true) = True := eq_true fun row h => by obtain ⟨x, _, rfl⟩ := List.mem_map.1 h; rfl
theorem pReq_ro (l : List GReq) : (∀ row ∈ l.map pReq, row.all oneP = true) = True := eq_true fun row h => by obtain ⟨x, _, rfl⟩ := List.mem_map.1 h; rfl
theorem pReq_rl (l : List GReq) : (∀ row ∈ l.map pReq, row.length = 3) = True := eq_true fun row h => by obtain ⟨x, _, rfl⟩ := List.mem_map.1 h; rfl
theorem GReq_eta (x : GReq) : (⟨x.fKind, x.fFrom, x.fMost⟩ : GReq) = x := rfl
structure GAddr where
  fId : Int
  fSeen : Int
def pAddr (x : GAddr) : List PV := [.val (.int .i64 x.fId), .val (.int .i64 x.fSeen)]
theorem pAddr_len (x : GAddr) : (pAddr x).length = 2 := rfl
theorem pAddr_clo (x : GAddr) : (pAddr x).all cloC = true := rfl
theorem pAddr_ren {φ : List Nat} {n : Nat} (l : List GAddr) : (l.map pAddr).map (renL φ n) = l.map pAddr := rows_flat pAddr_clo l
theorem pAddr_one {φ : List Nat} {n : Nat} (x : GAddr) : renL φ n (pAddr x) = pAddr x := renL_flat (pAddr_clo x)
theorem pAddr_rc (l : List GAddr) : (∀ row ∈ l.map pAddr, row.all cloC = true) = True := eq_true fun row h => by obtain ⟨x, _, rfl⟩ := List.mem_map.1 h; rfl
theorem pAddr_fre (x : GAddr) : freL (pAddr x) = true := rfl
theorem pAddr_rf (l : List GAddr) : (∀ row ∈ l.map pAddr, freL row = true) = True := eq_true fun row h => by obtain ⟨x, _, rfl⟩ := List.mem_map.1 h; rfl
theorem pAddr_ro (l : List GAddr) : (∀ row ∈ l.map pAddr, row.all oneP = true) = True := eq_true fun row h => by obtain ⟨x, _, rfl⟩ := List.mem_map.1 h; rfl
theorem pAddr_rl (l : List GAddr) : (∀ row ∈ l.map pAddr, row.length = 2) = True := eq_true fun row h => by obtain ⟨x, _, rfl⟩ := List.mem_map.1 h; rfl
theorem GAddr_eta (x : GAddr) : (⟨x.fId, x.fSeen⟩ : GAddr) = x := rfl
structure GLanes where
  fRows : List (List Int)
  fTurn : Int
def pLanes (x : GLanes) : List PV := [.sl 1 (x.fRows.map pRow), .val (.int .i64 x.fTurn)]
theorem pLanes_len (x : GLanes) : (pLanes x).length = 2 := rfl
theorem pLanes_clo (x : GLanes) : (pLanes x).all cloC = true := rfl
theorem pLanes_ren {φ : List Nat} {n : Nat} (l : List GLanes) : (l.map pLanes).map (renL φ n) = l.map pLanes := rows_flat pLanes_clo l
theorem pLanes_one {φ : List Nat} {n : Nat} (x : GLanes) : renL φ n (pLanes x) = pLanes x := renL_flat (pLanes_clo x)
theorem pLanes_rc (l : List GLanes) : (∀ row ∈ l.map pLanes, row.all cloC = true) = True := eq_true fun row h => by obtain ⟨x, _, rfl⟩ := List.mem_map.1 h; rfl
theorem pLanes_rl (l : List GLanes) : (∀ row ∈ l.map pLanes, row.length = 2) = True := eq_true fun row h => by obtain ⟨x, _, rfl⟩ := List.mem_map.1 h; rfl
theorem GLanes_eta (x : GLanes) : (⟨x.fRows, x.fTurn⟩ : GLanes) = x := rfl
structure GGuard where
  fHeight : Int
  fRound : Int
  fStep : Int
  fId : ByteArray
def pGuard (x : GGuard) : List PV := [.val (.int .i64 x.fHeight), .val (.int .i64 x.fRound), .val (.int .i64 x.fStep), .val (.string x.fId)]
theorem pGuard_len (x : GGuard) : (pGuard x).length = 4 := rfl
theorem pGuard_clo (x : GGuard) : (pGuard x).all cloC = true := rfl
theorem pGuard_ren {φ : List Nat} {n : Nat} (l : List GGuard) : (l.map pGuard).map (renL φ n) = l.map pGuard := rows_flat pGuard_clo l
theorem pGuard_one {φ : List Nat} {n : Nat} (x : GGuard) : renL φ n (pGuard x) = pGuard x := renL_flat (pGuard_clo x)
theorem pGuard_rc (l : List GGuard) : (∀ row ∈ l.map pGuard, row.all cloC = true) = True := eq_true fun row h => by obtain ⟨x, _, rfl⟩ := List.mem_map.1 h; rfl
theorem pGuard_fre (x : GGuard) : freL (pGuard x) = true := rfl
theorem pGuard_rf (l : List GGuard) : (∀ row ∈ l.map pGuard, freL row = true) = True := eq_true fun row h => by obtain ⟨x, _, rfl⟩ := List.mem_map.1 h; rfl
theorem pGuard_ro (l : List GGuard) : (∀ row ∈ l.map pGuard, row.all oneP = true) = True := eq_true fun row h => by obtain ⟨x, _, rfl⟩ := List.mem_map.1 h; rfl
theorem pGuard_rl (l : List GGuard) : (∀ row ∈ l.map pGuard, row.length = 4) = True := eq_true fun row h => by obtain ⟨x, _, rfl⟩ := List.mem_map.1 h; rfl
theorem GGuard_eta (x : GGuard) : (⟨x.fHeight, x.fRound, x.fStep, x.fId⟩ : GGuard) = x := rfl
structure GSigner where
  fVal : Int
  fDisk : GGuard
  fMem : GGuard
  fPend : Bool
  fOut : List GVote
def pSigner (x : GSigner) : List PV := [.val (.int .i64 x.fVal), .val (.int .i64 x.fDisk.fHeight), .val (.int .i64 x.fDisk.fRound), .val (.int .i64 x.fDisk.fStep), .val (.string x.fDisk.fId), .val (.int .i64 x.fMem.fHeight), .val (.int .i64 x.fMem.fRound), .val (.int .i64 x.fMem.fStep), .val (.string x.fMem.fId), .val (.bool x.fPend), .sl 5 (x.fOut.map pVote)]
theorem pSigner_len (x : GSigner) : (pSigner x).length = 11 := rfl
theorem pSigner_clo (x : GSigner) : (pSigner x).all cloC = true := rfl
theorem pSigner_ren {φ : List Nat} {n : Nat} (l : List GSigner) : (l.map pSigner).map (renL φ n) = l.map pSigner := rows_flat pSigner_clo l
theorem pSigner_one {φ : List Nat} {n : Nat} (x : GSigner) : renL φ n (pSigner x) = pSigner x := renL_flat (pSigner_clo x)
theorem pSigner_rc (l : List GSigner) : (∀ row ∈ l.map pSigner, row.all cloC = true) = True := eq_true fun row h => by obtain ⟨x, _, rfl⟩ := List.mem_map.1 h; rfl
theorem pSigner_rl (l : List GSigner) : (∀ row ∈ l.map pSigner, row.length = 11) = True := eq_true fun row h => by obtain ⟨x, _, rfl⟩ := List.mem_map.1 h; rfl
theorem GSigner_eta (x : GSigner) : (⟨x.fVal, x.fDisk, x.fMem, x.fPend, x.fOut⟩ : GSigner) = x := rfl
attribute [push_cast] pInt pInt_ren pInt_rc pInt_rf pInt_ro pInt_rl pStr pStr_ren pStr_rc pStr_rf pStr_ro pStr_rl pBool pBool_ren pBool_rc pBool_rf pBool_ro pBool_rl pRow pRow_ren pRow_rc pRow_rl pVal pVal_ren pVal_rc pVal_rf pVal_ro pVal_rl GVal_eta pHeader pHeader_ren pHeader_rc pHeader_rf pHeader_ro pHeader_rl GHeader_eta pVote pVote_ren pVote_rc pVote_rf pVote_ro pVote_rl GVote_eta pCSig pCSig_ren pCSig_rc pCSig_rf pCSig_ro pCSig_rl GCSig_eta pCommit pCommit_ren pCommit_rc pCommit_rl GCommit_eta pTrust pTrust_ren pTrust_rc pTrust_rf pTrust_ro pTrust_rl GTrust_eta pAnchor pAnchor_ren pAnchor_rc pAnchor_rl GAnchor_eta pStore pStore_ren pStore_rc pStore_rl GStore_eta pPeer pPeer_ren pPeer_rc pPeer_rf pPeer_ro pPeer_rl GPeer_eta pTable pTable_ren pTable_rc pTable_rl GTable_eta pLight pLight_ren pLight_rc pLight_rl GLight_eta pBlock pBlock_ren pBlock_rc pBlock_rl GBlock_eta pReport pReport_ren pReport_rc pReport_rl GReport_eta pOffer pOffer_ren pOffer_rc pOffer_rl GOffer_eta pReq pReq_ren pReq_rc pReq_rf pReq_ro pReq_rl GReq_eta pAddr pAddr_ren pAddr_rc pAddr_rf pAddr_ro pAddr_rl GAddr_eta pLanes pLanes_ren pLanes_rc pLanes_rl GLanes_eta pGuard pGuard_ren pGuard_rc pGuard_rf pGuard_ro pGuard_rl GGuard_eta pSigner pSigner_ren pSigner_rc pSigner_rl GSigner_eta
theorem cv_3_3 {k : IntKind} {n : Int} : sflat Tryd.prog (convert 3 3 (.int k n)) = some (.int .i64 (IntKind.wrap .i64 n)) := conv_int (by kernel_rfl) (by kernel_rfl)
theorem cv_3_5 {k : IntKind} {n : Int} : sflat Tryd.prog (convert 3 5 (.int k n)) = some (.int .u8 (IntKind.wrap .u8 n)) := conv_int (by kernel_rfl) (by kernel_rfl)
theorem cv_3_80 {k : IntKind} {n : Int} : sflat Tryd.prog (convert 3 80 (.int k n)) = some (.int .u64 (IntKind.wrap .u64 n)) := conv_int (by kernel_rfl) (by kernel_rfl)
theorem cv_3_90 {k : IntKind} {n : Int} : sflat Tryd.prog (convert 3 90 (.int k n)) = some (.int .u32 (IntKind.wrap .u32 n)) := conv_int (by kernel_rfl) (by kernel_rfl)
theorem cv_3_106 {k : IntKind} {n : Int} : sflat Tryd.prog (convert 3 106 (.int k n)) = some (.int .u64 (IntKind.wrap .u64 n)) := conv_int (by kernel_rfl) (by kernel_rfl)
theorem cv_5_3 {k : IntKind} {n : Int} : sflat Tryd.prog (convert 5 3 (.int k n)) = some (.int .i64 (IntKind.wrap .i64 n)) := conv_int (by kernel_rfl) (by kernel_rfl)
theorem cv_5_5 {k : IntKind} {n : Int} : sflat Tryd.prog (convert 5 5 (.int k n)) = some (.int .u8 (IntKind.wrap .u8 n)) := conv_int (by kernel_rfl) (by kernel_rfl)
theorem cv_5_80 {k : IntKind} {n : Int} : sflat Tryd.prog (convert 5 80 (.int k n)) = some (.int .u64 (IntKind.wrap .u64 n)) := conv_int (by kernel_rfl) (by kernel_rfl)
theorem cv_5_90 {k : IntKind} {n : Int} : sflat Tryd.prog (convert 5 90 (.int k n)) = some (.int .u32 (IntKind.wrap .u32 n)) := conv_int (by kernel_rfl) (by kernel_rfl)
theorem cv_5_106 {k : IntKind} {n : Int} : sflat Tryd.prog (convert 5 106 (.int k n)) = some (.int .u64 (IntKind.wrap .u64 n)) := conv_int (by kernel_rfl) (by kernel_rfl)
theorem cv_80_3 {k : IntKind} {n : Int} : sflat Tryd.prog (convert 80 3 (.int k n)) = some (.int .i64 (IntKind.wrap .i64 n)) := conv_int (by kernel_rfl) (by kernel_rfl)
theorem cv_80_5 {k : IntKind} {n : Int} : sflat Tryd.prog (convert 80 5 (.int k n)) = some (.int .u8 (IntKind.wrap .u8 n)) := conv_int (by kernel_rfl) (by kernel_rfl)
theorem cv_80_80 {k : IntKind} {n : Int} : sflat Tryd.prog (convert 80 80 (.int k n)) = some (.int .u64 (IntKind.wrap .u64 n)) := conv_int (by kernel_rfl) (by kernel_rfl)
theorem cv_80_90 {k : IntKind} {n : Int} : sflat Tryd.prog (convert 80 90 (.int k n)) = some (.int .u32 (IntKind.wrap .u32 n)) := conv_int (by kernel_rfl) (by kernel_rfl)
theorem cv_80_106 {k : IntKind} {n : Int} : sflat Tryd.prog (convert 80 106 (.int k n)) = some (.int .u64 (IntKind.wrap .u64 n)) := conv_int (by kernel_rfl) (by kernel_rfl)
theorem cv_90_3 {k : IntKind} {n : Int} : sflat Tryd.prog (convert 90 3 (.int k n)) = some (.int .i64 (IntKind.wrap .i64 n)) := conv_int (by kernel_rfl) (by kernel_rfl)
theorem cv_90_5 {k : IntKind} {n : Int} : sflat Tryd.prog (convert 90 5 (.int k n)) = some (.int .u8 (IntKind.wrap .u8 n)) := conv_int (by kernel_rfl) (by kernel_rfl)
theorem cv_90_80 {k : IntKind} {n : Int} : sflat Tryd.prog (convert 90 80 (.int k n)) = some (.int .u64 (IntKind.wrap .u64 n)) := conv_int (by kernel_rfl) (by kernel_rfl)
theorem cv_90_90 {k : IntKind} {n : Int} : sflat Tryd.prog (convert 90 90 (.int k n)) = some (.int .u32 (IntKind.wrap .u32 n)) := conv_int (by kernel_rfl) (by kernel_rfl)
theorem cv_90_106 {k : IntKind} {n : Int} : sflat Tryd.prog (convert 90 106 (.int k n)) = some (.int .u64 (IntKind.wrap .u64 n)) := conv_int (by kernel_rfl) (by kernel_rfl)
theorem cv_106_3 {k : IntKind} {n : Int} : sflat Tryd.prog (convert 106 3 (.int k n)) = some (.int .i64 (IntKind.wrap .i64 n)) := conv_int (by kernel_rfl) (by kernel_rfl)
theorem cv_106_5 {k : IntKind} {n : Int} : sflat Tryd.prog (convert 106 5 (.int k n)) = some (.int .u8 (IntKind.wrap .u8 n)) := conv_int (by kernel_rfl) (by kernel_rfl)
theorem cv_106_80 {k : IntKind} {n : Int} : sflat Tryd.prog (convert 106 80 (.int k n)) = some (.int .u64 (IntKind.wrap .u64 n)) := conv_int (by kernel_rfl) (by kernel_rfl)
theorem cv_106_90 {k : IntKind} {n : Int} : sflat Tryd.prog (convert 106 90 (.int k n)) = some (.int .u32 (IntKind.wrap .u32 n)) := conv_int (by kernel_rfl) (by kernel_rfl)
theorem cv_106_106 {k : IntKind} {n : Int} : sflat Tryd.prog (convert 106 106 (.int k n)) = some (.int .u64 (IntKind.wrap .u64 n)) := conv_int (by kernel_rfl) (by kernel_rfl)
attribute [push_cast] cv_3_3 cv_3_5 cv_3_80 cv_3_90 cv_3_106 cv_5_3 cv_5_5 cv_5_80 cv_5_90 cv_5_106 cv_80_3 cv_80_5 cv_80_80 cv_80_90 cv_80_106 cv_90_3 cv_90_5 cv_90_80 cv_90_90 cv_90_106 cv_106_3 cv_106_5 cv_106_80 cv_106_90 cv_106_106
attribute [push_cast] tys_3 tys_4 tys_5 tys_9 tys_22 tys_28 tys_38 tys_42 tys_44 tys_67 tys_80 tys_82 tys_90 tys_91 tys_97 tys_106 tys_107 tys_111
end Go.Proofs.YtmdjnohdkhepjaaDoor
