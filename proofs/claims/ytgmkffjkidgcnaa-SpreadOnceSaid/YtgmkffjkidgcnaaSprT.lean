/-
  Types, as trees; the table of types.
  WRITTEN BY A PROGRAM OF MY OWN (wip/gen/am.py).
-/
import Derived.Test.YtgmkffjkidgcnaaProg
import Derived.Shelf.Spec.SlicesInsertGrow
import Derived.Lib.Hide
import Derived.Test.YtgmkffjkidgcnaaPlA
import Derived.Test.YtgmkffjkidgcnaaAmZ
import Derived.Test.YtgmkffjkidgcnaaSort109
import Derived.Test.YtgmkffjkidgcnaaAmX
namespace Go.Proofs.Ytgmkffjkidgcnaa
open Go.RowKit Go.Lib Go.Shelf
set_option linter.unusedVariables false
set_option maxRecDepth 100000
structure T_api_Addr where
  fV6 : Bool
  fHi : Int
  fLo : Int
  deriving DecidableEq

def T_api_Addr.d : T_api_Addr := ⟨false, (0 : Int), (0 : Int)⟩

def T_api_Addr.c (a : T_api_Addr) : List C := [.lit (.bool a.fV6), .lit (.int .u64 a.fHi), .lit (.int .u64 a.fLo)]

def T_api_Addr.ok (a : T_api_Addr) : Prop := okB a.fV6 ∧ (okI .u64) a.fHi ∧ (okI .u64) a.fLo ∧ True

theorem opn_T_api_Addr : Opn Try.prog 25 T_api_Addr.c T_api_Addr.ok := opn_struct (ea := (cP cB (cP (cI .u64) (cP (cI .u64) cU)))) (oa := (okP okB (okP (okI .u64) (okP (okI .u64) okU)))) (N := 3) Try.underlying25 (by kernel_rfl) (tail_cons (sz := 1) rfl rfl (by kernel_rfl) (opn_bool Try.underlying4) (tail_cons (sz := 1) rfl rfl (by kernel_rfl) (opn_int Try.underlying23) (tail_cons (sz := 1) rfl rfl (by kernel_rfl) (opn_int Try.underlying23) tail_nil))) (fun (a : Bool × Int × Int × Unit) => (⟨a.1, a.2.1, a.2.2.1⟩ : T_api_Addr)) (fun _ => rfl) (fun _ h => h)

structure S_struct_V6_bool_Hi_uint64_Lo_uint64__24 where
  fV6 : Bool
  fHi : Int
  fLo : Int
  deriving DecidableEq

def S_struct_V6_bool_Hi_uint64_Lo_uint64__24.d : S_struct_V6_bool_Hi_uint64_Lo_uint64__24 := ⟨false, (0 : Int), (0 : Int)⟩

def S_struct_V6_bool_Hi_uint64_Lo_uint64__24.c (a : S_struct_V6_bool_Hi_uint64_Lo_uint64__24) : List C := [.lit (.bool a.fV6), .lit (.int .u64 a.fHi), .lit (.int .u64 a.fLo)]

def S_struct_V6_bool_Hi_uint64_Lo_uint64__24.ok (a : S_struct_V6_bool_Hi_uint64_Lo_uint64__24) : Prop := okB a.fV6 ∧ (okI .u64) a.fHi ∧ (okI .u64) a.fLo ∧ True

theorem opn_S_struct_V6_bool_Hi_uint64_Lo_uint64__24 : Opn Try.prog 24 S_struct_V6_bool_Hi_uint64_Lo_uint64__24.c S_struct_V6_bool_Hi_uint64_Lo_uint64__24.ok := opn_struct (ea := (cP cB (cP (cI .u64) (cP (cI .u64) cU)))) (oa := (okP okB (okP (okI .u64) (okP (okI .u64) okU)))) (N := 3) Try.underlying24 (by kernel_rfl) (tail_cons (sz := 1) rfl rfl (by kernel_rfl) (opn_bool Try.underlying4) (tail_cons (sz := 1) rfl rfl (by kernel_rfl) (opn_int Try.underlying23) (tail_cons (sz := 1) rfl rfl (by kernel_rfl) (opn_int Try.underlying23) tail_nil))) (fun (a : Bool × Int × Int × Unit) => (⟨a.1, a.2.1, a.2.2.1⟩ : S_struct_V6_bool_Hi_uint64_Lo_uint64__24)) (fun _ => rfl) (fun _ h => h)

structure T_api_Net where
  fAddr : T_api_Addr
  fBits : Int
  deriving DecidableEq

def T_api_Net.d : T_api_Net := ⟨T_api_Addr.d, (0 : Int)⟩

def T_api_Net.c (a : T_api_Net) : List C := [.lit (.bool a.fAddr.fV6), .lit (.int .u64 a.fAddr.fHi), .lit (.int .u64 a.fAddr.fLo), .lit (.int .i64 a.fBits)]

def T_api_Net.ok (a : T_api_Net) : Prop := T_api_Addr.ok a.fAddr ∧ (okI .i64) a.fBits ∧ True

theorem opn_T_api_Net : Opn Try.prog 27 T_api_Net.c T_api_Net.ok := opn_struct (ea := (cP T_api_Addr.c (cP (cI .i64) cU))) (oa := (okP T_api_Addr.ok (okP (okI .i64) okU))) (N := 4) Try.underlying27 (by kernel_rfl) (tail_cons (sz := 3) rfl rfl (by kernel_rfl) opn_T_api_Addr (tail_cons (sz := 1) rfl rfl (by kernel_rfl) (opn_int Try.underlying3) tail_nil)) (fun (a : T_api_Addr × Int × Unit) => (⟨a.1, a.2.1⟩ : T_api_Net)) (fun _ => rfl) (fun _ h => h)

structure S_struct_Addr_api_Addr_Bits_int__26 where
  fAddr : T_api_Addr
  fBits : Int
  deriving DecidableEq

def S_struct_Addr_api_Addr_Bits_int__26.d : S_struct_Addr_api_Addr_Bits_int__26 := ⟨T_api_Addr.d, (0 : Int)⟩

def S_struct_Addr_api_Addr_Bits_int__26.c (a : S_struct_Addr_api_Addr_Bits_int__26) : List C := [.lit (.bool a.fAddr.fV6), .lit (.int .u64 a.fAddr.fHi), .lit (.int .u64 a.fAddr.fLo), .lit (.int .i64 a.fBits)]

def S_struct_Addr_api_Addr_Bits_int__26.ok (a : S_struct_Addr_api_Addr_Bits_int__26) : Prop := T_api_Addr.ok a.fAddr ∧ (okI .i64) a.fBits ∧ True

theorem opn_S_struct_Addr_api_Addr_Bits_int__26 : Opn Try.prog 26 S_struct_Addr_api_Addr_Bits_int__26.c S_struct_Addr_api_Addr_Bits_int__26.ok := opn_struct (ea := (cP T_api_Addr.c (cP (cI .i64) cU))) (oa := (okP T_api_Addr.ok (okP (okI .i64) okU))) (N := 4) Try.underlying26 (by kernel_rfl) (tail_cons (sz := 3) rfl rfl (by kernel_rfl) opn_T_api_Addr (tail_cons (sz := 1) rfl rfl (by kernel_rfl) (opn_int Try.underlying3) tail_nil)) (fun (a : T_api_Addr × Int × Unit) => (⟨a.1, a.2.1⟩ : S_struct_Addr_api_Addr_Bits_int__26)) (fun _ => rfl) (fun _ h => h)

structure T_api_End where
  fAddr : T_api_Addr
  fPort : Int
  deriving DecidableEq

def T_api_End.d : T_api_End := ⟨T_api_Addr.d, (0 : Int)⟩

def T_api_End.c (a : T_api_End) : List C := [.lit (.bool a.fAddr.fV6), .lit (.int .u64 a.fAddr.fHi), .lit (.int .u64 a.fAddr.fLo), .lit (.int .i64 a.fPort)]

def T_api_End.ok (a : T_api_End) : Prop := T_api_Addr.ok a.fAddr ∧ (okI .i64) a.fPort ∧ True

theorem opn_T_api_End : Opn Try.prog 58 T_api_End.c T_api_End.ok := opn_struct (ea := (cP T_api_Addr.c (cP (cI .i64) cU))) (oa := (okP T_api_Addr.ok (okP (okI .i64) okU))) (N := 4) Try.underlying58 (by kernel_rfl) (tail_cons (sz := 3) rfl rfl (by kernel_rfl) opn_T_api_Addr (tail_cons (sz := 1) rfl rfl (by kernel_rfl) (opn_int Try.underlying3) tail_nil)) (fun (a : T_api_Addr × Int × Unit) => (⟨a.1, a.2.1⟩ : T_api_End)) (fun _ => rfl) (fun _ h => h)

structure T_api_Entry where
  fEnd : T_api_End
  fState : Int
  fFails : Int
  fNext : Int
  deriving DecidableEq

def T_api_Entry.d : T_api_Entry := ⟨T_api_End.d, (0 : Int), (0 : Int), (0 : Int)⟩

def T_api_Entry.c (a : T_api_Entry) : List C := [.lit (.bool a.fEnd.fAddr.fV6), .lit (.int .u64 a.fEnd.fAddr.fHi), .lit (.int .u64 a.fEnd.fAddr.fLo), .lit (.int .i64 a.fEnd.fPort), .lit (.int .i64 a.fState), .lit (.int .i64 a.fFails), .lit (.int .i64 a.fNext)]

def T_api_Entry.ok (a : T_api_Entry) : Prop := T_api_End.ok a.fEnd ∧ (okI .i64) a.fState ∧ (okI .i64) a.fFails ∧ (okI .i64) a.fNext ∧ True

theorem opn_T_api_Entry : Opn Try.prog 60 T_api_Entry.c T_api_Entry.ok := opn_struct (ea := (cP T_api_End.c (cP (cI .i64) (cP (cI .i64) (cP (cI .i64) cU))))) (oa := (okP T_api_End.ok (okP (okI .i64) (okP (okI .i64) (okP (okI .i64) okU))))) (N := 7) Try.underlying60 (by kernel_rfl) (tail_cons (sz := 4) rfl rfl (by kernel_rfl) opn_T_api_End (tail_cons (sz := 1) rfl rfl (by kernel_rfl) (opn_int Try.underlying3) (tail_cons (sz := 1) rfl rfl (by kernel_rfl) (opn_int Try.underlying3) (tail_cons (sz := 1) rfl rfl (by kernel_rfl) (opn_int Try.underlying3) tail_nil)))) (fun (a : T_api_End × Int × Int × Int × Unit) => (⟨a.1, a.2.1, a.2.2.1, a.2.2.2.1⟩ : T_api_Entry)) (fun _ => rfl) (fun _ h => h)

structure S_struct_End_api_End_State_int_Fails_int_N_59 where
  fEnd : T_api_End
  fState : Int
  fFails : Int
  fNext : Int
  deriving DecidableEq

def S_struct_End_api_End_State_int_Fails_int_N_59.d : S_struct_End_api_End_State_int_Fails_int_N_59 := ⟨T_api_End.d, (0 : Int), (0 : Int), (0 : Int)⟩

def S_struct_End_api_End_State_int_Fails_int_N_59.c (a : S_struct_End_api_End_State_int_Fails_int_N_59) : List C := [.lit (.bool a.fEnd.fAddr.fV6), .lit (.int .u64 a.fEnd.fAddr.fHi), .lit (.int .u64 a.fEnd.fAddr.fLo), .lit (.int .i64 a.fEnd.fPort), .lit (.int .i64 a.fState), .lit (.int .i64 a.fFails), .lit (.int .i64 a.fNext)]

def S_struct_End_api_End_State_int_Fails_int_N_59.ok (a : S_struct_End_api_End_State_int_Fails_int_N_59) : Prop := T_api_End.ok a.fEnd ∧ (okI .i64) a.fState ∧ (okI .i64) a.fFails ∧ (okI .i64) a.fNext ∧ True

theorem opn_S_struct_End_api_End_State_int_Fails_int_N_59 : Opn Try.prog 59 S_struct_End_api_End_State_int_Fails_int_N_59.c S_struct_End_api_End_State_int_Fails_int_N_59.ok := opn_struct (ea := (cP T_api_End.c (cP (cI .i64) (cP (cI .i64) (cP (cI .i64) cU))))) (oa := (okP T_api_End.ok (okP (okI .i64) (okP (okI .i64) (okP (okI .i64) okU))))) (N := 7) Try.underlying59 (by kernel_rfl) (tail_cons (sz := 4) rfl rfl (by kernel_rfl) opn_T_api_End (tail_cons (sz := 1) rfl rfl (by kernel_rfl) (opn_int Try.underlying3) (tail_cons (sz := 1) rfl rfl (by kernel_rfl) (opn_int Try.underlying3) (tail_cons (sz := 1) rfl rfl (by kernel_rfl) (opn_int Try.underlying3) tail_nil)))) (fun (a : T_api_End × Int × Int × Int × Unit) => (⟨a.1, a.2.1, a.2.2.1, a.2.2.2.1⟩ : S_struct_End_api_End_State_int_Fails_int_N_59)) (fun _ => rfl) (fun _ h => h)

structure S_struct_Addr_api_Addr_Port_int__57 where
  fAddr : T_api_Addr
  fPort : Int
  deriving DecidableEq

def S_struct_Addr_api_Addr_Port_int__57.d : S_struct_Addr_api_Addr_Port_int__57 := ⟨T_api_Addr.d, (0 : Int)⟩

def S_struct_Addr_api_Addr_Port_int__57.c (a : S_struct_Addr_api_Addr_Port_int__57) : List C := [.lit (.bool a.fAddr.fV6), .lit (.int .u64 a.fAddr.fHi), .lit (.int .u64 a.fAddr.fLo), .lit (.int .i64 a.fPort)]

def S_struct_Addr_api_Addr_Port_int__57.ok (a : S_struct_Addr_api_Addr_Port_int__57) : Prop := T_api_Addr.ok a.fAddr ∧ (okI .i64) a.fPort ∧ True

theorem opn_S_struct_Addr_api_Addr_Port_int__57 : Opn Try.prog 57 S_struct_Addr_api_Addr_Port_int__57.c S_struct_Addr_api_Addr_Port_int__57.ok := opn_struct (ea := (cP T_api_Addr.c (cP (cI .i64) cU))) (oa := (okP T_api_Addr.ok (okP (okI .i64) okU))) (N := 4) Try.underlying57 (by kernel_rfl) (tail_cons (sz := 3) rfl rfl (by kernel_rfl) opn_T_api_Addr (tail_cons (sz := 1) rfl rfl (by kernel_rfl) (opn_int Try.underlying3) tail_nil)) (fun (a : T_api_Addr × Int × Unit) => (⟨a.1, a.2.1⟩ : S_struct_Addr_api_Addr_Port_int__57)) (fun _ => rfl) (fun _ h => h)

structure T_api_Score where
  fPoints : Int
  fAt : Int
  deriving DecidableEq

def T_api_Score.d : T_api_Score := ⟨(0 : Int), (0 : Int)⟩

def T_api_Score.c (a : T_api_Score) : List C := [.lit (.int .i64 a.fPoints), .lit (.int .i64 a.fAt)]

def T_api_Score.ok (a : T_api_Score) : Prop := (okI .i64) a.fPoints ∧ (okI .i64) a.fAt ∧ True

theorem opn_T_api_Score : Opn Try.prog 108 T_api_Score.c T_api_Score.ok := opn_struct (ea := (cP (cI .i64) (cP (cI .i64) cU))) (oa := (okP (okI .i64) (okP (okI .i64) okU))) (N := 2) Try.underlying108 (by kernel_rfl) (tail_cons (sz := 1) rfl rfl (by kernel_rfl) (opn_int Try.underlying3) (tail_cons (sz := 1) rfl rfl (by kernel_rfl) (opn_int Try.underlying3) tail_nil)) (fun (a : Int × Int × Unit) => (⟨a.1, a.2.1⟩ : T_api_Score)) (fun _ => rfl) (fun _ h => h)

structure T_api_Peer where
  fEnd : T_api_End
  fIn : Bool
  fSince : Int
  fScore : T_api_Score
  fPing : Int
  fWork : Int
  deriving DecidableEq

def T_api_Peer.d : T_api_Peer := ⟨T_api_End.d, false, (0 : Int), T_api_Score.d, (0 : Int), (0 : Int)⟩

def T_api_Peer.c (a : T_api_Peer) : List C := [.lit (.bool a.fEnd.fAddr.fV6), .lit (.int .u64 a.fEnd.fAddr.fHi), .lit (.int .u64 a.fEnd.fAddr.fLo), .lit (.int .i64 a.fEnd.fPort), .lit (.bool a.fIn), .lit (.int .i64 a.fSince), .lit (.int .i64 a.fScore.fPoints), .lit (.int .i64 a.fScore.fAt), .lit (.int .i64 a.fPing), .lit (.int .i64 a.fWork)]

def T_api_Peer.ok (a : T_api_Peer) : Prop := T_api_End.ok a.fEnd ∧ okB a.fIn ∧ (okI .i64) a.fSince ∧ T_api_Score.ok a.fScore ∧ (okI .i64) a.fPing ∧ (okI .i64) a.fWork ∧ True

theorem opn_T_api_Peer : Opn Try.prog 110 T_api_Peer.c T_api_Peer.ok := opn_struct (ea := (cP T_api_End.c (cP cB (cP (cI .i64) (cP T_api_Score.c (cP (cI .i64) (cP (cI .i64) cU))))))) (oa := (okP T_api_End.ok (okP okB (okP (okI .i64) (okP T_api_Score.ok (okP (okI .i64) (okP (okI .i64) okU))))))) (N := 10) Try.underlying110 (by kernel_rfl) (tail_cons (sz := 4) rfl rfl (by kernel_rfl) opn_T_api_End (tail_cons (sz := 1) rfl rfl (by kernel_rfl) (opn_bool Try.underlying4) (tail_cons (sz := 1) rfl rfl (by kernel_rfl) (opn_int Try.underlying3) (tail_cons (sz := 2) rfl rfl (by kernel_rfl) opn_T_api_Score (tail_cons (sz := 1) rfl rfl (by kernel_rfl) (opn_int Try.underlying3) (tail_cons (sz := 1) rfl rfl (by kernel_rfl) (opn_int Try.underlying3) tail_nil)))))) (fun (a : T_api_End × Bool × Int × T_api_Score × Int × Int × Unit) => (⟨a.1, a.2.1, a.2.2.1, a.2.2.2.1, a.2.2.2.2.1, a.2.2.2.2.2.1⟩ : T_api_Peer)) (fun _ => rfl) (fun _ h => h)

structure S_struct_End_api_End_In_bool_Since_int_Sco_109 where
  fEnd : T_api_End
  fIn : Bool
  fSince : Int
  fScore : T_api_Score
  fPing : Int
  fWork : Int
  deriving DecidableEq

def S_struct_End_api_End_In_bool_Since_int_Sco_109.d : S_struct_End_api_End_In_bool_Since_int_Sco_109 := ⟨T_api_End.d, false, (0 : Int), T_api_Score.d, (0 : Int), (0 : Int)⟩

def S_struct_End_api_End_In_bool_Since_int_Sco_109.c (a : S_struct_End_api_End_In_bool_Since_int_Sco_109) : List C := [.lit (.bool a.fEnd.fAddr.fV6), .lit (.int .u64 a.fEnd.fAddr.fHi), .lit (.int .u64 a.fEnd.fAddr.fLo), .lit (.int .i64 a.fEnd.fPort), .lit (.bool a.fIn), .lit (.int .i64 a.fSince), .lit (.int .i64 a.fScore.fPoints), .lit (.int .i64 a.fScore.fAt), .lit (.int .i64 a.fPing), .lit (.int .i64 a.fWork)]

def S_struct_End_api_End_In_bool_Since_int_Sco_109.ok (a : S_struct_End_api_End_In_bool_Since_int_Sco_109) : Prop := T_api_End.ok a.fEnd ∧ okB a.fIn ∧ (okI .i64) a.fSince ∧ T_api_Score.ok a.fScore ∧ (okI .i64) a.fPing ∧ (okI .i64) a.fWork ∧ True

theorem opn_S_struct_End_api_End_In_bool_Since_int_Sco_109 : Opn Try.prog 109 S_struct_End_api_End_In_bool_Since_int_Sco_109.c S_struct_End_api_End_In_bool_Since_int_Sco_109.ok := opn_struct (ea := (cP T_api_End.c (cP cB (cP (cI .i64) (cP T_api_Score.c (cP (cI .i64) (cP (cI .i64) cU))))))) (oa := (okP T_api_End.ok (okP okB (okP (okI .i64) (okP T_api_Score.ok (okP (okI .i64) (okP (okI .i64) okU))))))) (N := 10) Try.underlying109 (by kernel_rfl) (tail_cons (sz := 4) rfl rfl (by kernel_rfl) opn_T_api_End (tail_cons (sz := 1) rfl rfl (by kernel_rfl) (opn_bool Try.underlying4) (tail_cons (sz := 1) rfl rfl (by kernel_rfl) (opn_int Try.underlying3) (tail_cons (sz := 2) rfl rfl (by kernel_rfl) opn_T_api_Score (tail_cons (sz := 1) rfl rfl (by kernel_rfl) (opn_int Try.underlying3) (tail_cons (sz := 1) rfl rfl (by kernel_rfl) (opn_int Try.underlying3) tail_nil)))))) (fun (a : T_api_End × Bool × Int × T_api_Score × Int × Int × Unit) => (⟨a.1, a.2.1, a.2.2.1, a.2.2.2.1, a.2.2.2.2.1, a.2.2.2.2.2.1⟩ : S_struct_End_api_End_In_bool_Since_int_Sco_109)) (fun _ => rfl) (fun _ h => h)

structure S_struct_Points_int_At_int__107 where
  fPoints : Int
  fAt : Int
  deriving DecidableEq

def S_struct_Points_int_At_int__107.d : S_struct_Points_int_At_int__107 := ⟨(0 : Int), (0 : Int)⟩

def S_struct_Points_int_At_int__107.c (a : S_struct_Points_int_At_int__107) : List C := [.lit (.int .i64 a.fPoints), .lit (.int .i64 a.fAt)]

def S_struct_Points_int_At_int__107.ok (a : S_struct_Points_int_At_int__107) : Prop := (okI .i64) a.fPoints ∧ (okI .i64) a.fAt ∧ True

theorem opn_S_struct_Points_int_At_int__107 : Opn Try.prog 107 S_struct_Points_int_At_int__107.c S_struct_Points_int_At_int__107.ok := opn_struct (ea := (cP (cI .i64) (cP (cI .i64) cU))) (oa := (okP (okI .i64) (okP (okI .i64) okU))) (N := 2) Try.underlying107 (by kernel_rfl) (tail_cons (sz := 1) rfl rfl (by kernel_rfl) (opn_int Try.underlying3) (tail_cons (sz := 1) rfl rfl (by kernel_rfl) (opn_int Try.underlying3) tail_nil)) (fun (a : Int × Int × Unit) => (⟨a.1, a.2.1⟩ : S_struct_Points_int_At_int__107)) (fun _ => rfl) (fun _ h => h)

def tab : Tab := [
  (3, ⟨.int .i64, 1, 8, some (.int .i64 (0))⟩),
  (4, ⟨.bool, 1, 1, some (.bool false)⟩),
  (23, ⟨.int .u64, 1, 8, some (.int .u64 (0))⟩),
  (24, ⟨.struct [(0, 4), (1, 23), (2, 23)], 3, 24, some (.agg #[.bool false, .int .u64 (0), .int .u64 (0)])⟩),
  (25, ⟨.struct [(0, 4), (1, 23), (2, 23)], 3, 24, some (.agg #[.bool false, .int .u64 (0), .int .u64 (0)])⟩),
  (26, ⟨.struct [(0, 25), (3, 3)], 4, 32, some (.agg #[.bool false, .int .u64 (0), .int .u64 (0), .int .i64 (0)])⟩),
  (27, ⟨.struct [(0, 25), (3, 3)], 4, 32, some (.agg #[.bool false, .int .u64 (0), .int .u64 (0), .int .i64 (0)])⟩),
  (52, ⟨.slice 60, 1, 24, some (.slice none 0 0)⟩),
  (53, ⟨.slice 58, 1, 24, some (.slice none 0 0)⟩),
  (57, ⟨.struct [(0, 25), (3, 3)], 4, 32, some (.agg #[.bool false, .int .u64 (0), .int .u64 (0), .int .i64 (0)])⟩),
  (58, ⟨.struct [(0, 25), (3, 3)], 4, 32, some (.agg #[.bool false, .int .u64 (0), .int .u64 (0), .int .i64 (0)])⟩),
  (59, ⟨.struct [(0, 58), (4, 3), (5, 3), (6, 3)], 7, 56, some (.agg #[.bool false, .int .u64 (0), .int .u64 (0), .int .i64 (0), .int .i64 (0), .int .i64 (0), .int .i64 (0)])⟩),
  (60, ⟨.struct [(0, 58), (4, 3), (5, 3), (6, 3)], 7, 56, some (.agg #[.bool false, .int .u64 (0), .int .u64 (0), .int .i64 (0), .int .i64 (0), .int .i64 (0), .int .i64 (0)])⟩),
  (92, ⟨.slice 110, 1, 24, some (.slice none 0 0)⟩),
  (94, ⟨.slice 27, 1, 24, some (.slice none 0 0)⟩),
  (107, ⟨.struct [(0, 3), (1, 3)], 2, 16, some (.agg #[.int .i64 (0), .int .i64 (0)])⟩),
  (108, ⟨.struct [(0, 3), (1, 3)], 2, 16, some (.agg #[.int .i64 (0), .int .i64 (0)])⟩),
  (109, ⟨.struct [(0, 58), (4, 4), (5, 3), (6, 108), (8, 3), (9, 3)], 10, 80, some (.agg #[.bool false, .int .u64 (0), .int .u64 (0), .int .i64 (0), .bool false, .int .i64 (0), .int .i64 (0), .int .i64 (0), .int .i64 (0), .int .i64 (0)])⟩),
  (110, ⟨.struct [(0, 58), (4, 4), (5, 3), (6, 108), (8, 3), (9, 3)], 10, 80, some (.agg #[.bool false, .int .u64 (0), .int .u64 (0), .int .i64 (0), .bool false, .int .i64 (0), .int .i64 (0), .int .i64 (0), .int .i64 (0), .int .i64 (0)])⟩),
  (119, ⟨.func, 1, 8, some (.nilFunc)⟩),
  (167, ⟨.int .u32, 1, 4, some (.int .u32 (0))⟩),
  (178, ⟨.int .u64, 1, 8, some (.int .u64 (0))⟩),
  (187, ⟨.slice 3, 1, 24, some (.slice none 0 0)⟩)]

theorem tabOk : TabOk Try.prog tab :=
  .cons ⟨by kernel_rfl, by kernel_rfl, _, Try.underlying3, rfl⟩ <|
  .cons ⟨by kernel_rfl, by kernel_rfl, _, Try.underlying4, trivial⟩ <|
  .cons ⟨by kernel_rfl, by kernel_rfl, _, Try.underlying23, rfl⟩ <|
  .cons ⟨by kernel_rfl, by kernel_rfl, _, Try.underlying24, rfl⟩ <|
  .cons ⟨by kernel_rfl, by kernel_rfl, _, Try.underlying25, rfl⟩ <|
  .cons ⟨by kernel_rfl, by kernel_rfl, _, Try.underlying26, rfl⟩ <|
  .cons ⟨by kernel_rfl, by kernel_rfl, _, Try.underlying27, rfl⟩ <|
  .cons ⟨by kernel_rfl, by kernel_rfl, _, Try.underlying52, rfl⟩ <|
  .cons ⟨by kernel_rfl, by kernel_rfl, _, Try.underlying53, rfl⟩ <|
  .cons ⟨by kernel_rfl, by kernel_rfl, _, Try.underlying57, rfl⟩ <|
  .cons ⟨by kernel_rfl, by kernel_rfl, _, Try.underlying58, rfl⟩ <|
  .cons ⟨by kernel_rfl, by kernel_rfl, _, Try.underlying59, rfl⟩ <|
  .cons ⟨by kernel_rfl, by kernel_rfl, _, Try.underlying60, rfl⟩ <|
  .cons ⟨by kernel_rfl, by kernel_rfl, _, Try.underlying92, rfl⟩ <|
  .cons ⟨by kernel_rfl, by kernel_rfl, _, Try.underlying94, rfl⟩ <|
  .cons ⟨by kernel_rfl, by kernel_rfl, _, Try.underlying107, rfl⟩ <|
  .cons ⟨by kernel_rfl, by kernel_rfl, _, Try.underlying108, rfl⟩ <|
  .cons ⟨by kernel_rfl, by kernel_rfl, _, Try.underlying109, rfl⟩ <|
  .cons ⟨by kernel_rfl, by kernel_rfl, _, Try.underlying110, rfl⟩ <|
  .cons ⟨by kernel_rfl, by kernel_rfl, _, Try.underlying119, trivial⟩ <|
  .cons ⟨by kernel_rfl, by kernel_rfl, _, Try.underlying167, rfl⟩ <|
  .cons ⟨by kernel_rfl, by kernel_rfl, _, Try.underlying178, rfl⟩ <|
  .cons ⟨by kernel_rfl, by kernel_rfl, _, Try.underlying187, rfl⟩ <|
  .nil _

theorem allOk : AllOk Try.prog tab := ⟨tabOk, by kernel_rfl⟩
end Go.Proofs.Ytgmkffjkidgcnaa
