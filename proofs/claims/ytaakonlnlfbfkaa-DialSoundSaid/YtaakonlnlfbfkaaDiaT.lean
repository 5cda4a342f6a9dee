/-
  Types, as trees; the table of types.
  WRITTEN BY A PROGRAM OF MY OWN (wip/gen/am.py).
-/
import Derived.Test.YtaakonlnlfbfkaaProg
import Derived.Shelf.Spec.SlicesInsertGrow
import Derived.Lib.Hide
import Derived.Test.YtaakonlnlfbfkaaPlA
import Derived.Test.YtaakonlnlfbfkaaAmZ
import Derived.Test.YtaakonlnlfbfkaaSort168
import Derived.Test.YtaakonlnlfbfkaaAmX
namespace Go.Proofs.Ytaakonlnlfbfkaa
open Go.RowKit Go.Lib Go.Shelf
set_option linter.unusedVariables false
set_option maxRecDepth 100000
structure T_api_Addr where
  fV6 : Bool
  fHi : Int
  fLo : Int
  deriving DecidableEq

def T_api_Addr.d : T_api_Addr := ⟨false, (0 : Int), (0 : Int)⟩

def T_api_Addr.c (a : T_api_Addr) : List C := [.lit (.bool a.fV6), .lit (.int .u64 a.fHi), .lit (.int .u64 a.fLo)]

def T_api_Addr.ok (a : T_api_Addr) : Prop := okB a.fV6 ∧ (okI .u64) a.fHi ∧ (okI .u64) a.fLo ∧ True

theorem opn_T_api_Addr : Opn Try.prog 33 T_api_Addr.c T_api_Addr.ok := opn_struct (ea := (cP cB (cP (cI .u64) (cP (cI .u64) cU)))) (oa := (okP okB (okP (okI .u64) (okP (okI .u64) okU)))) (N := 3) Try.underlying33 (by kernel_rfl) (tail_cons (sz := 1) rfl rfl (by kernel_rfl) (opn_bool Try.underlying4) (tail_cons (sz := 1) rfl rfl (by kernel_rfl) (opn_int Try.underlying31) (tail_cons (sz := 1) rfl rfl (by kernel_rfl) (opn_int Try.underlying31) tail_nil))) (fun (a : Bool × Int × Int × Unit) => (⟨a.1, a.2.1, a.2.2.1⟩ : T_api_Addr)) (fun _ => rfl) (fun _ h => h)

structure S_struct_V6_bool_Hi_uint64_Lo_uint64__32 where
  fV6 : Bool
  fHi : Int
  fLo : Int
  deriving DecidableEq

def S_struct_V6_bool_Hi_uint64_Lo_uint64__32.d : S_struct_V6_bool_Hi_uint64_Lo_uint64__32 := ⟨false, (0 : Int), (0 : Int)⟩

def S_struct_V6_bool_Hi_uint64_Lo_uint64__32.c (a : S_struct_V6_bool_Hi_uint64_Lo_uint64__32) : List C := [.lit (.bool a.fV6), .lit (.int .u64 a.fHi), .lit (.int .u64 a.fLo)]

def S_struct_V6_bool_Hi_uint64_Lo_uint64__32.ok (a : S_struct_V6_bool_Hi_uint64_Lo_uint64__32) : Prop := okB a.fV6 ∧ (okI .u64) a.fHi ∧ (okI .u64) a.fLo ∧ True

theorem opn_S_struct_V6_bool_Hi_uint64_Lo_uint64__32 : Opn Try.prog 32 S_struct_V6_bool_Hi_uint64_Lo_uint64__32.c S_struct_V6_bool_Hi_uint64_Lo_uint64__32.ok := opn_struct (ea := (cP cB (cP (cI .u64) (cP (cI .u64) cU)))) (oa := (okP okB (okP (okI .u64) (okP (okI .u64) okU)))) (N := 3) Try.underlying32 (by kernel_rfl) (tail_cons (sz := 1) rfl rfl (by kernel_rfl) (opn_bool Try.underlying4) (tail_cons (sz := 1) rfl rfl (by kernel_rfl) (opn_int Try.underlying31) (tail_cons (sz := 1) rfl rfl (by kernel_rfl) (opn_int Try.underlying31) tail_nil))) (fun (a : Bool × Int × Int × Unit) => (⟨a.1, a.2.1, a.2.2.1⟩ : S_struct_V6_bool_Hi_uint64_Lo_uint64__32)) (fun _ => rfl) (fun _ h => h)

structure T_api_End where
  fAddr : T_api_Addr
  fPort : Int
  deriving DecidableEq

def T_api_End.d : T_api_End := ⟨T_api_Addr.d, (0 : Int)⟩

def T_api_End.c (a : T_api_End) : List C := [.lit (.bool a.fAddr.fV6), .lit (.int .u64 a.fAddr.fHi), .lit (.int .u64 a.fAddr.fLo), .lit (.int .i64 a.fPort)]

def T_api_End.ok (a : T_api_End) : Prop := T_api_Addr.ok a.fAddr ∧ (okI .i64) a.fPort ∧ True

theorem opn_T_api_End : Opn Try.prog 35 T_api_End.c T_api_End.ok := opn_struct (ea := (cP T_api_Addr.c (cP (cI .i64) cU))) (oa := (okP T_api_Addr.ok (okP (okI .i64) okU))) (N := 4) Try.underlying35 (by kernel_rfl) (tail_cons (sz := 3) rfl rfl (by kernel_rfl) opn_T_api_Addr (tail_cons (sz := 1) rfl rfl (by kernel_rfl) (opn_int Try.underlying3) tail_nil)) (fun (a : T_api_Addr × Int × Unit) => (⟨a.1, a.2.1⟩ : T_api_End)) (fun _ => rfl) (fun _ h => h)

structure S_struct_Addr_api_Addr_Port_int__34 where
  fAddr : T_api_Addr
  fPort : Int
  deriving DecidableEq

def S_struct_Addr_api_Addr_Port_int__34.d : S_struct_Addr_api_Addr_Port_int__34 := ⟨T_api_Addr.d, (0 : Int)⟩

def S_struct_Addr_api_Addr_Port_int__34.c (a : S_struct_Addr_api_Addr_Port_int__34) : List C := [.lit (.bool a.fAddr.fV6), .lit (.int .u64 a.fAddr.fHi), .lit (.int .u64 a.fAddr.fLo), .lit (.int .i64 a.fPort)]

def S_struct_Addr_api_Addr_Port_int__34.ok (a : S_struct_Addr_api_Addr_Port_int__34) : Prop := T_api_Addr.ok a.fAddr ∧ (okI .i64) a.fPort ∧ True

theorem opn_S_struct_Addr_api_Addr_Port_int__34 : Opn Try.prog 34 S_struct_Addr_api_Addr_Port_int__34.c S_struct_Addr_api_Addr_Port_int__34.ok := opn_struct (ea := (cP T_api_Addr.c (cP (cI .i64) cU))) (oa := (okP T_api_Addr.ok (okP (okI .i64) okU))) (N := 4) Try.underlying34 (by kernel_rfl) (tail_cons (sz := 3) rfl rfl (by kernel_rfl) opn_T_api_Addr (tail_cons (sz := 1) rfl rfl (by kernel_rfl) (opn_int Try.underlying3) tail_nil)) (fun (a : T_api_Addr × Int × Unit) => (⟨a.1, a.2.1⟩ : S_struct_Addr_api_Addr_Port_int__34)) (fun _ => rfl) (fun _ h => h)

structure T_api_Score where
  fPoints : Int
  fAt : Int
  deriving DecidableEq

def T_api_Score.d : T_api_Score := ⟨(0 : Int), (0 : Int)⟩

def T_api_Score.c (a : T_api_Score) : List C := [.lit (.int .i64 a.fPoints), .lit (.int .i64 a.fAt)]

def T_api_Score.ok (a : T_api_Score) : Prop := (okI .i64) a.fPoints ∧ (okI .i64) a.fAt ∧ True

theorem opn_T_api_Score : Opn Try.prog 37 T_api_Score.c T_api_Score.ok := opn_struct (ea := (cP (cI .i64) (cP (cI .i64) cU))) (oa := (okP (okI .i64) (okP (okI .i64) okU))) (N := 2) Try.underlying37 (by kernel_rfl) (tail_cons (sz := 1) rfl rfl (by kernel_rfl) (opn_int Try.underlying3) (tail_cons (sz := 1) rfl rfl (by kernel_rfl) (opn_int Try.underlying3) tail_nil)) (fun (a : Int × Int × Unit) => (⟨a.1, a.2.1⟩ : T_api_Score)) (fun _ => rfl) (fun _ h => h)

structure T_api_Peer where
  fEnd : T_api_End
  fIn : Bool
  fSince : Int
  fScore : T_api_Score
  fPing : Int
  fWork : Int
  deriving DecidableEq

def T_api_Peer.d : T_api_Peer := ⟨T_api_End.d, false, (0 : Int), T_api_Score.d, (0 : Int), (0 : Int)⟩

def T_api_Peer.c (a : T_api_Peer) : List C := [.lit (.bool a.fEnd.fAddr.fV6), .lit (.int .u64 a.fEnd.fAddr.fHi), .lit (.int .u64 a.fEnd.fAddr.fLo), .lit (.int .i64 a.fEnd.fPort), .lit (.bool a.fIn), .lit (.int .i64 a.fSince), .lit (.int .i64 a.fScore.fPoints), .lit (.int .i64 a.fScore.fAt), .lit (.int .i64 a.fPing), .lit (.int .i64 a.fWork)]

def T_api_Peer.ok (a : T_api_Peer) : Prop := T_api_End.ok a.fEnd ∧ okB a.fIn ∧ (okI .i64) a.fSince ∧ T_api_Score.ok a.fScore ∧ (okI .i64) a.fPing ∧ (okI .i64) a.fWork ∧ True

theorem opn_T_api_Peer : Opn Try.prog 39 T_api_Peer.c T_api_Peer.ok := opn_struct (ea := (cP T_api_End.c (cP cB (cP (cI .i64) (cP T_api_Score.c (cP (cI .i64) (cP (cI .i64) cU))))))) (oa := (okP T_api_End.ok (okP okB (okP (okI .i64) (okP T_api_Score.ok (okP (okI .i64) (okP (okI .i64) okU))))))) (N := 10) Try.underlying39 (by kernel_rfl) (tail_cons (sz := 4) rfl rfl (by kernel_rfl) opn_T_api_End (tail_cons (sz := 1) rfl rfl (by kernel_rfl) (opn_bool Try.underlying4) (tail_cons (sz := 1) rfl rfl (by kernel_rfl) (opn_int Try.underlying3) (tail_cons (sz := 2) rfl rfl (by kernel_rfl) opn_T_api_Score (tail_cons (sz := 1) rfl rfl (by kernel_rfl) (opn_int Try.underlying3) (tail_cons (sz := 1) rfl rfl (by kernel_rfl) (opn_int Try.underlying3) tail_nil)))))) (fun (a : T_api_End × Bool × Int × T_api_Score × Int × Int × Unit) => (⟨a.1, a.2.1, a.2.2.1, a.2.2.2.1, a.2.2.2.2.1, a.2.2.2.2.2.1⟩ : T_api_Peer)) (fun _ => rfl) (fun _ h => h)

structure S_struct_End_api_End_In_bool_Since_int_Sco_38 where
  fEnd : T_api_End
  fIn : Bool
  fSince : Int
  fScore : T_api_Score
  fPing : Int
  fWork : Int
  deriving DecidableEq

def S_struct_End_api_End_In_bool_Since_int_Sco_38.d : S_struct_End_api_End_In_bool_Since_int_Sco_38 := ⟨T_api_End.d, false, (0 : Int), T_api_Score.d, (0 : Int), (0 : Int)⟩

def S_struct_End_api_End_In_bool_Since_int_Sco_38.c (a : S_struct_End_api_End_In_bool_Since_int_Sco_38) : List C := [.lit (.bool a.fEnd.fAddr.fV6), .lit (.int .u64 a.fEnd.fAddr.fHi), .lit (.int .u64 a.fEnd.fAddr.fLo), .lit (.int .i64 a.fEnd.fPort), .lit (.bool a.fIn), .lit (.int .i64 a.fSince), .lit (.int .i64 a.fScore.fPoints), .lit (.int .i64 a.fScore.fAt), .lit (.int .i64 a.fPing), .lit (.int .i64 a.fWork)]

def S_struct_End_api_End_In_bool_Since_int_Sco_38.ok (a : S_struct_End_api_End_In_bool_Since_int_Sco_38) : Prop := T_api_End.ok a.fEnd ∧ okB a.fIn ∧ (okI .i64) a.fSince ∧ T_api_Score.ok a.fScore ∧ (okI .i64) a.fPing ∧ (okI .i64) a.fWork ∧ True

theorem opn_S_struct_End_api_End_In_bool_Since_int_Sco_38 : Opn Try.prog 38 S_struct_End_api_End_In_bool_Since_int_Sco_38.c S_struct_End_api_End_In_bool_Since_int_Sco_38.ok := opn_struct (ea := (cP T_api_End.c (cP cB (cP (cI .i64) (cP T_api_Score.c (cP (cI .i64) (cP (cI .i64) cU))))))) (oa := (okP T_api_End.ok (okP okB (okP (okI .i64) (okP T_api_Score.ok (okP (okI .i64) (okP (okI .i64) okU))))))) (N := 10) Try.underlying38 (by kernel_rfl) (tail_cons (sz := 4) rfl rfl (by kernel_rfl) opn_T_api_End (tail_cons (sz := 1) rfl rfl (by kernel_rfl) (opn_bool Try.underlying4) (tail_cons (sz := 1) rfl rfl (by kernel_rfl) (opn_int Try.underlying3) (tail_cons (sz := 2) rfl rfl (by kernel_rfl) opn_T_api_Score (tail_cons (sz := 1) rfl rfl (by kernel_rfl) (opn_int Try.underlying3) (tail_cons (sz := 1) rfl rfl (by kernel_rfl) (opn_int Try.underlying3) tail_nil)))))) (fun (a : T_api_End × Bool × Int × T_api_Score × Int × Int × Unit) => (⟨a.1, a.2.1, a.2.2.1, a.2.2.2.1, a.2.2.2.2.1, a.2.2.2.2.2.1⟩ : S_struct_End_api_End_In_bool_Since_int_Sco_38)) (fun _ => rfl) (fun _ h => h)

structure S_struct_Points_int_At_int__36 where
  fPoints : Int
  fAt : Int
  deriving DecidableEq

def S_struct_Points_int_At_int__36.d : S_struct_Points_int_At_int__36 := ⟨(0 : Int), (0 : Int)⟩

def S_struct_Points_int_At_int__36.c (a : S_struct_Points_int_At_int__36) : List C := [.lit (.int .i64 a.fPoints), .lit (.int .i64 a.fAt)]

def S_struct_Points_int_At_int__36.ok (a : S_struct_Points_int_At_int__36) : Prop := (okI .i64) a.fPoints ∧ (okI .i64) a.fAt ∧ True

theorem opn_S_struct_Points_int_At_int__36 : Opn Try.prog 36 S_struct_Points_int_At_int__36.c S_struct_Points_int_At_int__36.ok := opn_struct (ea := (cP (cI .i64) (cP (cI .i64) cU))) (oa := (okP (okI .i64) (okP (okI .i64) okU))) (N := 2) Try.underlying36 (by kernel_rfl) (tail_cons (sz := 1) rfl rfl (by kernel_rfl) (opn_int Try.underlying3) (tail_cons (sz := 1) rfl rfl (by kernel_rfl) (opn_int Try.underlying3) tail_nil)) (fun (a : Int × Int × Unit) => (⟨a.1, a.2.1⟩ : S_struct_Points_int_At_int__36)) (fun _ => rfl) (fun _ h => h)

structure T_api_Net where
  fAddr : T_api_Addr
  fBits : Int
  deriving DecidableEq

def T_api_Net.d : T_api_Net := ⟨T_api_Addr.d, (0 : Int)⟩

def T_api_Net.c (a : T_api_Net) : List C := [.lit (.bool a.fAddr.fV6), .lit (.int .u64 a.fAddr.fHi), .lit (.int .u64 a.fAddr.fLo), .lit (.int .i64 a.fBits)]

def T_api_Net.ok (a : T_api_Net) : Prop := T_api_Addr.ok a.fAddr ∧ (okI .i64) a.fBits ∧ True

theorem opn_T_api_Net : Opn Try.prog 81 T_api_Net.c T_api_Net.ok := opn_struct (ea := (cP T_api_Addr.c (cP (cI .i64) cU))) (oa := (okP T_api_Addr.ok (okP (okI .i64) okU))) (N := 4) Try.underlying81 (by kernel_rfl) (tail_cons (sz := 3) rfl rfl (by kernel_rfl) opn_T_api_Addr (tail_cons (sz := 1) rfl rfl (by kernel_rfl) (opn_int Try.underlying3) tail_nil)) (fun (a : T_api_Addr × Int × Unit) => (⟨a.1, a.2.1⟩ : T_api_Net)) (fun _ => rfl) (fun _ h => h)

structure T_api_Ban where
  fNet : T_api_Net
  fUntil : Int
  deriving DecidableEq

def T_api_Ban.d : T_api_Ban := ⟨T_api_Net.d, (0 : Int)⟩

def T_api_Ban.c (a : T_api_Ban) : List C := [.lit (.bool a.fNet.fAddr.fV6), .lit (.int .u64 a.fNet.fAddr.fHi), .lit (.int .u64 a.fNet.fAddr.fLo), .lit (.int .i64 a.fNet.fBits), .lit (.int .i64 a.fUntil)]

def T_api_Ban.ok (a : T_api_Ban) : Prop := T_api_Net.ok a.fNet ∧ (okI .i64) a.fUntil ∧ True

theorem opn_T_api_Ban : Opn Try.prog 117 T_api_Ban.c T_api_Ban.ok := opn_struct (ea := (cP T_api_Net.c (cP (cI .i64) cU))) (oa := (okP T_api_Net.ok (okP (okI .i64) okU))) (N := 5) Try.underlying117 (by kernel_rfl) (tail_cons (sz := 4) rfl rfl (by kernel_rfl) opn_T_api_Net (tail_cons (sz := 1) rfl rfl (by kernel_rfl) (opn_int Try.underlying3) tail_nil)) (fun (a : T_api_Net × Int × Unit) => (⟨a.1, a.2.1⟩ : T_api_Ban)) (fun _ => rfl) (fun _ h => h)

structure S_struct_Net_api_Net_Until_int__116 where
  fNet : T_api_Net
  fUntil : Int
  deriving DecidableEq

def S_struct_Net_api_Net_Until_int__116.d : S_struct_Net_api_Net_Until_int__116 := ⟨T_api_Net.d, (0 : Int)⟩

def S_struct_Net_api_Net_Until_int__116.c (a : S_struct_Net_api_Net_Until_int__116) : List C := [.lit (.bool a.fNet.fAddr.fV6), .lit (.int .u64 a.fNet.fAddr.fHi), .lit (.int .u64 a.fNet.fAddr.fLo), .lit (.int .i64 a.fNet.fBits), .lit (.int .i64 a.fUntil)]

def S_struct_Net_api_Net_Until_int__116.ok (a : S_struct_Net_api_Net_Until_int__116) : Prop := T_api_Net.ok a.fNet ∧ (okI .i64) a.fUntil ∧ True

theorem opn_S_struct_Net_api_Net_Until_int__116 : Opn Try.prog 116 S_struct_Net_api_Net_Until_int__116.c S_struct_Net_api_Net_Until_int__116.ok := opn_struct (ea := (cP T_api_Net.c (cP (cI .i64) cU))) (oa := (okP T_api_Net.ok (okP (okI .i64) okU))) (N := 5) Try.underlying116 (by kernel_rfl) (tail_cons (sz := 4) rfl rfl (by kernel_rfl) opn_T_api_Net (tail_cons (sz := 1) rfl rfl (by kernel_rfl) (opn_int Try.underlying3) tail_nil)) (fun (a : T_api_Net × Int × Unit) => (⟨a.1, a.2.1⟩ : S_struct_Net_api_Net_Until_int__116)) (fun _ => rfl) (fun _ h => h)

structure S_struct_Addr_api_Addr_Bits_int__80 where
  fAddr : T_api_Addr
  fBits : Int
  deriving DecidableEq

def S_struct_Addr_api_Addr_Bits_int__80.d : S_struct_Addr_api_Addr_Bits_int__80 := ⟨T_api_Addr.d, (0 : Int)⟩

def S_struct_Addr_api_Addr_Bits_int__80.c (a : S_struct_Addr_api_Addr_Bits_int__80) : List C := [.lit (.bool a.fAddr.fV6), .lit (.int .u64 a.fAddr.fHi), .lit (.int .u64 a.fAddr.fLo), .lit (.int .i64 a.fBits)]

def S_struct_Addr_api_Addr_Bits_int__80.ok (a : S_struct_Addr_api_Addr_Bits_int__80) : Prop := T_api_Addr.ok a.fAddr ∧ (okI .i64) a.fBits ∧ True

theorem opn_S_struct_Addr_api_Addr_Bits_int__80 : Opn Try.prog 80 S_struct_Addr_api_Addr_Bits_int__80.c S_struct_Addr_api_Addr_Bits_int__80.ok := opn_struct (ea := (cP T_api_Addr.c (cP (cI .i64) cU))) (oa := (okP T_api_Addr.ok (okP (okI .i64) okU))) (N := 4) Try.underlying80 (by kernel_rfl) (tail_cons (sz := 3) rfl rfl (by kernel_rfl) opn_T_api_Addr (tail_cons (sz := 1) rfl rfl (by kernel_rfl) (opn_int Try.underlying3) tail_nil)) (fun (a : T_api_Addr × Int × Unit) => (⟨a.1, a.2.1⟩ : S_struct_Addr_api_Addr_Bits_int__80)) (fun _ => rfl) (fun _ h => h)

structure T_api_Entry where
  fEnd : T_api_End
  fState : Int
  fFails : Int
  fNext : Int
  deriving DecidableEq

def T_api_Entry.d : T_api_Entry := ⟨T_api_End.d, (0 : Int), (0 : Int), (0 : Int)⟩

def T_api_Entry.c (a : T_api_Entry) : List C := [.lit (.bool a.fEnd.fAddr.fV6), .lit (.int .u64 a.fEnd.fAddr.fHi), .lit (.int .u64 a.fEnd.fAddr.fLo), .lit (.int .i64 a.fEnd.fPort), .lit (.int .i64 a.fState), .lit (.int .i64 a.fFails), .lit (.int .i64 a.fNext)]

def T_api_Entry.ok (a : T_api_Entry) : Prop := T_api_End.ok a.fEnd ∧ (okI .i64) a.fState ∧ (okI .i64) a.fFails ∧ (okI .i64) a.fNext ∧ True

theorem opn_T_api_Entry : Opn Try.prog 111 T_api_Entry.c T_api_Entry.ok := opn_struct (ea := (cP T_api_End.c (cP (cI .i64) (cP (cI .i64) (cP (cI .i64) cU))))) (oa := (okP T_api_End.ok (okP (okI .i64) (okP (okI .i64) (okP (okI .i64) okU))))) (N := 7) Try.underlying111 (by kernel_rfl) (tail_cons (sz := 4) rfl rfl (by kernel_rfl) opn_T_api_End (tail_cons (sz := 1) rfl rfl (by kernel_rfl) (opn_int Try.underlying3) (tail_cons (sz := 1) rfl rfl (by kernel_rfl) (opn_int Try.underlying3) (tail_cons (sz := 1) rfl rfl (by kernel_rfl) (opn_int Try.underlying3) tail_nil)))) (fun (a : T_api_End × Int × Int × Int × Unit) => (⟨a.1, a.2.1, a.2.2.1, a.2.2.2.1⟩ : T_api_Entry)) (fun _ => rfl) (fun _ h => h)

structure S_struct_End_api_End_State_int_Fails_int_N_110 where
  fEnd : T_api_End
  fState : Int
  fFails : Int
  fNext : Int
  deriving DecidableEq

def S_struct_End_api_End_State_int_Fails_int_N_110.d : S_struct_End_api_End_State_int_Fails_int_N_110 := ⟨T_api_End.d, (0 : Int), (0 : Int), (0 : Int)⟩

def S_struct_End_api_End_State_int_Fails_int_N_110.c (a : S_struct_End_api_End_State_int_Fails_int_N_110) : List C := [.lit (.bool a.fEnd.fAddr.fV6), .lit (.int .u64 a.fEnd.fAddr.fHi), .lit (.int .u64 a.fEnd.fAddr.fLo), .lit (.int .i64 a.fEnd.fPort), .lit (.int .i64 a.fState), .lit (.int .i64 a.fFails), .lit (.int .i64 a.fNext)]

def S_struct_End_api_End_State_int_Fails_int_N_110.ok (a : S_struct_End_api_End_State_int_Fails_int_N_110) : Prop := T_api_End.ok a.fEnd ∧ (okI .i64) a.fState ∧ (okI .i64) a.fFails ∧ (okI .i64) a.fNext ∧ True

theorem opn_S_struct_End_api_End_State_int_Fails_int_N_110 : Opn Try.prog 110 S_struct_End_api_End_State_int_Fails_int_N_110.c S_struct_End_api_End_State_int_Fails_int_N_110.ok := opn_struct (ea := (cP T_api_End.c (cP (cI .i64) (cP (cI .i64) (cP (cI .i64) cU))))) (oa := (okP T_api_End.ok (okP (okI .i64) (okP (okI .i64) (okP (okI .i64) okU))))) (N := 7) Try.underlying110 (by kernel_rfl) (tail_cons (sz := 4) rfl rfl (by kernel_rfl) opn_T_api_End (tail_cons (sz := 1) rfl rfl (by kernel_rfl) (opn_int Try.underlying3) (tail_cons (sz := 1) rfl rfl (by kernel_rfl) (opn_int Try.underlying3) (tail_cons (sz := 1) rfl rfl (by kernel_rfl) (opn_int Try.underlying3) tail_nil)))) (fun (a : T_api_End × Int × Int × Int × Unit) => (⟨a.1, a.2.1, a.2.2.1, a.2.2.2.1⟩ : S_struct_End_api_End_State_int_Fails_int_N_110)) (fun _ => rfl) (fun _ h => h)

structure T_trie_Hit where
  fNet : T_api_Net
  fV : Int
  deriving DecidableEq

def T_trie_Hit.d : T_trie_Hit := ⟨T_api_Net.d, (0 : Int)⟩

def T_trie_Hit.c (a : T_trie_Hit) : List C := [.lit (.bool a.fNet.fAddr.fV6), .lit (.int .u64 a.fNet.fAddr.fHi), .lit (.int .u64 a.fNet.fAddr.fLo), .lit (.int .i64 a.fNet.fBits), .lit (.int .i64 a.fV)]

def T_trie_Hit.ok (a : T_trie_Hit) : Prop := T_api_Net.ok a.fNet ∧ (okI .i64) a.fV ∧ True

theorem opn_T_trie_Hit : Opn Try.prog 101 T_trie_Hit.c T_trie_Hit.ok := opn_struct (ea := (cP T_api_Net.c (cP (cI .i64) cU))) (oa := (okP T_api_Net.ok (okP (okI .i64) okU))) (N := 5) Try.underlying101 (by kernel_rfl) (tail_cons (sz := 4) rfl rfl (by kernel_rfl) opn_T_api_Net (tail_cons (sz := 1) rfl rfl (by kernel_rfl) (opn_int Try.underlying3) tail_nil)) (fun (a : T_api_Net × Int × Unit) => (⟨a.1, a.2.1⟩ : T_trie_Hit)) (fun _ => rfl) (fun _ h => h)

inductive N_trie_node where
  | nil
  | mk (a0 : T_trie_Hit) (a1 : Bool) (a2 : N_trie_node) (a3 : N_trie_node)

def N_trie_node.isNil : N_trie_node → Bool
  | .nil => true
  | .mk _ _ _ _ => false

def N_trie_node.cs : N_trie_node → Nat → C
  | .nil => fun _ => .junk
  | .mk a0 a1 a2 a3 => fun j => ([.lit (.bool a0.fNet.fAddr.fV6), .lit (.int .u64 a0.fNet.fAddr.fHi), .lit (.int .u64 a0.fNet.fAddr.fLo), .lit (.int .i64 a0.fNet.fBits), .lit (.int .i64 a0.fV), .lit (.bool a1), .rp a2.isNil 8 a2.cs, .rp a3.isNil 8 a3.cs] : List C).getD (0 + j) .junk

def N_trie_node.c (x : N_trie_node) : C := .rp x.isNil 8 x.cs

inductive N_trie_Trie where
  | nil
  | mk (a0 : N_trie_node) (a1 : N_trie_node) (a2 : Int)

def N_trie_Trie.isNil : N_trie_Trie → Bool
  | .nil => true
  | .mk _ _ _ => false

def N_trie_Trie.cs : N_trie_Trie → Nat → C
  | .nil => fun _ => .junk
  | .mk a0 a1 a2 => fun j => ([.rp a0.isNil 8 a0.cs, .rp a1.isNil 8 a1.cs, .lit (.int .i64 a2)] : List C).getD (0 + j) .junk

def N_trie_Trie.c (x : N_trie_Trie) : C := .rp x.isNil 3 x.cs

structure T_trie_Trie where
  froots : (N_trie_node × N_trie_node)
  fn : Int

def T_trie_Trie.d : T_trie_Trie := ⟨(N_trie_node.nil, N_trie_node.nil), (0 : Int)⟩

def T_trie_Trie.c (a : T_trie_Trie) : List C := [N_trie_node.c a.froots.1, N_trie_node.c a.froots.2, .lit (.int .i64 a.fn)]

structure S_struct_roots_2_trie_node_n_int__165 where
  froots : (N_trie_node × N_trie_node)
  fn : Int

def S_struct_roots_2_trie_node_n_int__165.d : S_struct_roots_2_trie_node_n_int__165 := ⟨(N_trie_node.nil, N_trie_node.nil), (0 : Int)⟩

def S_struct_roots_2_trie_node_n_int__165.c (a : S_struct_roots_2_trie_node_n_int__165) : List C := [N_trie_node.c a.froots.1, N_trie_node.c a.froots.2, .lit (.int .i64 a.fn)]

structure T_trie_node where
  fhit : T_trie_Hit
  fhas : Bool
  fkids : (N_trie_node × N_trie_node)

def T_trie_node.d : T_trie_node := ⟨T_trie_Hit.d, false, (N_trie_node.nil, N_trie_node.nil)⟩

def T_trie_node.c (a : T_trie_node) : List C := [.lit (.bool a.fhit.fNet.fAddr.fV6), .lit (.int .u64 a.fhit.fNet.fAddr.fHi), .lit (.int .u64 a.fhit.fNet.fAddr.fLo), .lit (.int .i64 a.fhit.fNet.fBits), .lit (.int .i64 a.fhit.fV), .lit (.bool a.fhas), N_trie_node.c a.fkids.1, N_trie_node.c a.fkids.2]

structure S_struct_hit_trie_Hit_has_bool_kids_2_trie_171 where
  fhit : T_trie_Hit
  fhas : Bool
  fkids : (N_trie_node × N_trie_node)

def S_struct_hit_trie_Hit_has_bool_kids_2_trie_171.d : S_struct_hit_trie_Hit_has_bool_kids_2_trie_171 := ⟨T_trie_Hit.d, false, (N_trie_node.nil, N_trie_node.nil)⟩

def S_struct_hit_trie_Hit_has_bool_kids_2_trie_171.c (a : S_struct_hit_trie_Hit_has_bool_kids_2_trie_171) : List C := [.lit (.bool a.fhit.fNet.fAddr.fV6), .lit (.int .u64 a.fhit.fNet.fAddr.fHi), .lit (.int .u64 a.fhit.fNet.fAddr.fLo), .lit (.int .i64 a.fhit.fNet.fBits), .lit (.int .i64 a.fhit.fV), .lit (.bool a.fhas), N_trie_node.c a.fkids.1, N_trie_node.c a.fkids.2]

structure S_struct_Net_api_Net_V_int__100 where
  fNet : T_api_Net
  fV : Int
  deriving DecidableEq

def S_struct_Net_api_Net_V_int__100.d : S_struct_Net_api_Net_V_int__100 := ⟨T_api_Net.d, (0 : Int)⟩

def S_struct_Net_api_Net_V_int__100.c (a : S_struct_Net_api_Net_V_int__100) : List C := [.lit (.bool a.fNet.fAddr.fV6), .lit (.int .u64 a.fNet.fAddr.fHi), .lit (.int .u64 a.fNet.fAddr.fLo), .lit (.int .i64 a.fNet.fBits), .lit (.int .i64 a.fV)]

def S_struct_Net_api_Net_V_int__100.ok (a : S_struct_Net_api_Net_V_int__100) : Prop := T_api_Net.ok a.fNet ∧ (okI .i64) a.fV ∧ True

theorem opn_S_struct_Net_api_Net_V_int__100 : Opn Try.prog 100 S_struct_Net_api_Net_V_int__100.c S_struct_Net_api_Net_V_int__100.ok := opn_struct (ea := (cP T_api_Net.c (cP (cI .i64) cU))) (oa := (okP T_api_Net.ok (okP (okI .i64) okU))) (N := 5) Try.underlying100 (by kernel_rfl) (tail_cons (sz := 4) rfl rfl (by kernel_rfl) opn_T_api_Net (tail_cons (sz := 1) rfl rfl (by kernel_rfl) (opn_int Try.underlying3) tail_nil)) (fun (a : T_api_Net × Int × Unit) => (⟨a.1, a.2.1⟩ : S_struct_Net_api_Net_V_int__100)) (fun _ => rfl) (fun _ h => h)

structure T_dial_View where
  fBook : (List T_api_Entry)
  fPeers : (List T_api_Peer)
  fBans : (List T_api_Ban)

def T_dial_View.d : T_dial_View := ⟨([] : (List T_api_Entry)), ([] : (List T_api_Peer)), ([] : (List T_api_Ban))⟩

def T_dial_View.c (a : T_dial_View) : List C := [cL 7 T_api_Entry.c T_api_Entry.d a.fBook, cL 10 T_api_Peer.c T_api_Peer.d a.fPeers, cL 5 T_api_Ban.c T_api_Ban.d a.fBans]

def T_dial_View.ok (a : T_dial_View) : Prop := (okL T_api_Entry.ok) a.fBook ∧ (okL T_api_Peer.ok) a.fPeers ∧ (okL T_api_Ban.ok) a.fBans ∧ True

theorem opn_T_dial_View : Opn Try.prog 106 T_dial_View.c T_dial_View.ok := opn_struct (ea := (cP (cLs 7 T_api_Entry.c T_api_Entry.d) (cP (cLs 10 T_api_Peer.c T_api_Peer.d) (cP (cLs 5 T_api_Ban.c T_api_Ban.d) cU)))) (oa := (okP (okL T_api_Entry.ok) (okP (okL T_api_Peer.ok) (okP (okL T_api_Ban.ok) okU)))) (N := 3) Try.underlying106 (by kernel_rfl) (tail_cons (sz := 1) rfl rfl (by kernel_rfl) (opn_slice (d := T_api_Entry.d) Try.underlying41 (by kernel_rfl) (by decide) (fun _ => rfl) opn_T_api_Entry) (tail_cons (sz := 1) rfl rfl (by kernel_rfl) (opn_slice (d := T_api_Peer.d) Try.underlying55 (by kernel_rfl) (by decide) (fun _ => rfl) opn_T_api_Peer) (tail_cons (sz := 1) rfl rfl (by kernel_rfl) (opn_slice (d := T_api_Ban.d) Try.underlying40 (by kernel_rfl) (by decide) (fun _ => rfl) opn_T_api_Ban) tail_nil))) (fun (a : (List T_api_Entry) × (List T_api_Peer) × (List T_api_Ban) × Unit) => (⟨a.1, a.2.1, a.2.2.1⟩ : T_dial_View)) (fun _ => rfl) (fun _ h => h)

structure S_struct_Book_api_Entry_Peers_api_Peer_Ban_105 where
  fBook : (List T_api_Entry)
  fPeers : (List T_api_Peer)
  fBans : (List T_api_Ban)

def S_struct_Book_api_Entry_Peers_api_Peer_Ban_105.d : S_struct_Book_api_Entry_Peers_api_Peer_Ban_105 := ⟨([] : (List T_api_Entry)), ([] : (List T_api_Peer)), ([] : (List T_api_Ban))⟩

def S_struct_Book_api_Entry_Peers_api_Peer_Ban_105.c (a : S_struct_Book_api_Entry_Peers_api_Peer_Ban_105) : List C := [cL 7 T_api_Entry.c T_api_Entry.d a.fBook, cL 10 T_api_Peer.c T_api_Peer.d a.fPeers, cL 5 T_api_Ban.c T_api_Ban.d a.fBans]

def S_struct_Book_api_Entry_Peers_api_Peer_Ban_105.ok (a : S_struct_Book_api_Entry_Peers_api_Peer_Ban_105) : Prop := (okL T_api_Entry.ok) a.fBook ∧ (okL T_api_Peer.ok) a.fPeers ∧ (okL T_api_Ban.ok) a.fBans ∧ True

theorem opn_S_struct_Book_api_Entry_Peers_api_Peer_Ban_105 : Opn Try.prog 105 S_struct_Book_api_Entry_Peers_api_Peer_Ban_105.c S_struct_Book_api_Entry_Peers_api_Peer_Ban_105.ok := opn_struct (ea := (cP (cLs 7 T_api_Entry.c T_api_Entry.d) (cP (cLs 10 T_api_Peer.c T_api_Peer.d) (cP (cLs 5 T_api_Ban.c T_api_Ban.d) cU)))) (oa := (okP (okL T_api_Entry.ok) (okP (okL T_api_Peer.ok) (okP (okL T_api_Ban.ok) okU)))) (N := 3) Try.underlying105 (by kernel_rfl) (tail_cons (sz := 1) rfl rfl (by kernel_rfl) (opn_slice (d := T_api_Entry.d) Try.underlying41 (by kernel_rfl) (by decide) (fun _ => rfl) opn_T_api_Entry) (tail_cons (sz := 1) rfl rfl (by kernel_rfl) (opn_slice (d := T_api_Peer.d) Try.underlying55 (by kernel_rfl) (by decide) (fun _ => rfl) opn_T_api_Peer) (tail_cons (sz := 1) rfl rfl (by kernel_rfl) (opn_slice (d := T_api_Ban.d) Try.underlying40 (by kernel_rfl) (by decide) (fun _ => rfl) opn_T_api_Ban) tail_nil))) (fun (a : (List T_api_Entry) × (List T_api_Peer) × (List T_api_Ban) × Unit) => (⟨a.1, a.2.1, a.2.2.1⟩ : S_struct_Book_api_Entry_Peers_api_Peer_Ban_105)) (fun _ => rfl) (fun _ h => h)

structure T_heap_Item where
  fKey : Int
  fEnd : T_api_End
  deriving DecidableEq

def T_heap_Item.d : T_heap_Item := ⟨(0 : Int), T_api_End.d⟩

def T_heap_Item.c (a : T_heap_Item) : List C := [.lit (.int .i64 a.fKey), .lit (.bool a.fEnd.fAddr.fV6), .lit (.int .u64 a.fEnd.fAddr.fHi), .lit (.int .u64 a.fEnd.fAddr.fLo), .lit (.int .i64 a.fEnd.fPort)]

def T_heap_Item.ok (a : T_heap_Item) : Prop := (okI .i64) a.fKey ∧ T_api_End.ok a.fEnd ∧ True

theorem opn_T_heap_Item : Opn Try.prog 186 T_heap_Item.c T_heap_Item.ok := opn_struct (ea := (cP (cI .i64) (cP T_api_End.c cU))) (oa := (okP (okI .i64) (okP T_api_End.ok okU))) (N := 5) Try.underlying186 (by kernel_rfl) (tail_cons (sz := 1) rfl rfl (by kernel_rfl) (opn_int Try.underlying3) (tail_cons (sz := 4) rfl rfl (by kernel_rfl) opn_T_api_End tail_nil)) (fun (a : Int × T_api_End × Unit) => (⟨a.1, a.2.1⟩ : T_heap_Item)) (fun _ => rfl) (fun _ h => h)

structure S_struct_Key_int_End_api_End__185 where
  fKey : Int
  fEnd : T_api_End
  deriving DecidableEq

def S_struct_Key_int_End_api_End__185.d : S_struct_Key_int_End_api_End__185 := ⟨(0 : Int), T_api_End.d⟩

def S_struct_Key_int_End_api_End__185.c (a : S_struct_Key_int_End_api_End__185) : List C := [.lit (.int .i64 a.fKey), .lit (.bool a.fEnd.fAddr.fV6), .lit (.int .u64 a.fEnd.fAddr.fHi), .lit (.int .u64 a.fEnd.fAddr.fLo), .lit (.int .i64 a.fEnd.fPort)]

def S_struct_Key_int_End_api_End__185.ok (a : S_struct_Key_int_End_api_End__185) : Prop := (okI .i64) a.fKey ∧ T_api_End.ok a.fEnd ∧ True

theorem opn_S_struct_Key_int_End_api_End__185 : Opn Try.prog 185 S_struct_Key_int_End_api_End__185.c S_struct_Key_int_End_api_End__185.ok := opn_struct (ea := (cP (cI .i64) (cP T_api_End.c cU))) (oa := (okP (okI .i64) (okP T_api_End.ok okU))) (N := 5) Try.underlying185 (by kernel_rfl) (tail_cons (sz := 1) rfl rfl (by kernel_rfl) (opn_int Try.underlying3) (tail_cons (sz := 4) rfl rfl (by kernel_rfl) opn_T_api_End tail_nil)) (fun (a : Int × T_api_End × Unit) => (⟨a.1, a.2.1⟩ : S_struct_Key_int_End_api_End__185)) (fun _ => rfl) (fun _ h => h)

def tab : Tab := [
  (3, ⟨.int .i64, 1, 8, some (.int .i64 (0))⟩),
  (4, ⟨.bool, 1, 1, some (.bool false)⟩),
  (5, ⟨.int .u8, 1, 1, some (.int .u8 (0))⟩),
  (9, ⟨.str, 1, 16, some (.string ⟨#[]⟩)⟩),
  (31, ⟨.int .u64, 1, 8, some (.int .u64 (0))⟩),
  (32, ⟨.struct [(0, 4), (1, 31), (2, 31)], 3, 24, some (.agg #[.bool false, .int .u64 (0), .int .u64 (0)])⟩),
  (33, ⟨.struct [(0, 4), (1, 31), (2, 31)], 3, 24, some (.agg #[.bool false, .int .u64 (0), .int .u64 (0)])⟩),
  (34, ⟨.struct [(0, 33), (3, 3)], 4, 32, some (.agg #[.bool false, .int .u64 (0), .int .u64 (0), .int .i64 (0)])⟩),
  (35, ⟨.struct [(0, 33), (3, 3)], 4, 32, some (.agg #[.bool false, .int .u64 (0), .int .u64 (0), .int .i64 (0)])⟩),
  (36, ⟨.struct [(0, 3), (1, 3)], 2, 16, some (.agg #[.int .i64 (0), .int .i64 (0)])⟩),
  (37, ⟨.struct [(0, 3), (1, 3)], 2, 16, some (.agg #[.int .i64 (0), .int .i64 (0)])⟩),
  (38, ⟨.struct [(0, 35), (4, 4), (5, 3), (6, 37), (8, 3), (9, 3)], 10, 80, some (.agg #[.bool false, .int .u64 (0), .int .u64 (0), .int .i64 (0), .bool false, .int .i64 (0), .int .i64 (0), .int .i64 (0), .int .i64 (0), .int .i64 (0)])⟩),
  (39, ⟨.struct [(0, 35), (4, 4), (5, 3), (6, 37), (8, 3), (9, 3)], 10, 80, some (.agg #[.bool false, .int .u64 (0), .int .u64 (0), .int .i64 (0), .bool false, .int .i64 (0), .int .i64 (0), .int .i64 (0), .int .i64 (0), .int .i64 (0)])⟩),
  (40, ⟨.slice 117, 1, 24, some (.slice none 0 0)⟩),
  (41, ⟨.slice 111, 1, 24, some (.slice none 0 0)⟩),
  (55, ⟨.slice 39, 1, 24, some (.slice none 0 0)⟩),
  (80, ⟨.struct [(0, 33), (3, 3)], 4, 32, some (.agg #[.bool false, .int .u64 (0), .int .u64 (0), .int .i64 (0)])⟩),
  (81, ⟨.struct [(0, 33), (3, 3)], 4, 32, some (.agg #[.bool false, .int .u64 (0), .int .u64 (0), .int .i64 (0)])⟩),
  (82, ⟨.ptr 166, 1, 8, some (.pointer none)⟩),
  (95, ⟨.slice 101, 1, 24, some (.slice none 0 0)⟩),
  (100, ⟨.struct [(0, 81), (4, 3)], 5, 40, some (.agg #[.bool false, .int .u64 (0), .int .u64 (0), .int .i64 (0), .int .i64 (0)])⟩),
  (101, ⟨.struct [(0, 81), (4, 3)], 5, 40, some (.agg #[.bool false, .int .u64 (0), .int .u64 (0), .int .i64 (0), .int .i64 (0)])⟩),
  (105, ⟨.struct [(0, 41), (1, 55), (2, 40)], 3, 72, some (.agg #[.slice none 0 0, .slice none 0 0, .slice none 0 0])⟩),
  (106, ⟨.struct [(0, 41), (1, 55), (2, 40)], 3, 72, some (.agg #[.slice none 0 0, .slice none 0 0, .slice none 0 0])⟩),
  (110, ⟨.struct [(0, 35), (4, 3), (5, 3), (6, 3)], 7, 56, some (.agg #[.bool false, .int .u64 (0), .int .u64 (0), .int .i64 (0), .int .i64 (0), .int .i64 (0), .int .i64 (0)])⟩),
  (111, ⟨.struct [(0, 35), (4, 3), (5, 3), (6, 3)], 7, 56, some (.agg #[.bool false, .int .u64 (0), .int .u64 (0), .int .i64 (0), .int .i64 (0), .int .i64 (0), .int .i64 (0)])⟩),
  (112, ⟨.func, 1, 8, some (.nilFunc)⟩),
  (116, ⟨.struct [(0, 81), (4, 3)], 5, 40, some (.agg #[.bool false, .int .u64 (0), .int .u64 (0), .int .i64 (0), .int .i64 (0)])⟩),
  (117, ⟨.struct [(0, 81), (4, 3)], 5, 40, some (.agg #[.bool false, .int .u64 (0), .int .u64 (0), .int .i64 (0), .int .i64 (0)])⟩),
  (124, ⟨.slice 3, 1, 24, some (.slice none 0 0)⟩),
  (163, ⟨.ptr 172, 1, 8, some (.pointer none)⟩),
  (164, ⟨.array 2 163, 2, 16, some (.agg #[.pointer none, .pointer none])⟩),
  (165, ⟨.struct [(0, 164), (2, 3)], 3, 24, some (.agg #[.pointer none, .pointer none, .int .i64 (0)])⟩),
  (166, ⟨.struct [(0, 164), (2, 3)], 3, 24, some (.agg #[.pointer none, .pointer none, .int .i64 (0)])⟩),
  (168, ⟨.func, 1, 8, some (.nilFunc)⟩),
  (171, ⟨.struct [(0, 101), (5, 4), (6, 164)], 8, 64, some (.agg #[.bool false, .int .u64 (0), .int .u64 (0), .int .i64 (0), .int .i64 (0), .bool false, .pointer none, .pointer none])⟩),
  (172, ⟨.struct [(0, 101), (5, 4), (6, 164)], 8, 64, some (.agg #[.bool false, .int .u64 (0), .int .u64 (0), .int .i64 (0), .int .i64 (0), .bool false, .pointer none, .pointer none])⟩),
  (183, ⟨.slice 186, 1, 24, some (.slice none 0 0)⟩),
  (185, ⟨.struct [(0, 3), (1, 35)], 5, 40, some (.agg #[.int .i64 (0), .bool false, .int .u64 (0), .int .u64 (0), .int .i64 (0)])⟩),
  (186, ⟨.struct [(0, 3), (1, 35)], 5, 40, some (.agg #[.int .i64 (0), .bool false, .int .u64 (0), .int .u64 (0), .int .i64 (0)])⟩),
  (215, ⟨.int .u32, 1, 4, some (.int .u32 (0))⟩),
  (222, ⟨.int .u64, 1, 8, some (.int .u64 (0))⟩),
  (232, ⟨.slice 81, 1, 24, some (.slice none 0 0)⟩)]

theorem tabOk : TabOk Try.prog tab :=
  .cons ⟨by kernel_rfl, by kernel_rfl, _, Try.underlying3, rfl⟩ <|
  .cons ⟨by kernel_rfl, by kernel_rfl, _, Try.underlying4, trivial⟩ <|
  .cons ⟨by kernel_rfl, by kernel_rfl, _, Try.underlying5, rfl⟩ <|
  .cons ⟨by kernel_rfl, by kernel_rfl, _, Try.underlying9, trivial⟩ <|
  .cons ⟨by kernel_rfl, by kernel_rfl, _, Try.underlying31, rfl⟩ <|
  .cons ⟨by kernel_rfl, by kernel_rfl, _, Try.underlying32, rfl⟩ <|
  .cons ⟨by kernel_rfl, by kernel_rfl, _, Try.underlying33, rfl⟩ <|
  .cons ⟨by kernel_rfl, by kernel_rfl, _, Try.underlying34, rfl⟩ <|
  .cons ⟨by kernel_rfl, by kernel_rfl, _, Try.underlying35, rfl⟩ <|
  .cons ⟨by kernel_rfl, by kernel_rfl, _, Try.underlying36, rfl⟩ <|
  .cons ⟨by kernel_rfl, by kernel_rfl, _, Try.underlying37, rfl⟩ <|
  .cons ⟨by kernel_rfl, by kernel_rfl, _, Try.underlying38, rfl⟩ <|
  .cons ⟨by kernel_rfl, by kernel_rfl, _, Try.underlying39, rfl⟩ <|
  .cons ⟨by kernel_rfl, by kernel_rfl, _, Try.underlying40, rfl⟩ <|
  .cons ⟨by kernel_rfl, by kernel_rfl, _, Try.underlying41, rfl⟩ <|
  .cons ⟨by kernel_rfl, by kernel_rfl, _, Try.underlying55, rfl⟩ <|
  .cons ⟨by kernel_rfl, by kernel_rfl, _, Try.underlying80, rfl⟩ <|
  .cons ⟨by kernel_rfl, by kernel_rfl, _, Try.underlying81, rfl⟩ <|
  .cons ⟨by kernel_rfl, by kernel_rfl, _, Try.underlying82, rfl⟩ <|
  .cons ⟨by kernel_rfl, by kernel_rfl, _, Try.underlying95, rfl⟩ <|
  .cons ⟨by kernel_rfl, by kernel_rfl, _, Try.underlying100, rfl⟩ <|
  .cons ⟨by kernel_rfl, by kernel_rfl, _, Try.underlying101, rfl⟩ <|
  .cons ⟨by kernel_rfl, by kernel_rfl, _, Try.underlying105, rfl⟩ <|
  .cons ⟨by kernel_rfl, by kernel_rfl, _, Try.underlying106, rfl⟩ <|
  .cons ⟨by kernel_rfl, by kernel_rfl, _, Try.underlying110, rfl⟩ <|
  .cons ⟨by kernel_rfl, by kernel_rfl, _, Try.underlying111, rfl⟩ <|
  .cons ⟨by kernel_rfl, by kernel_rfl, _, Try.underlying112, trivial⟩ <|
  .cons ⟨by kernel_rfl, by kernel_rfl, _, Try.underlying116, rfl⟩ <|
  .cons ⟨by kernel_rfl, by kernel_rfl, _, Try.underlying117, rfl⟩ <|
  .cons ⟨by kernel_rfl, by kernel_rfl, _, Try.underlying124, rfl⟩ <|
  .cons ⟨by kernel_rfl, by kernel_rfl, _, Try.underlying163, rfl⟩ <|
  .cons ⟨by kernel_rfl, by kernel_rfl, _, Try.underlying164, ⟨rfl, rfl⟩⟩ <|
  .cons ⟨by kernel_rfl, by kernel_rfl, _, Try.underlying165, rfl⟩ <|
  .cons ⟨by kernel_rfl, by kernel_rfl, _, Try.underlying166, rfl⟩ <|
  .cons ⟨by kernel_rfl, by kernel_rfl, _, Try.underlying168, trivial⟩ <|
  .cons ⟨by kernel_rfl, by kernel_rfl, _, Try.underlying171, rfl⟩ <|
  .cons ⟨by kernel_rfl, by kernel_rfl, _, Try.underlying172, rfl⟩ <|
  .cons ⟨by kernel_rfl, by kernel_rfl, _, Try.underlying183, rfl⟩ <|
  .cons ⟨by kernel_rfl, by kernel_rfl, _, Try.underlying185, rfl⟩ <|
  .cons ⟨by kernel_rfl, by kernel_rfl, _, Try.underlying186, rfl⟩ <|
  .cons ⟨by kernel_rfl, by kernel_rfl, _, Try.underlying215, rfl⟩ <|
  .cons ⟨by kernel_rfl, by kernel_rfl, _, Try.underlying222, rfl⟩ <|
  .cons ⟨by kernel_rfl, by kernel_rfl, _, Try.underlying232, rfl⟩ <|
  .nil _

theorem allOk : AllOk Try.prog tab := ⟨tabOk, by kernel_rfl⟩
end Go.Proofs.Ytaakonlnlfbfkaa
