/-
  Types, as trees; the table of types.
  WRITTEN BY A PROGRAM OF MY OWN (wip/gen/am.py).
-/
import Derived.Test.YtnbkjjoodmmneaaProg
import Derived.Shelf.Spec.SlicesInsertGrow
import Derived.Lib.Hide
import Derived.Test.YtnbkjjoodmmneaaAmPy
namespace Go.Proofs.Ytnbkjjoodmmneaa
open Go.RowKit Go.Lib Go.Shelf
set_option linter.unusedVariables false
set_option maxRecDepth 100000
structure T_api_Loc where
  fKind : Int
  fShard : Int
  fSlot : Int
  deriving DecidableEq

def T_api_Loc.d : T_api_Loc := ⟨(0 : Int), (0 : Int), (0 : Int)⟩

def T_api_Loc.c (a : T_api_Loc) : List C := [.lit (.int .i64 a.fKind), .lit (.int .i64 a.fShard), .lit (.int .i64 a.fSlot)]

def T_api_Loc.ok (a : T_api_Loc) : Prop := (okI .i64) a.fKind ∧ (okI .i64) a.fShard ∧ (okI .i64) a.fSlot ∧ True

theorem opn_T_api_Loc : Opn Try.prog 30 T_api_Loc.c T_api_Loc.ok := opn_struct (ea := (cP (cI .i64) (cP (cI .i64) (cP (cI .i64) cU)))) (oa := (okP (okI .i64) (okP (okI .i64) (okP (okI .i64) okU)))) (N := 3) Try.underlying30 (by kernel_rfl) (tail_cons (sz := 1) rfl rfl (by kernel_rfl) (opn_int Try.underlying3) (tail_cons (sz := 1) rfl rfl (by kernel_rfl) (opn_int Try.underlying3) (tail_cons (sz := 1) rfl rfl (by kernel_rfl) (opn_int Try.underlying3) tail_nil))) (fun (a : Int × Int × Int × Unit) => (⟨a.1, a.2.1, a.2.2.1⟩ : T_api_Loc)) (fun _ => rfl) (fun _ h => h)

structure S_struct_Kind_int_Shard_int_Slot_int__29 where
  fKind : Int
  fShard : Int
  fSlot : Int
  deriving DecidableEq

def S_struct_Kind_int_Shard_int_Slot_int__29.d : S_struct_Kind_int_Shard_int_Slot_int__29 := ⟨(0 : Int), (0 : Int), (0 : Int)⟩

def S_struct_Kind_int_Shard_int_Slot_int__29.c (a : S_struct_Kind_int_Shard_int_Slot_int__29) : List C := [.lit (.int .i64 a.fKind), .lit (.int .i64 a.fShard), .lit (.int .i64 a.fSlot)]

def S_struct_Kind_int_Shard_int_Slot_int__29.ok (a : S_struct_Kind_int_Shard_int_Slot_int__29) : Prop := (okI .i64) a.fKind ∧ (okI .i64) a.fShard ∧ (okI .i64) a.fSlot ∧ True

theorem opn_S_struct_Kind_int_Shard_int_Slot_int__29 : Opn Try.prog 29 S_struct_Kind_int_Shard_int_Slot_int__29.c S_struct_Kind_int_Shard_int_Slot_int__29.ok := opn_struct (ea := (cP (cI .i64) (cP (cI .i64) (cP (cI .i64) cU)))) (oa := (okP (okI .i64) (okP (okI .i64) (okP (okI .i64) okU)))) (N := 3) Try.underlying29 (by kernel_rfl) (tail_cons (sz := 1) rfl rfl (by kernel_rfl) (opn_int Try.underlying3) (tail_cons (sz := 1) rfl rfl (by kernel_rfl) (opn_int Try.underlying3) (tail_cons (sz := 1) rfl rfl (by kernel_rfl) (opn_int Try.underlying3) tail_nil))) (fun (a : Int × Int × Int × Unit) => (⟨a.1, a.2.1, a.2.2.1⟩ : S_struct_Kind_int_Shard_int_Slot_int__29)) (fun _ => rfl) (fun _ h => h)

structure T_api_Addr where
  fV6 : Bool
  fHi : Int
  fLo : Int
  deriving DecidableEq

def T_api_Addr.d : T_api_Addr := ⟨false, (0 : Int), (0 : Int)⟩

def T_api_Addr.c (a : T_api_Addr) : List C := [.lit (.bool a.fV6), .lit (.int .u64 a.fHi), .lit (.int .u64 a.fLo)]

def T_api_Addr.ok (a : T_api_Addr) : Prop := okB a.fV6 ∧ (okI .u64) a.fHi ∧ (okI .u64) a.fLo ∧ True

theorem opn_T_api_Addr : Opn Try.prog 33 T_api_Addr.c T_api_Addr.ok := opn_struct (ea := (cP cB (cP (cI .u64) (cP (cI .u64) cU)))) (oa := (okP okB (okP (okI .u64) (okP (okI .u64) okU)))) (N := 3) Try.underlying33 (by kernel_rfl) (tail_cons (sz := 1) rfl rfl (by kernel_rfl) (opn_bool Try.underlying4) (tail_cons (sz := 1) rfl rfl (by kernel_rfl) (opn_int Try.underlying31) (tail_cons (sz := 1) rfl rfl (by kernel_rfl) (opn_int Try.underlying31) tail_nil))) (fun (a : Bool × Int × Int × Unit) => (⟨a.1, a.2.1, a.2.2.1⟩ : T_api_Addr)) (fun _ => rfl) (fun _ h => h)

structure T_api_End where
  fAddr : T_api_Addr
  fPort : Int
  deriving DecidableEq

def T_api_End.d : T_api_End := ⟨T_api_Addr.d, (0 : Int)⟩

def T_api_End.c (a : T_api_End) : List C := [.lit (.bool a.fAddr.fV6), .lit (.int .u64 a.fAddr.fHi), .lit (.int .u64 a.fAddr.fLo), .lit (.int .i64 a.fPort)]

def T_api_End.ok (a : T_api_End) : Prop := T_api_Addr.ok a.fAddr ∧ (okI .i64) a.fPort ∧ True

theorem opn_T_api_End : Opn Try.prog 35 T_api_End.c T_api_End.ok := opn_struct (ea := (cP T_api_Addr.c (cP (cI .i64) cU))) (oa := (okP T_api_Addr.ok (okP (okI .i64) okU))) (N := 4) Try.underlying35 (by kernel_rfl) (tail_cons (sz := 3) rfl rfl (by kernel_rfl) opn_T_api_Addr (tail_cons (sz := 1) rfl rfl (by kernel_rfl) (opn_int Try.underlying3) tail_nil)) (fun (a : T_api_Addr × Int × Unit) => (⟨a.1, a.2.1⟩ : T_api_End)) (fun _ => rfl) (fun _ h => h)

structure S_struct_Addr_api_Addr_Port_int__34 where
  fAddr : T_api_Addr
  fPort : Int
  deriving DecidableEq

def S_struct_Addr_api_Addr_Port_int__34.d : S_struct_Addr_api_Addr_Port_int__34 := ⟨T_api_Addr.d, (0 : Int)⟩

def S_struct_Addr_api_Addr_Port_int__34.c (a : S_struct_Addr_api_Addr_Port_int__34) : List C := [.lit (.bool a.fAddr.fV6), .lit (.int .u64 a.fAddr.fHi), .lit (.int .u64 a.fAddr.fLo), .lit (.int .i64 a.fPort)]

def S_struct_Addr_api_Addr_Port_int__34.ok (a : S_struct_Addr_api_Addr_Port_int__34) : Prop := T_api_Addr.ok a.fAddr ∧ (okI .i64) a.fPort ∧ True

theorem opn_S_struct_Addr_api_Addr_Port_int__34 : Opn Try.prog 34 S_struct_Addr_api_Addr_Port_int__34.c S_struct_Addr_api_Addr_Port_int__34.ok := opn_struct (ea := (cP T_api_Addr.c (cP (cI .i64) cU))) (oa := (okP T_api_Addr.ok (okP (okI .i64) okU))) (N := 4) Try.underlying34 (by kernel_rfl) (tail_cons (sz := 3) rfl rfl (by kernel_rfl) opn_T_api_Addr (tail_cons (sz := 1) rfl rfl (by kernel_rfl) (opn_int Try.underlying3) tail_nil)) (fun (a : T_api_Addr × Int × Unit) => (⟨a.1, a.2.1⟩ : S_struct_Addr_api_Addr_Port_int__34)) (fun _ => rfl) (fun _ h => h)

structure S_struct_V6_bool_Hi_uint64_Lo_uint64__32 where
  fV6 : Bool
  fHi : Int
  fLo : Int
  deriving DecidableEq

def S_struct_V6_bool_Hi_uint64_Lo_uint64__32.d : S_struct_V6_bool_Hi_uint64_Lo_uint64__32 := ⟨false, (0 : Int), (0 : Int)⟩

def S_struct_V6_bool_Hi_uint64_Lo_uint64__32.c (a : S_struct_V6_bool_Hi_uint64_Lo_uint64__32) : List C := [.lit (.bool a.fV6), .lit (.int .u64 a.fHi), .lit (.int .u64 a.fLo)]

def S_struct_V6_bool_Hi_uint64_Lo_uint64__32.ok (a : S_struct_V6_bool_Hi_uint64_Lo_uint64__32) : Prop := okB a.fV6 ∧ (okI .u64) a.fHi ∧ (okI .u64) a.fLo ∧ True

theorem opn_S_struct_V6_bool_Hi_uint64_Lo_uint64__32 : Opn Try.prog 32 S_struct_V6_bool_Hi_uint64_Lo_uint64__32.c S_struct_V6_bool_Hi_uint64_Lo_uint64__32.ok := opn_struct (ea := (cP cB (cP (cI .u64) (cP (cI .u64) cU)))) (oa := (okP okB (okP (okI .u64) (okP (okI .u64) okU)))) (N := 3) Try.underlying32 (by kernel_rfl) (tail_cons (sz := 1) rfl rfl (by kernel_rfl) (opn_bool Try.underlying4) (tail_cons (sz := 1) rfl rfl (by kernel_rfl) (opn_int Try.underlying31) (tail_cons (sz := 1) rfl rfl (by kernel_rfl) (opn_int Try.underlying31) tail_nil))) (fun (a : Bool × Int × Int × Unit) => (⟨a.1, a.2.1, a.2.2.1⟩ : S_struct_V6_bool_Hi_uint64_Lo_uint64__32)) (fun _ => rfl) (fun _ h => h)

structure T_api_Score where
  fPoints : Int
  fAt : Int
  deriving DecidableEq

def T_api_Score.d : T_api_Score := ⟨(0 : Int), (0 : Int)⟩

def T_api_Score.c (a : T_api_Score) : List C := [.lit (.int .i64 a.fPoints), .lit (.int .i64 a.fAt)]

def T_api_Score.ok (a : T_api_Score) : Prop := (okI .i64) a.fPoints ∧ (okI .i64) a.fAt ∧ True

theorem opn_T_api_Score : Opn Try.prog 37 T_api_Score.c T_api_Score.ok := opn_struct (ea := (cP (cI .i64) (cP (cI .i64) cU))) (oa := (okP (okI .i64) (okP (okI .i64) okU))) (N := 2) Try.underlying37 (by kernel_rfl) (tail_cons (sz := 1) rfl rfl (by kernel_rfl) (opn_int Try.underlying3) (tail_cons (sz := 1) rfl rfl (by kernel_rfl) (opn_int Try.underlying3) tail_nil)) (fun (a : Int × Int × Unit) => (⟨a.1, a.2.1⟩ : T_api_Score)) (fun _ => rfl) (fun _ h => h)

structure T_api_Peer where
  fEnd : T_api_End
  fIn : Bool
  fSince : Int
  fScore : T_api_Score
  fPing : Int
  fWork : Int
  deriving DecidableEq

def T_api_Peer.d : T_api_Peer := ⟨T_api_End.d, false, (0 : Int), T_api_Score.d, (0 : Int), (0 : Int)⟩

def T_api_Peer.c (a : T_api_Peer) : List C := [.lit (.bool a.fEnd.fAddr.fV6), .lit (.int .u64 a.fEnd.fAddr.fHi), .lit (.int .u64 a.fEnd.fAddr.fLo), .lit (.int .i64 a.fEnd.fPort), .lit (.bool a.fIn), .lit (.int .i64 a.fSince), .lit (.int .i64 a.fScore.fPoints), .lit (.int .i64 a.fScore.fAt), .lit (.int .i64 a.fPing), .lit (.int .i64 a.fWork)]

def T_api_Peer.ok (a : T_api_Peer) : Prop := T_api_End.ok a.fEnd ∧ okB a.fIn ∧ (okI .i64) a.fSince ∧ T_api_Score.ok a.fScore ∧ (okI .i64) a.fPing ∧ (okI .i64) a.fWork ∧ True

theorem opn_T_api_Peer : Opn Try.prog 39 T_api_Peer.c T_api_Peer.ok := opn_struct (ea := (cP T_api_End.c (cP cB (cP (cI .i64) (cP T_api_Score.c (cP (cI .i64) (cP (cI .i64) cU))))))) (oa := (okP T_api_End.ok (okP okB (okP (okI .i64) (okP T_api_Score.ok (okP (okI .i64) (okP (okI .i64) okU))))))) (N := 10) Try.underlying39 (by kernel_rfl) (tail_cons (sz := 4) rfl rfl (by kernel_rfl) opn_T_api_End (tail_cons (sz := 1) rfl rfl (by kernel_rfl) (opn_bool Try.underlying4) (tail_cons (sz := 1) rfl rfl (by kernel_rfl) (opn_int Try.underlying3) (tail_cons (sz := 2) rfl rfl (by kernel_rfl) opn_T_api_Score (tail_cons (sz := 1) rfl rfl (by kernel_rfl) (opn_int Try.underlying3) (tail_cons (sz := 1) rfl rfl (by kernel_rfl) (opn_int Try.underlying3) tail_nil)))))) (fun (a : T_api_End × Bool × Int × T_api_Score × Int × Int × Unit) => (⟨a.1, a.2.1, a.2.2.1, a.2.2.2.1, a.2.2.2.2.1, a.2.2.2.2.2.1⟩ : T_api_Peer)) (fun _ => rfl) (fun _ h => h)

structure S_struct_End_api_End_In_bool_Since_int_Sco_38 where
  fEnd : T_api_End
  fIn : Bool
  fSince : Int
  fScore : T_api_Score
  fPing : Int
  fWork : Int
  deriving DecidableEq

def S_struct_End_api_End_In_bool_Since_int_Sco_38.d : S_struct_End_api_End_In_bool_Since_int_Sco_38 := ⟨T_api_End.d, false, (0 : Int), T_api_Score.d, (0 : Int), (0 : Int)⟩

def S_struct_End_api_End_In_bool_Since_int_Sco_38.c (a : S_struct_End_api_End_In_bool_Since_int_Sco_38) : List C := [.lit (.bool a.fEnd.fAddr.fV6), .lit (.int .u64 a.fEnd.fAddr.fHi), .lit (.int .u64 a.fEnd.fAddr.fLo), .lit (.int .i64 a.fEnd.fPort), .lit (.bool a.fIn), .lit (.int .i64 a.fSince), .lit (.int .i64 a.fScore.fPoints), .lit (.int .i64 a.fScore.fAt), .lit (.int .i64 a.fPing), .lit (.int .i64 a.fWork)]

def S_struct_End_api_End_In_bool_Since_int_Sco_38.ok (a : S_struct_End_api_End_In_bool_Since_int_Sco_38) : Prop := T_api_End.ok a.fEnd ∧ okB a.fIn ∧ (okI .i64) a.fSince ∧ T_api_Score.ok a.fScore ∧ (okI .i64) a.fPing ∧ (okI .i64) a.fWork ∧ True

theorem opn_S_struct_End_api_End_In_bool_Since_int_Sco_38 : Opn Try.prog 38 S_struct_End_api_End_In_bool_Since_int_Sco_38.c S_struct_End_api_End_In_bool_Since_int_Sco_38.ok := opn_struct (ea := (cP T_api_End.c (cP cB (cP (cI .i64) (cP T_api_Score.c (cP (cI .i64) (cP (cI .i64) cU))))))) (oa := (okP T_api_End.ok (okP okB (okP (okI .i64) (okP T_api_Score.ok (okP (okI .i64) (okP (okI .i64) okU))))))) (N := 10) Try.underlying38 (by kernel_rfl) (tail_cons (sz := 4) rfl rfl (by kernel_rfl) opn_T_api_End (tail_cons (sz := 1) rfl rfl (by kernel_rfl) (opn_bool Try.underlying4) (tail_cons (sz := 1) rfl rfl (by kernel_rfl) (opn_int Try.underlying3) (tail_cons (sz := 2) rfl rfl (by kernel_rfl) opn_T_api_Score (tail_cons (sz := 1) rfl rfl (by kernel_rfl) (opn_int Try.underlying3) (tail_cons (sz := 1) rfl rfl (by kernel_rfl) (opn_int Try.underlying3) tail_nil)))))) (fun (a : T_api_End × Bool × Int × T_api_Score × Int × Int × Unit) => (⟨a.1, a.2.1, a.2.2.1, a.2.2.2.1, a.2.2.2.2.1, a.2.2.2.2.2.1⟩ : S_struct_End_api_End_In_bool_Since_int_Sco_38)) (fun _ => rfl) (fun _ h => h)

structure S_struct_Points_int_At_int__36 where
  fPoints : Int
  fAt : Int
  deriving DecidableEq

def S_struct_Points_int_At_int__36.d : S_struct_Points_int_At_int__36 := ⟨(0 : Int), (0 : Int)⟩

def S_struct_Points_int_At_int__36.c (a : S_struct_Points_int_At_int__36) : List C := [.lit (.int .i64 a.fPoints), .lit (.int .i64 a.fAt)]

def S_struct_Points_int_At_int__36.ok (a : S_struct_Points_int_At_int__36) : Prop := (okI .i64) a.fPoints ∧ (okI .i64) a.fAt ∧ True

theorem opn_S_struct_Points_int_At_int__36 : Opn Try.prog 36 S_struct_Points_int_At_int__36.c S_struct_Points_int_At_int__36.ok := opn_struct (ea := (cP (cI .i64) (cP (cI .i64) cU))) (oa := (okP (okI .i64) (okP (okI .i64) okU))) (N := 2) Try.underlying36 (by kernel_rfl) (tail_cons (sz := 1) rfl rfl (by kernel_rfl) (opn_int Try.underlying3) (tail_cons (sz := 1) rfl rfl (by kernel_rfl) (opn_int Try.underlying3) tail_nil)) (fun (a : Int × Int × Unit) => (⟨a.1, a.2.1⟩ : S_struct_Points_int_At_int__36)) (fun _ => rfl) (fun _ h => h)

structure T_api_Net where
  fAddr : T_api_Addr
  fBits : Int
  deriving DecidableEq

def T_api_Net.d : T_api_Net := ⟨T_api_Addr.d, (0 : Int)⟩

def T_api_Net.c (a : T_api_Net) : List C := [.lit (.bool a.fAddr.fV6), .lit (.int .u64 a.fAddr.fHi), .lit (.int .u64 a.fAddr.fLo), .lit (.int .i64 a.fBits)]

def T_api_Net.ok (a : T_api_Net) : Prop := T_api_Addr.ok a.fAddr ∧ (okI .i64) a.fBits ∧ True

theorem opn_T_api_Net : Opn Try.prog 140 T_api_Net.c T_api_Net.ok := opn_struct (ea := (cP T_api_Addr.c (cP (cI .i64) cU))) (oa := (okP T_api_Addr.ok (okP (okI .i64) okU))) (N := 4) Try.underlying140 (by kernel_rfl) (tail_cons (sz := 3) rfl rfl (by kernel_rfl) opn_T_api_Addr (tail_cons (sz := 1) rfl rfl (by kernel_rfl) (opn_int Try.underlying3) tail_nil)) (fun (a : T_api_Addr × Int × Unit) => (⟨a.1, a.2.1⟩ : T_api_Net)) (fun _ => rfl) (fun _ h => h)

structure T_api_Ban where
  fNet : T_api_Net
  fUntil : Int
  deriving DecidableEq

def T_api_Ban.d : T_api_Ban := ⟨T_api_Net.d, (0 : Int)⟩

def T_api_Ban.c (a : T_api_Ban) : List C := [.lit (.bool a.fNet.fAddr.fV6), .lit (.int .u64 a.fNet.fAddr.fHi), .lit (.int .u64 a.fNet.fAddr.fLo), .lit (.int .i64 a.fNet.fBits), .lit (.int .i64 a.fUntil)]

def T_api_Ban.ok (a : T_api_Ban) : Prop := T_api_Net.ok a.fNet ∧ (okI .i64) a.fUntil ∧ True

theorem opn_T_api_Ban : Opn Try.prog 142 T_api_Ban.c T_api_Ban.ok := opn_struct (ea := (cP T_api_Net.c (cP (cI .i64) cU))) (oa := (okP T_api_Net.ok (okP (okI .i64) okU))) (N := 5) Try.underlying142 (by kernel_rfl) (tail_cons (sz := 4) rfl rfl (by kernel_rfl) opn_T_api_Net (tail_cons (sz := 1) rfl rfl (by kernel_rfl) (opn_int Try.underlying3) tail_nil)) (fun (a : T_api_Net × Int × Unit) => (⟨a.1, a.2.1⟩ : T_api_Ban)) (fun _ => rfl) (fun _ h => h)

structure S_struct_Net_api_Net_Until_int__141 where
  fNet : T_api_Net
  fUntil : Int
  deriving DecidableEq

def S_struct_Net_api_Net_Until_int__141.d : S_struct_Net_api_Net_Until_int__141 := ⟨T_api_Net.d, (0 : Int)⟩

def S_struct_Net_api_Net_Until_int__141.c (a : S_struct_Net_api_Net_Until_int__141) : List C := [.lit (.bool a.fNet.fAddr.fV6), .lit (.int .u64 a.fNet.fAddr.fHi), .lit (.int .u64 a.fNet.fAddr.fLo), .lit (.int .i64 a.fNet.fBits), .lit (.int .i64 a.fUntil)]

def S_struct_Net_api_Net_Until_int__141.ok (a : S_struct_Net_api_Net_Until_int__141) : Prop := T_api_Net.ok a.fNet ∧ (okI .i64) a.fUntil ∧ True

theorem opn_S_struct_Net_api_Net_Until_int__141 : Opn Try.prog 141 S_struct_Net_api_Net_Until_int__141.c S_struct_Net_api_Net_Until_int__141.ok := opn_struct (ea := (cP T_api_Net.c (cP (cI .i64) cU))) (oa := (okP T_api_Net.ok (okP (okI .i64) okU))) (N := 5) Try.underlying141 (by kernel_rfl) (tail_cons (sz := 4) rfl rfl (by kernel_rfl) opn_T_api_Net (tail_cons (sz := 1) rfl rfl (by kernel_rfl) (opn_int Try.underlying3) tail_nil)) (fun (a : T_api_Net × Int × Unit) => (⟨a.1, a.2.1⟩ : S_struct_Net_api_Net_Until_int__141)) (fun _ => rfl) (fun _ h => h)

structure S_struct_Addr_api_Addr_Bits_int__139 where
  fAddr : T_api_Addr
  fBits : Int
  deriving DecidableEq

def S_struct_Addr_api_Addr_Bits_int__139.d : S_struct_Addr_api_Addr_Bits_int__139 := ⟨T_api_Addr.d, (0 : Int)⟩

def S_struct_Addr_api_Addr_Bits_int__139.c (a : S_struct_Addr_api_Addr_Bits_int__139) : List C := [.lit (.bool a.fAddr.fV6), .lit (.int .u64 a.fAddr.fHi), .lit (.int .u64 a.fAddr.fLo), .lit (.int .i64 a.fBits)]

def S_struct_Addr_api_Addr_Bits_int__139.ok (a : S_struct_Addr_api_Addr_Bits_int__139) : Prop := T_api_Addr.ok a.fAddr ∧ (okI .i64) a.fBits ∧ True

theorem opn_S_struct_Addr_api_Addr_Bits_int__139 : Opn Try.prog 139 S_struct_Addr_api_Addr_Bits_int__139.c S_struct_Addr_api_Addr_Bits_int__139.ok := opn_struct (ea := (cP T_api_Addr.c (cP (cI .i64) cU))) (oa := (okP T_api_Addr.ok (okP (okI .i64) okU))) (N := 4) Try.underlying139 (by kernel_rfl) (tail_cons (sz := 3) rfl rfl (by kernel_rfl) opn_T_api_Addr (tail_cons (sz := 1) rfl rfl (by kernel_rfl) (opn_int Try.underlying3) tail_nil)) (fun (a : T_api_Addr × Int × Unit) => (⟨a.1, a.2.1⟩ : S_struct_Addr_api_Addr_Bits_int__139)) (fun _ => rfl) (fun _ h => h)

structure T_api_Entry where
  fEnd : T_api_End
  fState : Int
  fFails : Int
  fNext : Int
  deriving DecidableEq

def T_api_Entry.d : T_api_Entry := ⟨T_api_End.d, (0 : Int), (0 : Int), (0 : Int)⟩

def T_api_Entry.c (a : T_api_Entry) : List C := [.lit (.bool a.fEnd.fAddr.fV6), .lit (.int .u64 a.fEnd.fAddr.fHi), .lit (.int .u64 a.fEnd.fAddr.fLo), .lit (.int .i64 a.fEnd.fPort), .lit (.int .i64 a.fState), .lit (.int .i64 a.fFails), .lit (.int .i64 a.fNext)]

def T_api_Entry.ok (a : T_api_Entry) : Prop := T_api_End.ok a.fEnd ∧ (okI .i64) a.fState ∧ (okI .i64) a.fFails ∧ (okI .i64) a.fNext ∧ True

theorem opn_T_api_Entry : Opn Try.prog 144 T_api_Entry.c T_api_Entry.ok := opn_struct (ea := (cP T_api_End.c (cP (cI .i64) (cP (cI .i64) (cP (cI .i64) cU))))) (oa := (okP T_api_End.ok (okP (okI .i64) (okP (okI .i64) (okP (okI .i64) okU))))) (N := 7) Try.underlying144 (by kernel_rfl) (tail_cons (sz := 4) rfl rfl (by kernel_rfl) opn_T_api_End (tail_cons (sz := 1) rfl rfl (by kernel_rfl) (opn_int Try.underlying3) (tail_cons (sz := 1) rfl rfl (by kernel_rfl) (opn_int Try.underlying3) (tail_cons (sz := 1) rfl rfl (by kernel_rfl) (opn_int Try.underlying3) tail_nil)))) (fun (a : T_api_End × Int × Int × Int × Unit) => (⟨a.1, a.2.1, a.2.2.1, a.2.2.2.1⟩ : T_api_Entry)) (fun _ => rfl) (fun _ h => h)

structure S_struct_End_api_End_State_int_Fails_int_N_143 where
  fEnd : T_api_End
  fState : Int
  fFails : Int
  fNext : Int
  deriving DecidableEq

def S_struct_End_api_End_State_int_Fails_int_N_143.d : S_struct_End_api_End_State_int_Fails_int_N_143 := ⟨T_api_End.d, (0 : Int), (0 : Int), (0 : Int)⟩

def S_struct_End_api_End_State_int_Fails_int_N_143.c (a : S_struct_End_api_End_State_int_Fails_int_N_143) : List C := [.lit (.bool a.fEnd.fAddr.fV6), .lit (.int .u64 a.fEnd.fAddr.fHi), .lit (.int .u64 a.fEnd.fAddr.fLo), .lit (.int .i64 a.fEnd.fPort), .lit (.int .i64 a.fState), .lit (.int .i64 a.fFails), .lit (.int .i64 a.fNext)]

def S_struct_End_api_End_State_int_Fails_int_N_143.ok (a : S_struct_End_api_End_State_int_Fails_int_N_143) : Prop := T_api_End.ok a.fEnd ∧ (okI .i64) a.fState ∧ (okI .i64) a.fFails ∧ (okI .i64) a.fNext ∧ True

theorem opn_S_struct_End_api_End_State_int_Fails_int_N_143 : Opn Try.prog 143 S_struct_End_api_End_State_int_Fails_int_N_143.c S_struct_End_api_End_State_int_Fails_int_N_143.ok := opn_struct (ea := (cP T_api_End.c (cP (cI .i64) (cP (cI .i64) (cP (cI .i64) cU))))) (oa := (okP T_api_End.ok (okP (okI .i64) (okP (okI .i64) (okP (okI .i64) okU))))) (N := 7) Try.underlying143 (by kernel_rfl) (tail_cons (sz := 4) rfl rfl (by kernel_rfl) opn_T_api_End (tail_cons (sz := 1) rfl rfl (by kernel_rfl) (opn_int Try.underlying3) (tail_cons (sz := 1) rfl rfl (by kernel_rfl) (opn_int Try.underlying3) (tail_cons (sz := 1) rfl rfl (by kernel_rfl) (opn_int Try.underlying3) tail_nil)))) (fun (a : T_api_End × Int × Int × Int × Unit) => (⟨a.1, a.2.1, a.2.2.1, a.2.2.2.1⟩ : S_struct_End_api_End_State_int_Fails_int_N_143)) (fun _ => rfl) (fun _ h => h)

structure T_api_Value where
  fN : Int
  fPeer : T_api_Peer
  fBans : (List T_api_Ban)
  fBook : (List T_api_Entry)

def T_api_Value.d : T_api_Value := ⟨(0 : Int), T_api_Peer.d, ([] : (List T_api_Ban)), ([] : (List T_api_Entry))⟩

def T_api_Value.c (a : T_api_Value) : List C := [.lit (.int .i64 a.fN), .lit (.bool a.fPeer.fEnd.fAddr.fV6), .lit (.int .u64 a.fPeer.fEnd.fAddr.fHi), .lit (.int .u64 a.fPeer.fEnd.fAddr.fLo), .lit (.int .i64 a.fPeer.fEnd.fPort), .lit (.bool a.fPeer.fIn), .lit (.int .i64 a.fPeer.fSince), .lit (.int .i64 a.fPeer.fScore.fPoints), .lit (.int .i64 a.fPeer.fScore.fAt), .lit (.int .i64 a.fPeer.fPing), .lit (.int .i64 a.fPeer.fWork), cL 5 T_api_Ban.c T_api_Ban.d a.fBans, cL 7 T_api_Entry.c T_api_Entry.d a.fBook]

def T_api_Value.ok (a : T_api_Value) : Prop := (okI .i64) a.fN ∧ T_api_Peer.ok a.fPeer ∧ (okL T_api_Ban.ok) a.fBans ∧ (okL T_api_Entry.ok) a.fBook ∧ True

theorem opn_T_api_Value : Opn Try.prog 43 T_api_Value.c T_api_Value.ok := opn_struct (ea := (cP (cI .i64) (cP T_api_Peer.c (cP (cLs 5 T_api_Ban.c T_api_Ban.d) (cP (cLs 7 T_api_Entry.c T_api_Entry.d) cU))))) (oa := (okP (okI .i64) (okP T_api_Peer.ok (okP (okL T_api_Ban.ok) (okP (okL T_api_Entry.ok) okU))))) (N := 13) Try.underlying43 (by kernel_rfl) (tail_cons (sz := 1) rfl rfl (by kernel_rfl) (opn_int Try.underlying3) (tail_cons (sz := 10) rfl rfl (by kernel_rfl) opn_T_api_Peer (tail_cons (sz := 1) rfl rfl (by kernel_rfl) (opn_slice (d := T_api_Ban.d) Try.underlying40 (by kernel_rfl) (by decide) (fun _ => rfl) opn_T_api_Ban) (tail_cons (sz := 1) rfl rfl (by kernel_rfl) (opn_slice (d := T_api_Entry.d) Try.underlying41 (by kernel_rfl) (by decide) (fun _ => rfl) opn_T_api_Entry) tail_nil)))) (fun (a : Int × T_api_Peer × (List T_api_Ban) × (List T_api_Entry) × Unit) => (⟨a.1, a.2.1, a.2.2.1, a.2.2.2.1⟩ : T_api_Value)) (fun _ => rfl) (fun _ h => h)

structure S_struct_N_int_Peer_api_Peer_Bans_api_Ban__42 where
  fN : Int
  fPeer : T_api_Peer
  fBans : (List T_api_Ban)
  fBook : (List T_api_Entry)

def S_struct_N_int_Peer_api_Peer_Bans_api_Ban__42.d : S_struct_N_int_Peer_api_Peer_Bans_api_Ban__42 := ⟨(0 : Int), T_api_Peer.d, ([] : (List T_api_Ban)), ([] : (List T_api_Entry))⟩

def S_struct_N_int_Peer_api_Peer_Bans_api_Ban__42.c (a : S_struct_N_int_Peer_api_Peer_Bans_api_Ban__42) : List C := [.lit (.int .i64 a.fN), .lit (.bool a.fPeer.fEnd.fAddr.fV6), .lit (.int .u64 a.fPeer.fEnd.fAddr.fHi), .lit (.int .u64 a.fPeer.fEnd.fAddr.fLo), .lit (.int .i64 a.fPeer.fEnd.fPort), .lit (.bool a.fPeer.fIn), .lit (.int .i64 a.fPeer.fSince), .lit (.int .i64 a.fPeer.fScore.fPoints), .lit (.int .i64 a.fPeer.fScore.fAt), .lit (.int .i64 a.fPeer.fPing), .lit (.int .i64 a.fPeer.fWork), cL 5 T_api_Ban.c T_api_Ban.d a.fBans, cL 7 T_api_Entry.c T_api_Entry.d a.fBook]

def S_struct_N_int_Peer_api_Peer_Bans_api_Ban__42.ok (a : S_struct_N_int_Peer_api_Peer_Bans_api_Ban__42) : Prop := (okI .i64) a.fN ∧ T_api_Peer.ok a.fPeer ∧ (okL T_api_Ban.ok) a.fBans ∧ (okL T_api_Entry.ok) a.fBook ∧ True

theorem opn_S_struct_N_int_Peer_api_Peer_Bans_api_Ban__42 : Opn Try.prog 42 S_struct_N_int_Peer_api_Peer_Bans_api_Ban__42.c S_struct_N_int_Peer_api_Peer_Bans_api_Ban__42.ok := opn_struct (ea := (cP (cI .i64) (cP T_api_Peer.c (cP (cLs 5 T_api_Ban.c T_api_Ban.d) (cP (cLs 7 T_api_Entry.c T_api_Entry.d) cU))))) (oa := (okP (okI .i64) (okP T_api_Peer.ok (okP (okL T_api_Ban.ok) (okP (okL T_api_Entry.ok) okU))))) (N := 13) Try.underlying42 (by kernel_rfl) (tail_cons (sz := 1) rfl rfl (by kernel_rfl) (opn_int Try.underlying3) (tail_cons (sz := 10) rfl rfl (by kernel_rfl) opn_T_api_Peer (tail_cons (sz := 1) rfl rfl (by kernel_rfl) (opn_slice (d := T_api_Ban.d) Try.underlying40 (by kernel_rfl) (by decide) (fun _ => rfl) opn_T_api_Ban) (tail_cons (sz := 1) rfl rfl (by kernel_rfl) (opn_slice (d := T_api_Entry.d) Try.underlying41 (by kernel_rfl) (by decide) (fun _ => rfl) opn_T_api_Entry) tail_nil)))) (fun (a : Int × T_api_Peer × (List T_api_Ban) × (List T_api_Entry) × Unit) => (⟨a.1, a.2.1, a.2.2.1, a.2.2.2.1⟩ : S_struct_N_int_Peer_api_Peer_Bans_api_Ban__42)) (fun _ => rfl) (fun _ h => h)

structure T_api_Op where
  fKind : Int
  fLock : Int
  fLoc : T_api_Loc
  fOld : Int
  fNew : Int
  fVal : T_api_Value
  fMark : Bool

def T_api_Op.d : T_api_Op := ⟨(0 : Int), (0 : Int), T_api_Loc.d, (0 : Int), (0 : Int), T_api_Value.d, false⟩

def T_api_Op.c (a : T_api_Op) : List C := [.lit (.int .i64 a.fKind), .lit (.int .i64 a.fLock), .lit (.int .i64 a.fLoc.fKind), .lit (.int .i64 a.fLoc.fShard), .lit (.int .i64 a.fLoc.fSlot), .lit (.int .i64 a.fOld), .lit (.int .i64 a.fNew), .lit (.int .i64 a.fVal.fN), .lit (.bool a.fVal.fPeer.fEnd.fAddr.fV6), .lit (.int .u64 a.fVal.fPeer.fEnd.fAddr.fHi), .lit (.int .u64 a.fVal.fPeer.fEnd.fAddr.fLo), .lit (.int .i64 a.fVal.fPeer.fEnd.fPort), .lit (.bool a.fVal.fPeer.fIn), .lit (.int .i64 a.fVal.fPeer.fSince), .lit (.int .i64 a.fVal.fPeer.fScore.fPoints), .lit (.int .i64 a.fVal.fPeer.fScore.fAt), .lit (.int .i64 a.fVal.fPeer.fPing), .lit (.int .i64 a.fVal.fPeer.fWork), cL 5 T_api_Ban.c T_api_Ban.d a.fVal.fBans, cL 7 T_api_Entry.c T_api_Entry.d a.fVal.fBook, .lit (.bool a.fMark)]

def T_api_Op.ok (a : T_api_Op) : Prop := (okI .i64) a.fKind ∧ (okI .i64) a.fLock ∧ T_api_Loc.ok a.fLoc ∧ (okI .i64) a.fOld ∧ (okI .i64) a.fNew ∧ T_api_Value.ok a.fVal ∧ okB a.fMark ∧ True

theorem opn_T_api_Op : Opn Try.prog 45 T_api_Op.c T_api_Op.ok := opn_struct (ea := (cP (cI .i64) (cP (cI .i64) (cP T_api_Loc.c (cP (cI .i64) (cP (cI .i64) (cP T_api_Value.c (cP cB cU)))))))) (oa := (okP (okI .i64) (okP (okI .i64) (okP T_api_Loc.ok (okP (okI .i64) (okP (okI .i64) (okP T_api_Value.ok (okP okB okU)))))))) (N := 21) Try.underlying45 (by kernel_rfl) (tail_cons (sz := 1) rfl rfl (by kernel_rfl) (opn_int Try.underlying3) (tail_cons (sz := 1) rfl rfl (by kernel_rfl) (opn_int Try.underlying3) (tail_cons (sz := 3) rfl rfl (by kernel_rfl) opn_T_api_Loc (tail_cons (sz := 1) rfl rfl (by kernel_rfl) (opn_int Try.underlying3) (tail_cons (sz := 1) rfl rfl (by kernel_rfl) (opn_int Try.underlying3) (tail_cons (sz := 13) rfl rfl (by kernel_rfl) opn_T_api_Value (tail_cons (sz := 1) rfl rfl (by kernel_rfl) (opn_bool Try.underlying4) tail_nil))))))) (fun (a : Int × Int × T_api_Loc × Int × Int × T_api_Value × Bool × Unit) => (⟨a.1, a.2.1, a.2.2.1, a.2.2.2.1, a.2.2.2.2.1, a.2.2.2.2.2.1, a.2.2.2.2.2.2.1⟩ : T_api_Op)) (fun _ => rfl) (fun _ h => h)

structure S_struct_Kind_int_Lock_int_Loc_api_Loc_Old_44 where
  fKind : Int
  fLock : Int
  fLoc : T_api_Loc
  fOld : Int
  fNew : Int
  fVal : T_api_Value
  fMark : Bool

def S_struct_Kind_int_Lock_int_Loc_api_Loc_Old_44.d : S_struct_Kind_int_Lock_int_Loc_api_Loc_Old_44 := ⟨(0 : Int), (0 : Int), T_api_Loc.d, (0 : Int), (0 : Int), T_api_Value.d, false⟩

def S_struct_Kind_int_Lock_int_Loc_api_Loc_Old_44.c (a : S_struct_Kind_int_Lock_int_Loc_api_Loc_Old_44) : List C := [.lit (.int .i64 a.fKind), .lit (.int .i64 a.fLock), .lit (.int .i64 a.fLoc.fKind), .lit (.int .i64 a.fLoc.fShard), .lit (.int .i64 a.fLoc.fSlot), .lit (.int .i64 a.fOld), .lit (.int .i64 a.fNew), .lit (.int .i64 a.fVal.fN), .lit (.bool a.fVal.fPeer.fEnd.fAddr.fV6), .lit (.int .u64 a.fVal.fPeer.fEnd.fAddr.fHi), .lit (.int .u64 a.fVal.fPeer.fEnd.fAddr.fLo), .lit (.int .i64 a.fVal.fPeer.fEnd.fPort), .lit (.bool a.fVal.fPeer.fIn), .lit (.int .i64 a.fVal.fPeer.fSince), .lit (.int .i64 a.fVal.fPeer.fScore.fPoints), .lit (.int .i64 a.fVal.fPeer.fScore.fAt), .lit (.int .i64 a.fVal.fPeer.fPing), .lit (.int .i64 a.fVal.fPeer.fWork), cL 5 T_api_Ban.c T_api_Ban.d a.fVal.fBans, cL 7 T_api_Entry.c T_api_Entry.d a.fVal.fBook, .lit (.bool a.fMark)]

def S_struct_Kind_int_Lock_int_Loc_api_Loc_Old_44.ok (a : S_struct_Kind_int_Lock_int_Loc_api_Loc_Old_44) : Prop := (okI .i64) a.fKind ∧ (okI .i64) a.fLock ∧ T_api_Loc.ok a.fLoc ∧ (okI .i64) a.fOld ∧ (okI .i64) a.fNew ∧ T_api_Value.ok a.fVal ∧ okB a.fMark ∧ True

theorem opn_S_struct_Kind_int_Lock_int_Loc_api_Loc_Old_44 : Opn Try.prog 44 S_struct_Kind_int_Lock_int_Loc_api_Loc_Old_44.c S_struct_Kind_int_Lock_int_Loc_api_Loc_Old_44.ok := opn_struct (ea := (cP (cI .i64) (cP (cI .i64) (cP T_api_Loc.c (cP (cI .i64) (cP (cI .i64) (cP T_api_Value.c (cP cB cU)))))))) (oa := (okP (okI .i64) (okP (okI .i64) (okP T_api_Loc.ok (okP (okI .i64) (okP (okI .i64) (okP T_api_Value.ok (okP okB okU)))))))) (N := 21) Try.underlying44 (by kernel_rfl) (tail_cons (sz := 1) rfl rfl (by kernel_rfl) (opn_int Try.underlying3) (tail_cons (sz := 1) rfl rfl (by kernel_rfl) (opn_int Try.underlying3) (tail_cons (sz := 3) rfl rfl (by kernel_rfl) opn_T_api_Loc (tail_cons (sz := 1) rfl rfl (by kernel_rfl) (opn_int Try.underlying3) (tail_cons (sz := 1) rfl rfl (by kernel_rfl) (opn_int Try.underlying3) (tail_cons (sz := 13) rfl rfl (by kernel_rfl) opn_T_api_Value (tail_cons (sz := 1) rfl rfl (by kernel_rfl) (opn_bool Try.underlying4) tail_nil))))))) (fun (a : Int × Int × T_api_Loc × Int × Int × T_api_Value × Bool × Unit) => (⟨a.1, a.2.1, a.2.2.1, a.2.2.2.1, a.2.2.2.2.1, a.2.2.2.2.2.1, a.2.2.2.2.2.2.1⟩ : S_struct_Kind_int_Lock_int_Loc_api_Loc_Old_44)) (fun _ => rfl) (fun _ h => h)

structure T_api_Reply where
  fCode : Int
  fEnd : T_api_End
  fN : Int
  fUntil : Int
  fPeers : (List T_api_Peer)

def T_api_Reply.d : T_api_Reply := ⟨(0 : Int), T_api_End.d, (0 : Int), (0 : Int), ([] : (List T_api_Peer))⟩

def T_api_Reply.c (a : T_api_Reply) : List C := [.lit (.int .i64 a.fCode), .lit (.bool a.fEnd.fAddr.fV6), .lit (.int .u64 a.fEnd.fAddr.fHi), .lit (.int .u64 a.fEnd.fAddr.fLo), .lit (.int .i64 a.fEnd.fPort), .lit (.int .i64 a.fN), .lit (.int .i64 a.fUntil), cL 10 T_api_Peer.c T_api_Peer.d a.fPeers]

def T_api_Reply.ok (a : T_api_Reply) : Prop := (okI .i64) a.fCode ∧ T_api_End.ok a.fEnd ∧ (okI .i64) a.fN ∧ (okI .i64) a.fUntil ∧ (okL T_api_Peer.ok) a.fPeers ∧ True

theorem opn_T_api_Reply : Opn Try.prog 57 T_api_Reply.c T_api_Reply.ok := opn_struct (ea := (cP (cI .i64) (cP T_api_End.c (cP (cI .i64) (cP (cI .i64) (cP (cLs 10 T_api_Peer.c T_api_Peer.d) cU)))))) (oa := (okP (okI .i64) (okP T_api_End.ok (okP (okI .i64) (okP (okI .i64) (okP (okL T_api_Peer.ok) okU)))))) (N := 8) Try.underlying57 (by kernel_rfl) (tail_cons (sz := 1) rfl rfl (by kernel_rfl) (opn_int Try.underlying54) (tail_cons (sz := 4) rfl rfl (by kernel_rfl) opn_T_api_End (tail_cons (sz := 1) rfl rfl (by kernel_rfl) (opn_int Try.underlying3) (tail_cons (sz := 1) rfl rfl (by kernel_rfl) (opn_int Try.underlying3) (tail_cons (sz := 1) rfl rfl (by kernel_rfl) (opn_slice (d := T_api_Peer.d) Try.underlying55 (by kernel_rfl) (by decide) (fun _ => rfl) opn_T_api_Peer) tail_nil))))) (fun (a : Int × T_api_End × Int × Int × (List T_api_Peer) × Unit) => (⟨a.1, a.2.1, a.2.2.1, a.2.2.2.1, a.2.2.2.2.1⟩ : T_api_Reply)) (fun _ => rfl) (fun _ h => h)

structure S_struct_Code_api_Errno_End_api_End_N_int__56 where
  fCode : Int
  fEnd : T_api_End
  fN : Int
  fUntil : Int
  fPeers : (List T_api_Peer)

def S_struct_Code_api_Errno_End_api_End_N_int__56.d : S_struct_Code_api_Errno_End_api_End_N_int__56 := ⟨(0 : Int), T_api_End.d, (0 : Int), (0 : Int), ([] : (List T_api_Peer))⟩

def S_struct_Code_api_Errno_End_api_End_N_int__56.c (a : S_struct_Code_api_Errno_End_api_End_N_int__56) : List C := [.lit (.int .i64 a.fCode), .lit (.bool a.fEnd.fAddr.fV6), .lit (.int .u64 a.fEnd.fAddr.fHi), .lit (.int .u64 a.fEnd.fAddr.fLo), .lit (.int .i64 a.fEnd.fPort), .lit (.int .i64 a.fN), .lit (.int .i64 a.fUntil), cL 10 T_api_Peer.c T_api_Peer.d a.fPeers]

def S_struct_Code_api_Errno_End_api_End_N_int__56.ok (a : S_struct_Code_api_Errno_End_api_End_N_int__56) : Prop := (okI .i64) a.fCode ∧ T_api_End.ok a.fEnd ∧ (okI .i64) a.fN ∧ (okI .i64) a.fUntil ∧ (okL T_api_Peer.ok) a.fPeers ∧ True

theorem opn_S_struct_Code_api_Errno_End_api_End_N_int__56 : Opn Try.prog 56 S_struct_Code_api_Errno_End_api_End_N_int__56.c S_struct_Code_api_Errno_End_api_End_N_int__56.ok := opn_struct (ea := (cP (cI .i64) (cP T_api_End.c (cP (cI .i64) (cP (cI .i64) (cP (cLs 10 T_api_Peer.c T_api_Peer.d) cU)))))) (oa := (okP (okI .i64) (okP T_api_End.ok (okP (okI .i64) (okP (okI .i64) (okP (okL T_api_Peer.ok) okU)))))) (N := 8) Try.underlying56 (by kernel_rfl) (tail_cons (sz := 1) rfl rfl (by kernel_rfl) (opn_int Try.underlying54) (tail_cons (sz := 4) rfl rfl (by kernel_rfl) opn_T_api_End (tail_cons (sz := 1) rfl rfl (by kernel_rfl) (opn_int Try.underlying3) (tail_cons (sz := 1) rfl rfl (by kernel_rfl) (opn_int Try.underlying3) (tail_cons (sz := 1) rfl rfl (by kernel_rfl) (opn_slice (d := T_api_Peer.d) Try.underlying55 (by kernel_rfl) (by decide) (fun _ => rfl) opn_T_api_Peer) tail_nil))))) (fun (a : Int × T_api_End × Int × Int × (List T_api_Peer) × Unit) => (⟨a.1, a.2.1, a.2.2.1, a.2.2.2.1, a.2.2.2.2.1⟩ : S_struct_Code_api_Errno_End_api_End_N_int__56)) (fun _ => rfl) (fun _ h => h)

structure T_tape_Turn where
  fOp : T_api_Op
  fReply : T_api_Reply
  fDone : Bool
  fBroken : Bool

def T_tape_Turn.d : T_tape_Turn := ⟨T_api_Op.d, T_api_Reply.d, false, false⟩

def T_tape_Turn.c (a : T_tape_Turn) : List C := [.lit (.int .i64 a.fOp.fKind), .lit (.int .i64 a.fOp.fLock), .lit (.int .i64 a.fOp.fLoc.fKind), .lit (.int .i64 a.fOp.fLoc.fShard), .lit (.int .i64 a.fOp.fLoc.fSlot), .lit (.int .i64 a.fOp.fOld), .lit (.int .i64 a.fOp.fNew), .lit (.int .i64 a.fOp.fVal.fN), .lit (.bool a.fOp.fVal.fPeer.fEnd.fAddr.fV6), .lit (.int .u64 a.fOp.fVal.fPeer.fEnd.fAddr.fHi), .lit (.int .u64 a.fOp.fVal.fPeer.fEnd.fAddr.fLo), .lit (.int .i64 a.fOp.fVal.fPeer.fEnd.fPort), .lit (.bool a.fOp.fVal.fPeer.fIn), .lit (.int .i64 a.fOp.fVal.fPeer.fSince), .lit (.int .i64 a.fOp.fVal.fPeer.fScore.fPoints), .lit (.int .i64 a.fOp.fVal.fPeer.fScore.fAt), .lit (.int .i64 a.fOp.fVal.fPeer.fPing), .lit (.int .i64 a.fOp.fVal.fPeer.fWork), cL 5 T_api_Ban.c T_api_Ban.d a.fOp.fVal.fBans, cL 7 T_api_Entry.c T_api_Entry.d a.fOp.fVal.fBook, .lit (.bool a.fOp.fMark), .lit (.int .i64 a.fReply.fCode), .lit (.bool a.fReply.fEnd.fAddr.fV6), .lit (.int .u64 a.fReply.fEnd.fAddr.fHi), .lit (.int .u64 a.fReply.fEnd.fAddr.fLo), .lit (.int .i64 a.fReply.fEnd.fPort), .lit (.int .i64 a.fReply.fN), .lit (.int .i64 a.fReply.fUntil), cL 10 T_api_Peer.c T_api_Peer.d a.fReply.fPeers, .lit (.bool a.fDone), .lit (.bool a.fBroken)]

def T_tape_Turn.ok (a : T_tape_Turn) : Prop := T_api_Op.ok a.fOp ∧ T_api_Reply.ok a.fReply ∧ okB a.fDone ∧ okB a.fBroken ∧ True

theorem opn_T_tape_Turn : Opn Try.prog 59 T_tape_Turn.c T_tape_Turn.ok := opn_struct (ea := (cP T_api_Op.c (cP T_api_Reply.c (cP cB (cP cB cU))))) (oa := (okP T_api_Op.ok (okP T_api_Reply.ok (okP okB (okP okB okU))))) (N := 31) Try.underlying59 (by kernel_rfl) (tail_cons (sz := 21) rfl rfl (by kernel_rfl) opn_T_api_Op (tail_cons (sz := 8) rfl rfl (by kernel_rfl) opn_T_api_Reply (tail_cons (sz := 1) rfl rfl (by kernel_rfl) (opn_bool Try.underlying4) (tail_cons (sz := 1) rfl rfl (by kernel_rfl) (opn_bool Try.underlying4) tail_nil)))) (fun (a : T_api_Op × T_api_Reply × Bool × Bool × Unit) => (⟨a.1, a.2.1, a.2.2.1, a.2.2.2.1⟩ : T_tape_Turn)) (fun _ => rfl) (fun _ h => h)

structure S_struct_Op_api_Op_Reply_api_Reply_Done_bo_58 where
  fOp : T_api_Op
  fReply : T_api_Reply
  fDone : Bool
  fBroken : Bool

def S_struct_Op_api_Op_Reply_api_Reply_Done_bo_58.d : S_struct_Op_api_Op_Reply_api_Reply_Done_bo_58 := ⟨T_api_Op.d, T_api_Reply.d, false, false⟩

def S_struct_Op_api_Op_Reply_api_Reply_Done_bo_58.c (a : S_struct_Op_api_Op_Reply_api_Reply_Done_bo_58) : List C := [.lit (.int .i64 a.fOp.fKind), .lit (.int .i64 a.fOp.fLock), .lit (.int .i64 a.fOp.fLoc.fKind), .lit (.int .i64 a.fOp.fLoc.fShard), .lit (.int .i64 a.fOp.fLoc.fSlot), .lit (.int .i64 a.fOp.fOld), .lit (.int .i64 a.fOp.fNew), .lit (.int .i64 a.fOp.fVal.fN), .lit (.bool a.fOp.fVal.fPeer.fEnd.fAddr.fV6), .lit (.int .u64 a.fOp.fVal.fPeer.fEnd.fAddr.fHi), .lit (.int .u64 a.fOp.fVal.fPeer.fEnd.fAddr.fLo), .lit (.int .i64 a.fOp.fVal.fPeer.fEnd.fPort), .lit (.bool a.fOp.fVal.fPeer.fIn), .lit (.int .i64 a.fOp.fVal.fPeer.fSince), .lit (.int .i64 a.fOp.fVal.fPeer.fScore.fPoints), .lit (.int .i64 a.fOp.fVal.fPeer.fScore.fAt), .lit (.int .i64 a.fOp.fVal.fPeer.fPing), .lit (.int .i64 a.fOp.fVal.fPeer.fWork), cL 5 T_api_Ban.c T_api_Ban.d a.fOp.fVal.fBans, cL 7 T_api_Entry.c T_api_Entry.d a.fOp.fVal.fBook, .lit (.bool a.fOp.fMark), .lit (.int .i64 a.fReply.fCode), .lit (.bool a.fReply.fEnd.fAddr.fV6), .lit (.int .u64 a.fReply.fEnd.fAddr.fHi), .lit (.int .u64 a.fReply.fEnd.fAddr.fLo), .lit (.int .i64 a.fReply.fEnd.fPort), .lit (.int .i64 a.fReply.fN), .lit (.int .i64 a.fReply.fUntil), cL 10 T_api_Peer.c T_api_Peer.d a.fReply.fPeers, .lit (.bool a.fDone), .lit (.bool a.fBroken)]

def S_struct_Op_api_Op_Reply_api_Reply_Done_bo_58.ok (a : S_struct_Op_api_Op_Reply_api_Reply_Done_bo_58) : Prop := T_api_Op.ok a.fOp ∧ T_api_Reply.ok a.fReply ∧ okB a.fDone ∧ okB a.fBroken ∧ True

theorem opn_S_struct_Op_api_Op_Reply_api_Reply_Done_bo_58 : Opn Try.prog 58 S_struct_Op_api_Op_Reply_api_Reply_Done_bo_58.c S_struct_Op_api_Op_Reply_api_Reply_Done_bo_58.ok := opn_struct (ea := (cP T_api_Op.c (cP T_api_Reply.c (cP cB (cP cB cU))))) (oa := (okP T_api_Op.ok (okP T_api_Reply.ok (okP okB (okP okB okU))))) (N := 31) Try.underlying58 (by kernel_rfl) (tail_cons (sz := 21) rfl rfl (by kernel_rfl) opn_T_api_Op (tail_cons (sz := 8) rfl rfl (by kernel_rfl) opn_T_api_Reply (tail_cons (sz := 1) rfl rfl (by kernel_rfl) (opn_bool Try.underlying4) (tail_cons (sz := 1) rfl rfl (by kernel_rfl) (opn_bool Try.underlying4) tail_nil)))) (fun (a : T_api_Op × T_api_Reply × Bool × Bool × Unit) => (⟨a.1, a.2.1, a.2.2.1, a.2.2.2.1⟩ : S_struct_Op_api_Op_Reply_api_Reply_Done_bo_58)) (fun _ => rfl) (fun _ h => h)

structure T_doormanref38_Walk where
  fGot : (List T_api_Value)
  fAt : Int
  fOp : T_api_Op
  fWait : Bool

def T_doormanref38_Walk.d : T_doormanref38_Walk := ⟨([] : (List T_api_Value)), (0 : Int), T_api_Op.d, false⟩

def T_doormanref38_Walk.c (a : T_doormanref38_Walk) : List C := [cL 13 T_api_Value.c T_api_Value.d a.fGot, .lit (.int .i64 a.fAt), .lit (.int .i64 a.fOp.fKind), .lit (.int .i64 a.fOp.fLock), .lit (.int .i64 a.fOp.fLoc.fKind), .lit (.int .i64 a.fOp.fLoc.fShard), .lit (.int .i64 a.fOp.fLoc.fSlot), .lit (.int .i64 a.fOp.fOld), .lit (.int .i64 a.fOp.fNew), .lit (.int .i64 a.fOp.fVal.fN), .lit (.bool a.fOp.fVal.fPeer.fEnd.fAddr.fV6), .lit (.int .u64 a.fOp.fVal.fPeer.fEnd.fAddr.fHi), .lit (.int .u64 a.fOp.fVal.fPeer.fEnd.fAddr.fLo), .lit (.int .i64 a.fOp.fVal.fPeer.fEnd.fPort), .lit (.bool a.fOp.fVal.fPeer.fIn), .lit (.int .i64 a.fOp.fVal.fPeer.fSince), .lit (.int .i64 a.fOp.fVal.fPeer.fScore.fPoints), .lit (.int .i64 a.fOp.fVal.fPeer.fScore.fAt), .lit (.int .i64 a.fOp.fVal.fPeer.fPing), .lit (.int .i64 a.fOp.fVal.fPeer.fWork), cL 5 T_api_Ban.c T_api_Ban.d a.fOp.fVal.fBans, cL 7 T_api_Entry.c T_api_Entry.d a.fOp.fVal.fBook, .lit (.bool a.fOp.fMark), .lit (.bool a.fWait)]

def T_doormanref38_Walk.ok (a : T_doormanref38_Walk) : Prop := (okL T_api_Value.ok) a.fGot ∧ (okI .i64) a.fAt ∧ T_api_Op.ok a.fOp ∧ okB a.fWait ∧ True

theorem opn_T_doormanref38_Walk : Opn Try.prog 69 T_doormanref38_Walk.c T_doormanref38_Walk.ok := opn_struct (ea := (cP (cLs 13 T_api_Value.c T_api_Value.d) (cP (cI .i64) (cP T_api_Op.c (cP cB cU))))) (oa := (okP (okL T_api_Value.ok) (okP (okI .i64) (okP T_api_Op.ok (okP okB okU))))) (N := 24) Try.underlying69 (by kernel_rfl) (tail_cons (sz := 1) rfl rfl (by kernel_rfl) (opn_slice (d := T_api_Value.d) Try.underlying52 (by kernel_rfl) (by decide) (fun _ => rfl) opn_T_api_Value) (tail_cons (sz := 1) rfl rfl (by kernel_rfl) (opn_int Try.underlying3) (tail_cons (sz := 21) rfl rfl (by kernel_rfl) opn_T_api_Op (tail_cons (sz := 1) rfl rfl (by kernel_rfl) (opn_bool Try.underlying4) tail_nil)))) (fun (a : (List T_api_Value) × Int × T_api_Op × Bool × Unit) => (⟨a.1, a.2.1, a.2.2.1, a.2.2.2.1⟩ : T_doormanref38_Walk)) (fun _ => rfl) (fun _ h => h)

structure S_struct_Got_api_Value_At_int_Op_api_Op_Wa_68 where
  fGot : (List T_api_Value)
  fAt : Int
  fOp : T_api_Op
  fWait : Bool

def S_struct_Got_api_Value_At_int_Op_api_Op_Wa_68.d : S_struct_Got_api_Value_At_int_Op_api_Op_Wa_68 := ⟨([] : (List T_api_Value)), (0 : Int), T_api_Op.d, false⟩

def S_struct_Got_api_Value_At_int_Op_api_Op_Wa_68.c (a : S_struct_Got_api_Value_At_int_Op_api_Op_Wa_68) : List C := [cL 13 T_api_Value.c T_api_Value.d a.fGot, .lit (.int .i64 a.fAt), .lit (.int .i64 a.fOp.fKind), .lit (.int .i64 a.fOp.fLock), .lit (.int .i64 a.fOp.fLoc.fKind), .lit (.int .i64 a.fOp.fLoc.fShard), .lit (.int .i64 a.fOp.fLoc.fSlot), .lit (.int .i64 a.fOp.fOld), .lit (.int .i64 a.fOp.fNew), .lit (.int .i64 a.fOp.fVal.fN), .lit (.bool a.fOp.fVal.fPeer.fEnd.fAddr.fV6), .lit (.int .u64 a.fOp.fVal.fPeer.fEnd.fAddr.fHi), .lit (.int .u64 a.fOp.fVal.fPeer.fEnd.fAddr.fLo), .lit (.int .i64 a.fOp.fVal.fPeer.fEnd.fPort), .lit (.bool a.fOp.fVal.fPeer.fIn), .lit (.int .i64 a.fOp.fVal.fPeer.fSince), .lit (.int .i64 a.fOp.fVal.fPeer.fScore.fPoints), .lit (.int .i64 a.fOp.fVal.fPeer.fScore.fAt), .lit (.int .i64 a.fOp.fVal.fPeer.fPing), .lit (.int .i64 a.fOp.fVal.fPeer.fWork), cL 5 T_api_Ban.c T_api_Ban.d a.fOp.fVal.fBans, cL 7 T_api_Entry.c T_api_Entry.d a.fOp.fVal.fBook, .lit (.bool a.fOp.fMark), .lit (.bool a.fWait)]

def S_struct_Got_api_Value_At_int_Op_api_Op_Wa_68.ok (a : S_struct_Got_api_Value_At_int_Op_api_Op_Wa_68) : Prop := (okL T_api_Value.ok) a.fGot ∧ (okI .i64) a.fAt ∧ T_api_Op.ok a.fOp ∧ okB a.fWait ∧ True

theorem opn_S_struct_Got_api_Value_At_int_Op_api_Op_Wa_68 : Opn Try.prog 68 S_struct_Got_api_Value_At_int_Op_api_Op_Wa_68.c S_struct_Got_api_Value_At_int_Op_api_Op_Wa_68.ok := opn_struct (ea := (cP (cLs 13 T_api_Value.c T_api_Value.d) (cP (cI .i64) (cP T_api_Op.c (cP cB cU))))) (oa := (okP (okL T_api_Value.ok) (okP (okI .i64) (okP T_api_Op.ok (okP okB okU))))) (N := 24) Try.underlying68 (by kernel_rfl) (tail_cons (sz := 1) rfl rfl (by kernel_rfl) (opn_slice (d := T_api_Value.d) Try.underlying52 (by kernel_rfl) (by decide) (fun _ => rfl) opn_T_api_Value) (tail_cons (sz := 1) rfl rfl (by kernel_rfl) (opn_int Try.underlying3) (tail_cons (sz := 21) rfl rfl (by kernel_rfl) opn_T_api_Op (tail_cons (sz := 1) rfl rfl (by kernel_rfl) (opn_bool Try.underlying4) tail_nil)))) (fun (a : (List T_api_Value) × Int × T_api_Op × Bool × Unit) => (⟨a.1, a.2.1, a.2.2.1, a.2.2.2.1⟩ : S_struct_Got_api_Value_At_int_Op_api_Op_Wa_68)) (fun _ => rfl) (fun _ h => h)

structure T_tape_pause where
  fop : T_api_Op

def T_tape_pause.d : T_tape_pause := ⟨T_api_Op.d⟩

def T_tape_pause.c (a : T_tape_pause) : List C := [.lit (.int .i64 a.fop.fKind), .lit (.int .i64 a.fop.fLock), .lit (.int .i64 a.fop.fLoc.fKind), .lit (.int .i64 a.fop.fLoc.fShard), .lit (.int .i64 a.fop.fLoc.fSlot), .lit (.int .i64 a.fop.fOld), .lit (.int .i64 a.fop.fNew), .lit (.int .i64 a.fop.fVal.fN), .lit (.bool a.fop.fVal.fPeer.fEnd.fAddr.fV6), .lit (.int .u64 a.fop.fVal.fPeer.fEnd.fAddr.fHi), .lit (.int .u64 a.fop.fVal.fPeer.fEnd.fAddr.fLo), .lit (.int .i64 a.fop.fVal.fPeer.fEnd.fPort), .lit (.bool a.fop.fVal.fPeer.fIn), .lit (.int .i64 a.fop.fVal.fPeer.fSince), .lit (.int .i64 a.fop.fVal.fPeer.fScore.fPoints), .lit (.int .i64 a.fop.fVal.fPeer.fScore.fAt), .lit (.int .i64 a.fop.fVal.fPeer.fPing), .lit (.int .i64 a.fop.fVal.fPeer.fWork), cL 5 T_api_Ban.c T_api_Ban.d a.fop.fVal.fBans, cL 7 T_api_Entry.c T_api_Entry.d a.fop.fVal.fBook, .lit (.bool a.fop.fMark)]

def T_tape_pause.ok (a : T_tape_pause) : Prop := T_api_Op.ok a.fop ∧ True

theorem opn_T_tape_pause : Opn Try.prog 104 T_tape_pause.c T_tape_pause.ok := opn_struct (ea := (cP T_api_Op.c cU)) (oa := (okP T_api_Op.ok okU)) (N := 21) Try.underlying104 (by kernel_rfl) (tail_cons (sz := 21) rfl rfl (by kernel_rfl) opn_T_api_Op tail_nil) (fun (a : T_api_Op × Unit) => (⟨a.1⟩ : T_tape_pause)) (fun _ => rfl) (fun _ h => h)

structure S_struct_op_api_Op__103 where
  fop : T_api_Op

def S_struct_op_api_Op__103.d : S_struct_op_api_Op__103 := ⟨T_api_Op.d⟩

def S_struct_op_api_Op__103.c (a : S_struct_op_api_Op__103) : List C := [.lit (.int .i64 a.fop.fKind), .lit (.int .i64 a.fop.fLock), .lit (.int .i64 a.fop.fLoc.fKind), .lit (.int .i64 a.fop.fLoc.fShard), .lit (.int .i64 a.fop.fLoc.fSlot), .lit (.int .i64 a.fop.fOld), .lit (.int .i64 a.fop.fNew), .lit (.int .i64 a.fop.fVal.fN), .lit (.bool a.fop.fVal.fPeer.fEnd.fAddr.fV6), .lit (.int .u64 a.fop.fVal.fPeer.fEnd.fAddr.fHi), .lit (.int .u64 a.fop.fVal.fPeer.fEnd.fAddr.fLo), .lit (.int .i64 a.fop.fVal.fPeer.fEnd.fPort), .lit (.bool a.fop.fVal.fPeer.fIn), .lit (.int .i64 a.fop.fVal.fPeer.fSince), .lit (.int .i64 a.fop.fVal.fPeer.fScore.fPoints), .lit (.int .i64 a.fop.fVal.fPeer.fScore.fAt), .lit (.int .i64 a.fop.fVal.fPeer.fPing), .lit (.int .i64 a.fop.fVal.fPeer.fWork), cL 5 T_api_Ban.c T_api_Ban.d a.fop.fVal.fBans, cL 7 T_api_Entry.c T_api_Entry.d a.fop.fVal.fBook, .lit (.bool a.fop.fMark)]

def S_struct_op_api_Op__103.ok (a : S_struct_op_api_Op__103) : Prop := T_api_Op.ok a.fop ∧ True

theorem opn_S_struct_op_api_Op__103 : Opn Try.prog 103 S_struct_op_api_Op__103.c S_struct_op_api_Op__103.ok := opn_struct (ea := (cP T_api_Op.c cU)) (oa := (okP T_api_Op.ok okU)) (N := 21) Try.underlying103 (by kernel_rfl) (tail_cons (sz := 21) rfl rfl (by kernel_rfl) opn_T_api_Op tail_nil) (fun (a : T_api_Op × Unit) => (⟨a.1⟩ : S_struct_op_api_Op__103)) (fun _ => rfl) (fun _ h => h)

structure T_tape_tape where
  fgot : (List T_api_Value)

def T_tape_tape.d : T_tape_tape := ⟨([] : (List T_api_Value))⟩

def T_tape_tape.c (a : T_tape_tape) : List C := [cL 13 T_api_Value.c T_api_Value.d a.fgot]

def T_tape_tape.ok (a : T_tape_tape) : Prop := (okL T_api_Value.ok) a.fgot ∧ True

theorem opn_T_tape_tape : Opn Try.prog 107 T_tape_tape.c T_tape_tape.ok := opn_struct (ea := (cP (cLs 13 T_api_Value.c T_api_Value.d) cU)) (oa := (okP (okL T_api_Value.ok) okU)) (N := 1) Try.underlying107 (by kernel_rfl) (tail_cons (sz := 1) rfl rfl (by kernel_rfl) (opn_slice (d := T_api_Value.d) Try.underlying52 (by kernel_rfl) (by decide) (fun _ => rfl) opn_T_api_Value) tail_nil) (fun (a : (List T_api_Value) × Unit) => (⟨a.1⟩ : T_tape_tape)) (fun _ => rfl) (fun _ h => h)

structure S_struct_got_api_Value__106 where
  fgot : (List T_api_Value)

def S_struct_got_api_Value__106.d : S_struct_got_api_Value__106 := ⟨([] : (List T_api_Value))⟩

def S_struct_got_api_Value__106.c (a : S_struct_got_api_Value__106) : List C := [cL 13 T_api_Value.c T_api_Value.d a.fgot]

def S_struct_got_api_Value__106.ok (a : S_struct_got_api_Value__106) : Prop := (okL T_api_Value.ok) a.fgot ∧ True

theorem opn_S_struct_got_api_Value__106 : Opn Try.prog 106 S_struct_got_api_Value__106.c S_struct_got_api_Value__106.ok := opn_struct (ea := (cP (cLs 13 T_api_Value.c T_api_Value.d) cU)) (oa := (okP (okL T_api_Value.ok) okU)) (N := 1) Try.underlying106 (by kernel_rfl) (tail_cons (sz := 1) rfl rfl (by kernel_rfl) (opn_slice (d := T_api_Value.d) Try.underlying52 (by kernel_rfl) (by decide) (fun _ => rfl) opn_T_api_Value) tail_nil) (fun (a : (List T_api_Value) × Unit) => (⟨a.1⟩ : S_struct_got_api_Value__106)) (fun _ => rfl) (fun _ h => h)

/-- What a code that goes step by step gives: its value and what is left of the tape; the operation at which it waits; or it is broken. -/
inductive Tout (α : Type) where
  | ret (x : α) (g : T_tape_tape)
  | pan (op : T_api_Op)
  | bad (s : ByteArray)

def oc {α : Type} (v : α → V) : Tout α → Outc
  | .ret x g => .ret [(100000, .box (T_tape_tape.c g))] (v x)
  | .pan op => .pan (.one (.ifa 104 21 (fun i => (T_api_Op.c op).getD i .junk)))
  | .bad s => .pan (.one (.ifc 9 (.lit (.string s))))

theorem meth_Drop : MethOk Try.prog 105 "Drop" 96 := fun x w => by kernel_rfl
theorem nilok_Drop : NilOk Try.prog 105 "Drop" := fun x w => by kernel_rfl

theorem meth_Free : MethOk Try.prog 105 "Free" 97 := fun x w => by kernel_rfl
theorem nilok_Free : NilOk Try.prog 105 "Free" := fun x w => by kernel_rfl

theorem meth_Load : MethOk Try.prog 105 "Load" 98 := fun x w => by kernel_rfl
theorem nilok_Load : NilOk Try.prog 105 "Load" := fun x w => by kernel_rfl

theorem meth_Lock : MethOk Try.prog 105 "Lock" 99 := fun x w => by kernel_rfl
theorem nilok_Lock : NilOk Try.prog 105 "Lock" := fun x w => by kernel_rfl

theorem meth_Pass : MethOk Try.prog 105 "Pass" 100 := fun x w => by kernel_rfl
theorem nilok_Pass : NilOk Try.prog 105 "Pass" := fun x w => by kernel_rfl

theorem meth_Share : MethOk Try.prog 105 "Share" 101 := fun x w => by kernel_rfl
theorem nilok_Share : NilOk Try.prog 105 "Share" := fun x w => by kernel_rfl

theorem meth_Store : MethOk Try.prog 105 "Store" 102 := fun x w => by kernel_rfl
theorem nilok_Store : NilOk Try.prog 105 "Store" := fun x w => by kernel_rfl

theorem meth_Swap : MethOk Try.prog 105 "Swap" 103 := fun x w => by kernel_rfl
theorem nilok_Swap : NilOk Try.prog 105 "Swap" := fun x w => by kernel_rfl

def tab : Tab := [
  (1, ⟨.func, 1, 8, some (.nilFunc)⟩),
  (3, ⟨.int .i64, 1, 8, some (.int .i64 (0))⟩),
  (4, ⟨.bool, 1, 1, some (.bool false)⟩),
  (20, ⟨.iface, 1, 16, some (.nilIface)⟩),
  (29, ⟨.struct [(0, 3), (1, 3), (2, 3)], 3, 24, some (.agg #[.int .i64 (0), .int .i64 (0), .int .i64 (0)])⟩),
  (30, ⟨.struct [(0, 3), (1, 3), (2, 3)], 3, 24, some (.agg #[.int .i64 (0), .int .i64 (0), .int .i64 (0)])⟩),
  (31, ⟨.int .u64, 1, 8, some (.int .u64 (0))⟩),
  (32, ⟨.struct [(0, 4), (1, 31), (2, 31)], 3, 24, some (.agg #[.bool false, .int .u64 (0), .int .u64 (0)])⟩),
  (33, ⟨.struct [(0, 4), (1, 31), (2, 31)], 3, 24, some (.agg #[.bool false, .int .u64 (0), .int .u64 (0)])⟩),
  (34, ⟨.struct [(0, 33), (3, 3)], 4, 32, some (.agg #[.bool false, .int .u64 (0), .int .u64 (0), .int .i64 (0)])⟩),
  (35, ⟨.struct [(0, 33), (3, 3)], 4, 32, some (.agg #[.bool false, .int .u64 (0), .int .u64 (0), .int .i64 (0)])⟩),
  (36, ⟨.struct [(0, 3), (1, 3)], 2, 16, some (.agg #[.int .i64 (0), .int .i64 (0)])⟩),
  (37, ⟨.struct [(0, 3), (1, 3)], 2, 16, some (.agg #[.int .i64 (0), .int .i64 (0)])⟩),
  (38, ⟨.struct [(0, 35), (4, 4), (5, 3), (6, 37), (8, 3), (9, 3)], 10, 80, some (.agg #[.bool false, .int .u64 (0), .int .u64 (0), .int .i64 (0), .bool false, .int .i64 (0), .int .i64 (0), .int .i64 (0), .int .i64 (0), .int .i64 (0)])⟩),
  (39, ⟨.struct [(0, 35), (4, 4), (5, 3), (6, 37), (8, 3), (9, 3)], 10, 80, some (.agg #[.bool false, .int .u64 (0), .int .u64 (0), .int .i64 (0), .bool false, .int .i64 (0), .int .i64 (0), .int .i64 (0), .int .i64 (0), .int .i64 (0)])⟩),
  (40, ⟨.slice 142, 1, 24, some (.slice none 0 0)⟩),
  (41, ⟨.slice 144, 1, 24, some (.slice none 0 0)⟩),
  (42, ⟨.struct [(0, 3), (1, 39), (11, 40), (12, 41)], 13, 136, some (.agg #[.int .i64 (0), .bool false, .int .u64 (0), .int .u64 (0), .int .i64 (0), .bool false, .int .i64 (0), .int .i64 (0), .int .i64 (0), .int .i64 (0), .int .i64 (0), .slice none 0 0, .slice none 0 0])⟩),
  (43, ⟨.struct [(0, 3), (1, 39), (11, 40), (12, 41)], 13, 136, some (.agg #[.int .i64 (0), .bool false, .int .u64 (0), .int .u64 (0), .int .i64 (0), .bool false, .int .i64 (0), .int .i64 (0), .int .i64 (0), .int .i64 (0), .int .i64 (0), .slice none 0 0, .slice none 0 0])⟩),
  (44, ⟨.struct [(0, 3), (1, 3), (2, 30), (5, 3), (6, 3), (7, 43), (20, 4)], 21, 200, some (.agg #[.int .i64 (0), .int .i64 (0), .int .i64 (0), .int .i64 (0), .int .i64 (0), .int .i64 (0), .int .i64 (0), .int .i64 (0), .bool false, .int .u64 (0), .int .u64 (0), .int .i64 (0), .bool false, .int .i64 (0), .int .i64 (0), .int .i64 (0), .int .i64 (0), .int .i64 (0), .slice none 0 0, .slice none 0 0, .bool false])⟩),
  (45, ⟨.struct [(0, 3), (1, 3), (2, 30), (5, 3), (6, 3), (7, 43), (20, 4)], 21, 200, some (.agg #[.int .i64 (0), .int .i64 (0), .int .i64 (0), .int .i64 (0), .int .i64 (0), .int .i64 (0), .int .i64 (0), .int .i64 (0), .bool false, .int .u64 (0), .int .u64 (0), .int .i64 (0), .bool false, .int .i64 (0), .int .i64 (0), .int .i64 (0), .int .i64 (0), .int .i64 (0), .slice none 0 0, .slice none 0 0, .bool false])⟩),
  (51, ⟨.slice 45, 1, 24, some (.slice none 0 0)⟩),
  (52, ⟨.slice 43, 1, 24, some (.slice none 0 0)⟩),
  (54, ⟨.int .i64, 1, 8, some (.int .i64 (0))⟩),
  (55, ⟨.slice 39, 1, 24, some (.slice none 0 0)⟩),
  (56, ⟨.struct [(0, 54), (1, 35), (5, 3), (6, 3), (7, 55)], 8, 80, some (.agg #[.int .i64 (0), .bool false, .int .u64 (0), .int .u64 (0), .int .i64 (0), .int .i64 (0), .int .i64 (0), .slice none 0 0])⟩),
  (57, ⟨.struct [(0, 54), (1, 35), (5, 3), (6, 3), (7, 55)], 8, 80, some (.agg #[.int .i64 (0), .bool false, .int .u64 (0), .int .u64 (0), .int .i64 (0), .int .i64 (0), .int .i64 (0), .slice none 0 0])⟩),
  (58, ⟨.struct [(0, 45), (21, 57), (29, 4), (30, 4)], 31, 288, some (.agg #[.int .i64 (0), .int .i64 (0), .int .i64 (0), .int .i64 (0), .int .i64 (0), .int .i64 (0), .int .i64 (0), .int .i64 (0), .bool false, .int .u64 (0), .int .u64 (0), .int .i64 (0), .bool false, .int .i64 (0), .int .i64 (0), .int .i64 (0), .int .i64 (0), .int .i64 (0), .slice none 0 0, .slice none 0 0, .bool false, .int .i64 (0), .bool false, .int .u64 (0), .int .u64 (0), .int .i64 (0), .int .i64 (0), .int .i64 (0), .slice none 0 0, .bool false, .bool false])⟩),
  (59, ⟨.struct [(0, 45), (21, 57), (29, 4), (30, 4)], 31, 288, some (.agg #[.int .i64 (0), .int .i64 (0), .int .i64 (0), .int .i64 (0), .int .i64 (0), .int .i64 (0), .int .i64 (0), .int .i64 (0), .bool false, .int .u64 (0), .int .u64 (0), .int .i64 (0), .bool false, .int .i64 (0), .int .i64 (0), .int .i64 (0), .int .i64 (0), .int .i64 (0), .slice none 0 0, .slice none 0 0, .bool false, .int .i64 (0), .bool false, .int .u64 (0), .int .u64 (0), .int .i64 (0), .int .i64 (0), .int .i64 (0), .slice none 0 0, .bool false, .bool false])⟩),
  (67, ⟨.func, 1, 8, some (.nilFunc)⟩),
  (68, ⟨.struct [(0, 52), (1, 3), (2, 45), (23, 4)], 24, 240, some (.agg #[.slice none 0 0, .int .i64 (0), .int .i64 (0), .int .i64 (0), .int .i64 (0), .int .i64 (0), .int .i64 (0), .int .i64 (0), .int .i64 (0), .int .i64 (0), .bool false, .int .u64 (0), .int .u64 (0), .int .i64 (0), .bool false, .int .i64 (0), .int .i64 (0), .int .i64 (0), .int .i64 (0), .int .i64 (0), .slice none 0 0, .slice none 0 0, .bool false, .bool false])⟩),
  (69, ⟨.struct [(0, 52), (1, 3), (2, 45), (23, 4)], 24, 240, some (.agg #[.slice none 0 0, .int .i64 (0), .int .i64 (0), .int .i64 (0), .int .i64 (0), .int .i64 (0), .int .i64 (0), .int .i64 (0), .int .i64 (0), .int .i64 (0), .bool false, .int .u64 (0), .int .u64 (0), .int .i64 (0), .bool false, .int .i64 (0), .int .i64 (0), .int .i64 (0), .int .i64 (0), .int .i64 (0), .slice none 0 0, .slice none 0 0, .bool false, .bool false])⟩),
  (83, ⟨.slice 3, 1, 24, some (.slice none 0 0)⟩),
  (96, ⟨.iface, 1, 16, some (.nilIface)⟩),
  (97, ⟨.iface, 1, 16, some (.nilIface)⟩),
  (102, ⟨.func, 1, 8, some (.nilFunc)⟩),
  (103, ⟨.struct [(0, 45)], 21, 200, some (.agg #[.int .i64 (0), .int .i64 (0), .int .i64 (0), .int .i64 (0), .int .i64 (0), .int .i64 (0), .int .i64 (0), .int .i64 (0), .bool false, .int .u64 (0), .int .u64 (0), .int .i64 (0), .bool false, .int .i64 (0), .int .i64 (0), .int .i64 (0), .int .i64 (0), .int .i64 (0), .slice none 0 0, .slice none 0 0, .bool false])⟩),
  (104, ⟨.struct [(0, 45)], 21, 200, some (.agg #[.int .i64 (0), .int .i64 (0), .int .i64 (0), .int .i64 (0), .int .i64 (0), .int .i64 (0), .int .i64 (0), .int .i64 (0), .bool false, .int .u64 (0), .int .u64 (0), .int .i64 (0), .bool false, .int .i64 (0), .int .i64 (0), .int .i64 (0), .int .i64 (0), .int .i64 (0), .slice none 0 0, .slice none 0 0, .bool false])⟩),
  (105, ⟨.ptr 107, 1, 8, some (.pointer none)⟩),
  (106, ⟨.struct [(0, 52)], 1, 24, some (.agg #[.slice none 0 0])⟩),
  (107, ⟨.struct [(0, 52)], 1, 24, some (.agg #[.slice none 0 0])⟩),
  (126, ⟨.func, 1, 8, some (.nilFunc)⟩),
  (127, ⟨.func, 1, 8, some (.nilFunc)⟩),
  (128, ⟨.func, 1, 8, some (.nilFunc)⟩),
  (139, ⟨.struct [(0, 33), (3, 3)], 4, 32, some (.agg #[.bool false, .int .u64 (0), .int .u64 (0), .int .i64 (0)])⟩),
  (140, ⟨.struct [(0, 33), (3, 3)], 4, 32, some (.agg #[.bool false, .int .u64 (0), .int .u64 (0), .int .i64 (0)])⟩),
  (141, ⟨.struct [(0, 140), (4, 3)], 5, 40, some (.agg #[.bool false, .int .u64 (0), .int .u64 (0), .int .i64 (0), .int .i64 (0)])⟩),
  (142, ⟨.struct [(0, 140), (4, 3)], 5, 40, some (.agg #[.bool false, .int .u64 (0), .int .u64 (0), .int .i64 (0), .int .i64 (0)])⟩),
  (143, ⟨.struct [(0, 35), (4, 3), (5, 3), (6, 3)], 7, 56, some (.agg #[.bool false, .int .u64 (0), .int .u64 (0), .int .i64 (0), .int .i64 (0), .int .i64 (0), .int .i64 (0)])⟩),
  (144, ⟨.struct [(0, 35), (4, 3), (5, 3), (6, 3)], 7, 56, some (.agg #[.bool false, .int .u64 (0), .int .u64 (0), .int .i64 (0), .int .i64 (0), .int .i64 (0), .int .i64 (0)])⟩)]

theorem tabOk : TabOk Try.prog tab :=
  .cons ⟨by kernel_rfl, by kernel_rfl, _, Try.underlying1, trivial⟩ <|
  .cons ⟨by kernel_rfl, by kernel_rfl, _, Try.underlying3, rfl⟩ <|
  .cons ⟨by kernel_rfl, by kernel_rfl, _, Try.underlying4, trivial⟩ <|
  .cons ⟨by kernel_rfl, by kernel_rfl, _, Try.underlying20, trivial⟩ <|
  .cons ⟨by kernel_rfl, by kernel_rfl, _, Try.underlying29, rfl⟩ <|
  .cons ⟨by kernel_rfl, by kernel_rfl, _, Try.underlying30, rfl⟩ <|
  .cons ⟨by kernel_rfl, by kernel_rfl, _, Try.underlying31, rfl⟩ <|
  .cons ⟨by kernel_rfl, by kernel_rfl, _, Try.underlying32, rfl⟩ <|
  .cons ⟨by kernel_rfl, by kernel_rfl, _, Try.underlying33, rfl⟩ <|
  .cons ⟨by kernel_rfl, by kernel_rfl, _, Try.underlying34, rfl⟩ <|
  .cons ⟨by kernel_rfl, by kernel_rfl, _, Try.underlying35, rfl⟩ <|
  .cons ⟨by kernel_rfl, by kernel_rfl, _, Try.underlying36, rfl⟩ <|
  .cons ⟨by kernel_rfl, by kernel_rfl, _, Try.underlying37, rfl⟩ <|
  .cons ⟨by kernel_rfl, by kernel_rfl, _, Try.underlying38, rfl⟩ <|
  .cons ⟨by kernel_rfl, by kernel_rfl, _, Try.underlying39, rfl⟩ <|
  .cons ⟨by kernel_rfl, by kernel_rfl, _, Try.underlying40, rfl⟩ <|
  .cons ⟨by kernel_rfl, by kernel_rfl, _, Try.underlying41, rfl⟩ <|
  .cons ⟨by kernel_rfl, by kernel_rfl, _, Try.underlying42, rfl⟩ <|
  .cons ⟨by kernel_rfl, by kernel_rfl, _, Try.underlying43, rfl⟩ <|
  .cons ⟨by kernel_rfl, by kernel_rfl, _, Try.underlying44, rfl⟩ <|
  .cons ⟨by kernel_rfl, by kernel_rfl, _, Try.underlying45, rfl⟩ <|
  .cons ⟨by kernel_rfl, by kernel_rfl, _, Try.underlying51, rfl⟩ <|
  .cons ⟨by kernel_rfl, by kernel_rfl, _, Try.underlying52, rfl⟩ <|
  .cons ⟨by kernel_rfl, by kernel_rfl, _, Try.underlying54, rfl⟩ <|
  .cons ⟨by kernel_rfl, by kernel_rfl, _, Try.underlying55, rfl⟩ <|
  .cons ⟨by kernel_rfl, by kernel_rfl, _, Try.underlying56, rfl⟩ <|
  .cons ⟨by kernel_rfl, by kernel_rfl, _, Try.underlying57, rfl⟩ <|
  .cons ⟨by kernel_rfl, by kernel_rfl, _, Try.underlying58, rfl⟩ <|
  .cons ⟨by kernel_rfl, by kernel_rfl, _, Try.underlying59, rfl⟩ <|
  .cons ⟨by kernel_rfl, by kernel_rfl, _, Try.underlying67, trivial⟩ <|
  .cons ⟨by kernel_rfl, by kernel_rfl, _, Try.underlying68, rfl⟩ <|
  .cons ⟨by kernel_rfl, by kernel_rfl, _, Try.underlying69, rfl⟩ <|
  .cons ⟨by kernel_rfl, by kernel_rfl, _, Try.underlying83, rfl⟩ <|
  .cons ⟨by kernel_rfl, by kernel_rfl, _, Try.underlying96, trivial⟩ <|
  .cons ⟨by kernel_rfl, by kernel_rfl, _, Try.underlying97, trivial⟩ <|
  .cons ⟨by kernel_rfl, by kernel_rfl, _, Try.underlying102, trivial⟩ <|
  .cons ⟨by kernel_rfl, by kernel_rfl, _, Try.underlying103, rfl⟩ <|
  .cons ⟨by kernel_rfl, by kernel_rfl, _, Try.underlying104, rfl⟩ <|
  .cons ⟨by kernel_rfl, by kernel_rfl, _, Try.underlying105, rfl⟩ <|
  .cons ⟨by kernel_rfl, by kernel_rfl, _, Try.underlying106, rfl⟩ <|
  .cons ⟨by kernel_rfl, by kernel_rfl, _, Try.underlying107, rfl⟩ <|
  .cons ⟨by kernel_rfl, by kernel_rfl, _, Try.underlying126, trivial⟩ <|
  .cons ⟨by kernel_rfl, by kernel_rfl, _, Try.underlying127, trivial⟩ <|
  .cons ⟨by kernel_rfl, by kernel_rfl, _, Try.underlying128, trivial⟩ <|
  .cons ⟨by kernel_rfl, by kernel_rfl, _, Try.underlying139, rfl⟩ <|
  .cons ⟨by kernel_rfl, by kernel_rfl, _, Try.underlying140, rfl⟩ <|
  .cons ⟨by kernel_rfl, by kernel_rfl, _, Try.underlying141, rfl⟩ <|
  .cons ⟨by kernel_rfl, by kernel_rfl, _, Try.underlying142, rfl⟩ <|
  .cons ⟨by kernel_rfl, by kernel_rfl, _, Try.underlying143, rfl⟩ <|
  .cons ⟨by kernel_rfl, by kernel_rfl, _, Try.underlying144, rfl⟩ <|
  .nil _

theorem allOk : AllOk Try.prog tab := ⟨tabOk, by kernel_rfl⟩
end Go.Proofs.Ytnbkjjoodmmneaa
