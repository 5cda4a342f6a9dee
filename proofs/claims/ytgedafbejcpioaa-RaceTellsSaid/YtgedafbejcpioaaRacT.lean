/-
  Types, as trees; the table of types.
  WRITTEN BY A PROGRAM OF MY OWN (wip/gen/am.py).
-/
import Derived.ChangeKeysEq
import Derived.Test.YtgedafbejcpioaaProg
import Derived.Shelf.Spec.SlicesInsertGrow
import Derived.Lib.Hide
import Derived.Test.YtgedafbejcpioaaAmSk
import Derived.Test.YtgedafbejcpioaaAmX
namespace Go.Proofs.Ytgedafbejcpioaa
open Go.RowKit Go.Lib Go.Shelf
set_option linter.unusedVariables false
set_option maxRecDepth 100000
variable {z : Zw}
structure T_api_Loc where
  fKind : Int
  fShard : Int
  fSlot : Int
  deriving DecidableEq

def T_api_Loc.d : T_api_Loc := ⟨(0 : Int), (0 : Int), (0 : Int)⟩

def T_api_Loc.c (a : T_api_Loc) : List C := [.lit (.int .i64 a.fKind), .lit (.int .i64 a.fShard), .lit (.int .i64 a.fSlot)]

def T_api_Loc.E : Ec T_api_Loc := ⟨3, T_api_Loc.c, T_api_Loc.d⟩

def T_api_Loc.ok (a : T_api_Loc) : Prop := (okI .i64) a.fKind ∧ (okI .i64) a.fShard ∧ (okI .i64) a.fSlot ∧ True

theorem opn_T_api_Loc : Opn Try.prog 30 T_api_Loc.c T_api_Loc.ok := opn_struct (ea := (cP (cI .i64) (cP (cI .i64) (cP (cI .i64) cU)))) (oa := (okP (okI .i64) (okP (okI .i64) (okP (okI .i64) okU)))) (N := 3) Try.underlying30 (by kernel_rfl) (tail_cons (sz := 1) rfl rfl (by kernel_rfl) (opn_int Try.underlying3) (tail_cons (sz := 1) rfl rfl (by kernel_rfl) (opn_int Try.underlying3) (tail_cons (sz := 1) rfl rfl (by kernel_rfl) (opn_int Try.underlying3) tail_nil))) (fun (a : Int × Int × Int × Unit) => (⟨a.1, a.2.1, a.2.2.1⟩ : T_api_Loc)) (fun _ => rfl) (fun _ h => h)

structure T_api_Addr where
  fV6 : Bool
  fHi : Int
  fLo : Int
  deriving DecidableEq

def T_api_Addr.d : T_api_Addr := ⟨false, (0 : Int), (0 : Int)⟩

def T_api_Addr.c (a : T_api_Addr) : List C := [.lit (.bool a.fV6), .lit (.int .u64 a.fHi), .lit (.int .u64 a.fLo)]

def T_api_Addr.E : Ec T_api_Addr := ⟨3, T_api_Addr.c, T_api_Addr.d⟩

def T_api_Addr.ok (a : T_api_Addr) : Prop := okB a.fV6 ∧ (okI .u64) a.fHi ∧ (okI .u64) a.fLo ∧ True

theorem opn_T_api_Addr : Opn Try.prog 33 T_api_Addr.c T_api_Addr.ok := opn_struct (ea := (cP cB (cP (cI .u64) (cP (cI .u64) cU)))) (oa := (okP okB (okP (okI .u64) (okP (okI .u64) okU)))) (N := 3) Try.underlying33 (by kernel_rfl) (tail_cons (sz := 1) rfl rfl (by kernel_rfl) (opn_bool Try.underlying4) (tail_cons (sz := 1) rfl rfl (by kernel_rfl) (opn_int Try.underlying31) (tail_cons (sz := 1) rfl rfl (by kernel_rfl) (opn_int Try.underlying31) tail_nil))) (fun (a : Bool × Int × Int × Unit) => (⟨a.1, a.2.1, a.2.2.1⟩ : T_api_Addr)) (fun _ => rfl) (fun _ h => h)

structure T_api_End where
  fAddr : T_api_Addr
  fPort : Int
  deriving DecidableEq

def T_api_End.d : T_api_End := ⟨T_api_Addr.d, (0 : Int)⟩

def T_api_End.c (a : T_api_End) : List C := [.lit (.bool a.fAddr.fV6), .lit (.int .u64 a.fAddr.fHi), .lit (.int .u64 a.fAddr.fLo), .lit (.int .i64 a.fPort)]

def T_api_End.E : Ec T_api_End := ⟨4, T_api_End.c, T_api_End.d⟩

def T_api_End.ok (a : T_api_End) : Prop := T_api_Addr.ok a.fAddr ∧ (okI .i64) a.fPort ∧ True

theorem opn_T_api_End : Opn Try.prog 35 T_api_End.c T_api_End.ok := opn_struct (ea := (cP T_api_Addr.c (cP (cI .i64) cU))) (oa := (okP T_api_Addr.ok (okP (okI .i64) okU))) (N := 4) Try.underlying35 (by kernel_rfl) (tail_cons (sz := 3) rfl rfl (by kernel_rfl) opn_T_api_Addr (tail_cons (sz := 1) rfl rfl (by kernel_rfl) (opn_int Try.underlying3) tail_nil)) (fun (a : T_api_Addr × Int × Unit) => (⟨a.1, a.2.1⟩ : T_api_End)) (fun _ => rfl) (fun _ h => h)

structure T_api_Score where
  fPoints : Int
  fAt : Int
  deriving DecidableEq

def T_api_Score.d : T_api_Score := ⟨(0 : Int), (0 : Int)⟩

def T_api_Score.c (a : T_api_Score) : List C := [.lit (.int .i64 a.fPoints), .lit (.int .i64 a.fAt)]

def T_api_Score.E : Ec T_api_Score := ⟨2, T_api_Score.c, T_api_Score.d⟩

def T_api_Score.ok (a : T_api_Score) : Prop := (okI .i64) a.fPoints ∧ (okI .i64) a.fAt ∧ True

theorem opn_T_api_Score : Opn Try.prog 37 T_api_Score.c T_api_Score.ok := opn_struct (ea := (cP (cI .i64) (cP (cI .i64) cU))) (oa := (okP (okI .i64) (okP (okI .i64) okU))) (N := 2) Try.underlying37 (by kernel_rfl) (tail_cons (sz := 1) rfl rfl (by kernel_rfl) (opn_int Try.underlying3) (tail_cons (sz := 1) rfl rfl (by kernel_rfl) (opn_int Try.underlying3) tail_nil)) (fun (a : Int × Int × Unit) => (⟨a.1, a.2.1⟩ : T_api_Score)) (fun _ => rfl) (fun _ h => h)

structure T_api_Peer where
  fEnd : T_api_End
  fIn : Bool
  fSince : Int
  fScore : T_api_Score
  fPing : Int
  fWork : Int
  deriving DecidableEq

def T_api_Peer.d : T_api_Peer := ⟨T_api_End.d, false, (0 : Int), T_api_Score.d, (0 : Int), (0 : Int)⟩

def T_api_Peer.c (a : T_api_Peer) : List C := [.lit (.bool a.fEnd.fAddr.fV6), .lit (.int .u64 a.fEnd.fAddr.fHi), .lit (.int .u64 a.fEnd.fAddr.fLo), .lit (.int .i64 a.fEnd.fPort), .lit (.bool a.fIn), .lit (.int .i64 a.fSince), .lit (.int .i64 a.fScore.fPoints), .lit (.int .i64 a.fScore.fAt), .lit (.int .i64 a.fPing), .lit (.int .i64 a.fWork)]

def T_api_Peer.E : Ec T_api_Peer := ⟨10, T_api_Peer.c, T_api_Peer.d⟩

def T_api_Peer.ok (a : T_api_Peer) : Prop := T_api_End.ok a.fEnd ∧ okB a.fIn ∧ (okI .i64) a.fSince ∧ T_api_Score.ok a.fScore ∧ (okI .i64) a.fPing ∧ (okI .i64) a.fWork ∧ True

theorem opn_T_api_Peer : Opn Try.prog 39 T_api_Peer.c T_api_Peer.ok := opn_struct (ea := (cP T_api_End.c (cP cB (cP (cI .i64) (cP T_api_Score.c (cP (cI .i64) (cP (cI .i64) cU))))))) (oa := (okP T_api_End.ok (okP okB (okP (okI .i64) (okP T_api_Score.ok (okP (okI .i64) (okP (okI .i64) okU))))))) (N := 10) Try.underlying39 (by kernel_rfl) (tail_cons (sz := 4) rfl rfl (by kernel_rfl) opn_T_api_End (tail_cons (sz := 1) rfl rfl (by kernel_rfl) (opn_bool Try.underlying4) (tail_cons (sz := 1) rfl rfl (by kernel_rfl) (opn_int Try.underlying3) (tail_cons (sz := 2) rfl rfl (by kernel_rfl) opn_T_api_Score (tail_cons (sz := 1) rfl rfl (by kernel_rfl) (opn_int Try.underlying3) (tail_cons (sz := 1) rfl rfl (by kernel_rfl) (opn_int Try.underlying3) tail_nil)))))) (fun (a : T_api_End × Bool × Int × T_api_Score × Int × Int × Unit) => (⟨a.1, a.2.1, a.2.2.1, a.2.2.2.1, a.2.2.2.2.1, a.2.2.2.2.2.1⟩ : T_api_Peer)) (fun _ => rfl) (fun _ h => h)

structure T_api_Net where
  fAddr : T_api_Addr
  fBits : Int
  deriving DecidableEq

def T_api_Net.d : T_api_Net := ⟨T_api_Addr.d, (0 : Int)⟩

def T_api_Net.c (a : T_api_Net) : List C := [.lit (.bool a.fAddr.fV6), .lit (.int .u64 a.fAddr.fHi), .lit (.int .u64 a.fAddr.fLo), .lit (.int .i64 a.fBits)]

def T_api_Net.E : Ec T_api_Net := ⟨4, T_api_Net.c, T_api_Net.d⟩

def T_api_Net.ok (a : T_api_Net) : Prop := T_api_Addr.ok a.fAddr ∧ (okI .i64) a.fBits ∧ True

theorem opn_T_api_Net : Opn Try.prog 93 T_api_Net.c T_api_Net.ok := opn_struct (ea := (cP T_api_Addr.c (cP (cI .i64) cU))) (oa := (okP T_api_Addr.ok (okP (okI .i64) okU))) (N := 4) Try.underlying93 (by kernel_rfl) (tail_cons (sz := 3) rfl rfl (by kernel_rfl) opn_T_api_Addr (tail_cons (sz := 1) rfl rfl (by kernel_rfl) (opn_int Try.underlying3) tail_nil)) (fun (a : T_api_Addr × Int × Unit) => (⟨a.1, a.2.1⟩ : T_api_Net)) (fun _ => rfl) (fun _ h => h)

structure T_api_Ban where
  fNet : T_api_Net
  fUntil : Int
  deriving DecidableEq

def T_api_Ban.d : T_api_Ban := ⟨T_api_Net.d, (0 : Int)⟩

def T_api_Ban.c (a : T_api_Ban) : List C := [.lit (.bool a.fNet.fAddr.fV6), .lit (.int .u64 a.fNet.fAddr.fHi), .lit (.int .u64 a.fNet.fAddr.fLo), .lit (.int .i64 a.fNet.fBits), .lit (.int .i64 a.fUntil)]

def T_api_Ban.E : Ec T_api_Ban := ⟨5, T_api_Ban.c, T_api_Ban.d⟩

def T_api_Ban.ok (a : T_api_Ban) : Prop := T_api_Net.ok a.fNet ∧ (okI .i64) a.fUntil ∧ True

theorem opn_T_api_Ban : Opn Try.prog 95 T_api_Ban.c T_api_Ban.ok := opn_struct (ea := (cP T_api_Net.c (cP (cI .i64) cU))) (oa := (okP T_api_Net.ok (okP (okI .i64) okU))) (N := 5) Try.underlying95 (by kernel_rfl) (tail_cons (sz := 4) rfl rfl (by kernel_rfl) opn_T_api_Net (tail_cons (sz := 1) rfl rfl (by kernel_rfl) (opn_int Try.underlying3) tail_nil)) (fun (a : T_api_Net × Int × Unit) => (⟨a.1, a.2.1⟩ : T_api_Ban)) (fun _ => rfl) (fun _ h => h)

structure T_api_Entry where
  fEnd : T_api_End
  fState : Int
  fFails : Int
  fNext : Int
  deriving DecidableEq

def T_api_Entry.d : T_api_Entry := ⟨T_api_End.d, (0 : Int), (0 : Int), (0 : Int)⟩

def T_api_Entry.c (a : T_api_Entry) : List C := [.lit (.bool a.fEnd.fAddr.fV6), .lit (.int .u64 a.fEnd.fAddr.fHi), .lit (.int .u64 a.fEnd.fAddr.fLo), .lit (.int .i64 a.fEnd.fPort), .lit (.int .i64 a.fState), .lit (.int .i64 a.fFails), .lit (.int .i64 a.fNext)]

def T_api_Entry.E : Ec T_api_Entry := ⟨7, T_api_Entry.c, T_api_Entry.d⟩

def T_api_Entry.ok (a : T_api_Entry) : Prop := T_api_End.ok a.fEnd ∧ (okI .i64) a.fState ∧ (okI .i64) a.fFails ∧ (okI .i64) a.fNext ∧ True

theorem opn_T_api_Entry : Opn Try.prog 97 T_api_Entry.c T_api_Entry.ok := opn_struct (ea := (cP T_api_End.c (cP (cI .i64) (cP (cI .i64) (cP (cI .i64) cU))))) (oa := (okP T_api_End.ok (okP (okI .i64) (okP (okI .i64) (okP (okI .i64) okU))))) (N := 7) Try.underlying97 (by kernel_rfl) (tail_cons (sz := 4) rfl rfl (by kernel_rfl) opn_T_api_End (tail_cons (sz := 1) rfl rfl (by kernel_rfl) (opn_int Try.underlying3) (tail_cons (sz := 1) rfl rfl (by kernel_rfl) (opn_int Try.underlying3) (tail_cons (sz := 1) rfl rfl (by kernel_rfl) (opn_int Try.underlying3) tail_nil)))) (fun (a : T_api_End × Int × Int × Int × Unit) => (⟨a.1, a.2.1, a.2.2.1, a.2.2.2.1⟩ : T_api_Entry)) (fun _ => rfl) (fun _ h => h)

structure T_api_Value where
  fN : Int
  fPeer : T_api_Peer
  fBans : (List T_api_Ban)
  fBook : (List T_api_Entry)

def T_api_Value.d : T_api_Value := ⟨(0 : Int), T_api_Peer.d, ([] : (List T_api_Ban)), ([] : (List T_api_Entry))⟩

def T_api_Value.c (a : T_api_Value) : List C := [.lit (.int .i64 a.fN), .lit (.bool a.fPeer.fEnd.fAddr.fV6), .lit (.int .u64 a.fPeer.fEnd.fAddr.fHi), .lit (.int .u64 a.fPeer.fEnd.fAddr.fLo), .lit (.int .i64 a.fPeer.fEnd.fPort), .lit (.bool a.fPeer.fIn), .lit (.int .i64 a.fPeer.fSince), .lit (.int .i64 a.fPeer.fScore.fPoints), .lit (.int .i64 a.fPeer.fScore.fAt), .lit (.int .i64 a.fPeer.fPing), .lit (.int .i64 a.fPeer.fWork), cL 5 T_api_Ban.c T_api_Ban.d a.fBans, cL 7 T_api_Entry.c T_api_Entry.d a.fBook]

def T_api_Value.E : Ec T_api_Value := ⟨13, T_api_Value.c, T_api_Value.d⟩

def T_api_Value.ok (a : T_api_Value) : Prop := (okI .i64) a.fN ∧ T_api_Peer.ok a.fPeer ∧ (okL T_api_Ban.ok) a.fBans ∧ (okL T_api_Entry.ok) a.fBook ∧ True

theorem opn_T_api_Value : Opn Try.prog 43 T_api_Value.c T_api_Value.ok := opn_struct (ea := (cP (cI .i64) (cP T_api_Peer.c (cP (cLs 5 T_api_Ban.c T_api_Ban.d) (cP (cLs 7 T_api_Entry.c T_api_Entry.d) cU))))) (oa := (okP (okI .i64) (okP T_api_Peer.ok (okP (okL T_api_Ban.ok) (okP (okL T_api_Entry.ok) okU))))) (N := 13) Try.underlying43 (by kernel_rfl) (tail_cons (sz := 1) rfl rfl (by kernel_rfl) (opn_int Try.underlying3) (tail_cons (sz := 10) rfl rfl (by kernel_rfl) opn_T_api_Peer (tail_cons (sz := 1) rfl rfl (by kernel_rfl) (opn_slice (d := T_api_Ban.d) Try.underlying40 (by kernel_rfl) (by decide) (fun _ => rfl) opn_T_api_Ban) (tail_cons (sz := 1) rfl rfl (by kernel_rfl) (opn_slice (d := T_api_Entry.d) Try.underlying41 (by kernel_rfl) (by decide) (fun _ => rfl) opn_T_api_Entry) tail_nil)))) (fun (a : Int × T_api_Peer × (List T_api_Ban) × (List T_api_Entry) × Unit) => (⟨a.1, a.2.1, a.2.2.1, a.2.2.2.1⟩ : T_api_Value)) (fun _ => rfl) (fun _ h => h)

structure T_api_Op where
  fKind : Int
  fLock : Int
  fLoc : T_api_Loc
  fOld : Int
  fNew : Int
  fVal : T_api_Value
  fMark : Bool

def T_api_Op.d : T_api_Op := ⟨(0 : Int), (0 : Int), T_api_Loc.d, (0 : Int), (0 : Int), T_api_Value.d, false⟩

def T_api_Op.c (a : T_api_Op) : List C := [.lit (.int .i64 a.fKind), .lit (.int .i64 a.fLock), .lit (.int .i64 a.fLoc.fKind), .lit (.int .i64 a.fLoc.fShard), .lit (.int .i64 a.fLoc.fSlot), .lit (.int .i64 a.fOld), .lit (.int .i64 a.fNew), .lit (.int .i64 a.fVal.fN), .lit (.bool a.fVal.fPeer.fEnd.fAddr.fV6), .lit (.int .u64 a.fVal.fPeer.fEnd.fAddr.fHi), .lit (.int .u64 a.fVal.fPeer.fEnd.fAddr.fLo), .lit (.int .i64 a.fVal.fPeer.fEnd.fPort), .lit (.bool a.fVal.fPeer.fIn), .lit (.int .i64 a.fVal.fPeer.fSince), .lit (.int .i64 a.fVal.fPeer.fScore.fPoints), .lit (.int .i64 a.fVal.fPeer.fScore.fAt), .lit (.int .i64 a.fVal.fPeer.fPing), .lit (.int .i64 a.fVal.fPeer.fWork), cL 5 T_api_Ban.c T_api_Ban.d a.fVal.fBans, cL 7 T_api_Entry.c T_api_Entry.d a.fVal.fBook, .lit (.bool a.fMark)]

def T_api_Op.E : Ec T_api_Op := ⟨21, T_api_Op.c, T_api_Op.d⟩

def T_api_Op.ok (a : T_api_Op) : Prop := (okI .i64) a.fKind ∧ (okI .i64) a.fLock ∧ T_api_Loc.ok a.fLoc ∧ (okI .i64) a.fOld ∧ (okI .i64) a.fNew ∧ T_api_Value.ok a.fVal ∧ okB a.fMark ∧ True

theorem opn_T_api_Op : Opn Try.prog 45 T_api_Op.c T_api_Op.ok := opn_struct (ea := (cP (cI .i64) (cP (cI .i64) (cP T_api_Loc.c (cP (cI .i64) (cP (cI .i64) (cP T_api_Value.c (cP cB cU)))))))) (oa := (okP (okI .i64) (okP (okI .i64) (okP T_api_Loc.ok (okP (okI .i64) (okP (okI .i64) (okP T_api_Value.ok (okP okB okU)))))))) (N := 21) Try.underlying45 (by kernel_rfl) (tail_cons (sz := 1) rfl rfl (by kernel_rfl) (opn_int Try.underlying3) (tail_cons (sz := 1) rfl rfl (by kernel_rfl) (opn_int Try.underlying3) (tail_cons (sz := 3) rfl rfl (by kernel_rfl) opn_T_api_Loc (tail_cons (sz := 1) rfl rfl (by kernel_rfl) (opn_int Try.underlying3) (tail_cons (sz := 1) rfl rfl (by kernel_rfl) (opn_int Try.underlying3) (tail_cons (sz := 13) rfl rfl (by kernel_rfl) opn_T_api_Value (tail_cons (sz := 1) rfl rfl (by kernel_rfl) (opn_bool Try.underlying4) tail_nil))))))) (fun (a : Int × Int × T_api_Loc × Int × Int × T_api_Value × Bool × Unit) => (⟨a.1, a.2.1, a.2.2.1, a.2.2.2.1, a.2.2.2.2.1, a.2.2.2.2.2.1, a.2.2.2.2.2.2.1⟩ : T_api_Op)) (fun _ => rfl) (fun _ h => h)

structure T_api_Step where
  fWho : Int
  fNth : Int
  fOp : T_api_Op
  fGot : T_api_Value
  fLast : Bool

def T_api_Step.d : T_api_Step := ⟨(0 : Int), (0 : Int), T_api_Op.d, T_api_Value.d, false⟩

def T_api_Step.c (a : T_api_Step) : List C := [.lit (.int .i64 a.fWho), .lit (.int .i64 a.fNth), .lit (.int .i64 a.fOp.fKind), .lit (.int .i64 a.fOp.fLock), .lit (.int .i64 a.fOp.fLoc.fKind), .lit (.int .i64 a.fOp.fLoc.fShard), .lit (.int .i64 a.fOp.fLoc.fSlot), .lit (.int .i64 a.fOp.fOld), .lit (.int .i64 a.fOp.fNew), .lit (.int .i64 a.fOp.fVal.fN), .lit (.bool a.fOp.fVal.fPeer.fEnd.fAddr.fV6), .lit (.int .u64 a.fOp.fVal.fPeer.fEnd.fAddr.fHi), .lit (.int .u64 a.fOp.fVal.fPeer.fEnd.fAddr.fLo), .lit (.int .i64 a.fOp.fVal.fPeer.fEnd.fPort), .lit (.bool a.fOp.fVal.fPeer.fIn), .lit (.int .i64 a.fOp.fVal.fPeer.fSince), .lit (.int .i64 a.fOp.fVal.fPeer.fScore.fPoints), .lit (.int .i64 a.fOp.fVal.fPeer.fScore.fAt), .lit (.int .i64 a.fOp.fVal.fPeer.fPing), .lit (.int .i64 a.fOp.fVal.fPeer.fWork), cL 5 T_api_Ban.c T_api_Ban.d a.fOp.fVal.fBans, cL 7 T_api_Entry.c T_api_Entry.d a.fOp.fVal.fBook, .lit (.bool a.fOp.fMark), .lit (.int .i64 a.fGot.fN), .lit (.bool a.fGot.fPeer.fEnd.fAddr.fV6), .lit (.int .u64 a.fGot.fPeer.fEnd.fAddr.fHi), .lit (.int .u64 a.fGot.fPeer.fEnd.fAddr.fLo), .lit (.int .i64 a.fGot.fPeer.fEnd.fPort), .lit (.bool a.fGot.fPeer.fIn), .lit (.int .i64 a.fGot.fPeer.fSince), .lit (.int .i64 a.fGot.fPeer.fScore.fPoints), .lit (.int .i64 a.fGot.fPeer.fScore.fAt), .lit (.int .i64 a.fGot.fPeer.fPing), .lit (.int .i64 a.fGot.fPeer.fWork), cL 5 T_api_Ban.c T_api_Ban.d a.fGot.fBans, cL 7 T_api_Entry.c T_api_Entry.d a.fGot.fBook, .lit (.bool a.fLast)]

def T_api_Step.E : Ec T_api_Step := ⟨37, T_api_Step.c, T_api_Step.d⟩

def T_api_Step.ok (a : T_api_Step) : Prop := (okI .i64) a.fWho ∧ (okI .i64) a.fNth ∧ T_api_Op.ok a.fOp ∧ T_api_Value.ok a.fGot ∧ okB a.fLast ∧ True

theorem opn_T_api_Step : Opn Try.prog 47 T_api_Step.c T_api_Step.ok := opn_struct (ea := (cP (cI .i64) (cP (cI .i64) (cP T_api_Op.c (cP T_api_Value.c (cP cB cU)))))) (oa := (okP (okI .i64) (okP (okI .i64) (okP T_api_Op.ok (okP T_api_Value.ok (okP okB okU)))))) (N := 37) Try.underlying47 (by kernel_rfl) (tail_cons (sz := 1) rfl rfl (by kernel_rfl) (opn_int Try.underlying3) (tail_cons (sz := 1) rfl rfl (by kernel_rfl) (opn_int Try.underlying3) (tail_cons (sz := 21) rfl rfl (by kernel_rfl) opn_T_api_Op (tail_cons (sz := 13) rfl rfl (by kernel_rfl) opn_T_api_Value (tail_cons (sz := 1) rfl rfl (by kernel_rfl) (opn_bool Try.underlying4) tail_nil))))) (fun (a : Int × Int × T_api_Op × T_api_Value × Bool × Unit) => (⟨a.1, a.2.1, a.2.2.1, a.2.2.2.1, a.2.2.2.2.1⟩ : T_api_Step)) (fun _ => rfl) (fun _ h => h)

structure S_struct_Who_int_Nth_int_Op_api_Op_Got_api_46 where
  fWho : Int
  fNth : Int
  fOp : T_api_Op
  fGot : T_api_Value
  fLast : Bool

def S_struct_Who_int_Nth_int_Op_api_Op_Got_api_46.d : S_struct_Who_int_Nth_int_Op_api_Op_Got_api_46 := ⟨(0 : Int), (0 : Int), T_api_Op.d, T_api_Value.d, false⟩

def S_struct_Who_int_Nth_int_Op_api_Op_Got_api_46.c (a : S_struct_Who_int_Nth_int_Op_api_Op_Got_api_46) : List C := [.lit (.int .i64 a.fWho), .lit (.int .i64 a.fNth), .lit (.int .i64 a.fOp.fKind), .lit (.int .i64 a.fOp.fLock), .lit (.int .i64 a.fOp.fLoc.fKind), .lit (.int .i64 a.fOp.fLoc.fShard), .lit (.int .i64 a.fOp.fLoc.fSlot), .lit (.int .i64 a.fOp.fOld), .lit (.int .i64 a.fOp.fNew), .lit (.int .i64 a.fOp.fVal.fN), .lit (.bool a.fOp.fVal.fPeer.fEnd.fAddr.fV6), .lit (.int .u64 a.fOp.fVal.fPeer.fEnd.fAddr.fHi), .lit (.int .u64 a.fOp.fVal.fPeer.fEnd.fAddr.fLo), .lit (.int .i64 a.fOp.fVal.fPeer.fEnd.fPort), .lit (.bool a.fOp.fVal.fPeer.fIn), .lit (.int .i64 a.fOp.fVal.fPeer.fSince), .lit (.int .i64 a.fOp.fVal.fPeer.fScore.fPoints), .lit (.int .i64 a.fOp.fVal.fPeer.fScore.fAt), .lit (.int .i64 a.fOp.fVal.fPeer.fPing), .lit (.int .i64 a.fOp.fVal.fPeer.fWork), cL 5 T_api_Ban.c T_api_Ban.d a.fOp.fVal.fBans, cL 7 T_api_Entry.c T_api_Entry.d a.fOp.fVal.fBook, .lit (.bool a.fOp.fMark), .lit (.int .i64 a.fGot.fN), .lit (.bool a.fGot.fPeer.fEnd.fAddr.fV6), .lit (.int .u64 a.fGot.fPeer.fEnd.fAddr.fHi), .lit (.int .u64 a.fGot.fPeer.fEnd.fAddr.fLo), .lit (.int .i64 a.fGot.fPeer.fEnd.fPort), .lit (.bool a.fGot.fPeer.fIn), .lit (.int .i64 a.fGot.fPeer.fSince), .lit (.int .i64 a.fGot.fPeer.fScore.fPoints), .lit (.int .i64 a.fGot.fPeer.fScore.fAt), .lit (.int .i64 a.fGot.fPeer.fPing), .lit (.int .i64 a.fGot.fPeer.fWork), cL 5 T_api_Ban.c T_api_Ban.d a.fGot.fBans, cL 7 T_api_Entry.c T_api_Entry.d a.fGot.fBook, .lit (.bool a.fLast)]

def S_struct_Who_int_Nth_int_Op_api_Op_Got_api_46.E : Ec S_struct_Who_int_Nth_int_Op_api_Op_Got_api_46 := ⟨37, S_struct_Who_int_Nth_int_Op_api_Op_Got_api_46.c, S_struct_Who_int_Nth_int_Op_api_Op_Got_api_46.d⟩

def S_struct_Who_int_Nth_int_Op_api_Op_Got_api_46.ok (a : S_struct_Who_int_Nth_int_Op_api_Op_Got_api_46) : Prop := (okI .i64) a.fWho ∧ (okI .i64) a.fNth ∧ T_api_Op.ok a.fOp ∧ T_api_Value.ok a.fGot ∧ okB a.fLast ∧ True

theorem opn_S_struct_Who_int_Nth_int_Op_api_Op_Got_api_46 : Opn Try.prog 46 S_struct_Who_int_Nth_int_Op_api_Op_Got_api_46.c S_struct_Who_int_Nth_int_Op_api_Op_Got_api_46.ok := opn_struct (ea := (cP (cI .i64) (cP (cI .i64) (cP T_api_Op.c (cP T_api_Value.c (cP cB cU)))))) (oa := (okP (okI .i64) (okP (okI .i64) (okP T_api_Op.ok (okP T_api_Value.ok (okP okB okU)))))) (N := 37) Try.underlying46 (by kernel_rfl) (tail_cons (sz := 1) rfl rfl (by kernel_rfl) (opn_int Try.underlying3) (tail_cons (sz := 1) rfl rfl (by kernel_rfl) (opn_int Try.underlying3) (tail_cons (sz := 21) rfl rfl (by kernel_rfl) opn_T_api_Op (tail_cons (sz := 13) rfl rfl (by kernel_rfl) opn_T_api_Value (tail_cons (sz := 1) rfl rfl (by kernel_rfl) (opn_bool Try.underlying4) tail_nil))))) (fun (a : Int × Int × T_api_Op × T_api_Value × Bool × Unit) => (⟨a.1, a.2.1, a.2.2.1, a.2.2.2.1, a.2.2.2.2.1⟩ : S_struct_Who_int_Nth_int_Op_api_Op_Got_api_46)) (fun _ => rfl) (fun _ h => h)

structure S_struct_Kind_int_Lock_int_Loc_api_Loc_Old_44 where
  fKind : Int
  fLock : Int
  fLoc : T_api_Loc
  fOld : Int
  fNew : Int
  fVal : T_api_Value
  fMark : Bool

def S_struct_Kind_int_Lock_int_Loc_api_Loc_Old_44.d : S_struct_Kind_int_Lock_int_Loc_api_Loc_Old_44 := ⟨(0 : Int), (0 : Int), T_api_Loc.d, (0 : Int), (0 : Int), T_api_Value.d, false⟩

def S_struct_Kind_int_Lock_int_Loc_api_Loc_Old_44.c (a : S_struct_Kind_int_Lock_int_Loc_api_Loc_Old_44) : List C := [.lit (.int .i64 a.fKind), .lit (.int .i64 a.fLock), .lit (.int .i64 a.fLoc.fKind), .lit (.int .i64 a.fLoc.fShard), .lit (.int .i64 a.fLoc.fSlot), .lit (.int .i64 a.fOld), .lit (.int .i64 a.fNew), .lit (.int .i64 a.fVal.fN), .lit (.bool a.fVal.fPeer.fEnd.fAddr.fV6), .lit (.int .u64 a.fVal.fPeer.fEnd.fAddr.fHi), .lit (.int .u64 a.fVal.fPeer.fEnd.fAddr.fLo), .lit (.int .i64 a.fVal.fPeer.fEnd.fPort), .lit (.bool a.fVal.fPeer.fIn), .lit (.int .i64 a.fVal.fPeer.fSince), .lit (.int .i64 a.fVal.fPeer.fScore.fPoints), .lit (.int .i64 a.fVal.fPeer.fScore.fAt), .lit (.int .i64 a.fVal.fPeer.fPing), .lit (.int .i64 a.fVal.fPeer.fWork), cL 5 T_api_Ban.c T_api_Ban.d a.fVal.fBans, cL 7 T_api_Entry.c T_api_Entry.d a.fVal.fBook, .lit (.bool a.fMark)]

def S_struct_Kind_int_Lock_int_Loc_api_Loc_Old_44.E : Ec S_struct_Kind_int_Lock_int_Loc_api_Loc_Old_44 := ⟨21, S_struct_Kind_int_Lock_int_Loc_api_Loc_Old_44.c, S_struct_Kind_int_Lock_int_Loc_api_Loc_Old_44.d⟩

def S_struct_Kind_int_Lock_int_Loc_api_Loc_Old_44.ok (a : S_struct_Kind_int_Lock_int_Loc_api_Loc_Old_44) : Prop := (okI .i64) a.fKind ∧ (okI .i64) a.fLock ∧ T_api_Loc.ok a.fLoc ∧ (okI .i64) a.fOld ∧ (okI .i64) a.fNew ∧ T_api_Value.ok a.fVal ∧ okB a.fMark ∧ True

theorem opn_S_struct_Kind_int_Lock_int_Loc_api_Loc_Old_44 : Opn Try.prog 44 S_struct_Kind_int_Lock_int_Loc_api_Loc_Old_44.c S_struct_Kind_int_Lock_int_Loc_api_Loc_Old_44.ok := opn_struct (ea := (cP (cI .i64) (cP (cI .i64) (cP T_api_Loc.c (cP (cI .i64) (cP (cI .i64) (cP T_api_Value.c (cP cB cU)))))))) (oa := (okP (okI .i64) (okP (okI .i64) (okP T_api_Loc.ok (okP (okI .i64) (okP (okI .i64) (okP T_api_Value.ok (okP okB okU)))))))) (N := 21) Try.underlying44 (by kernel_rfl) (tail_cons (sz := 1) rfl rfl (by kernel_rfl) (opn_int Try.underlying3) (tail_cons (sz := 1) rfl rfl (by kernel_rfl) (opn_int Try.underlying3) (tail_cons (sz := 3) rfl rfl (by kernel_rfl) opn_T_api_Loc (tail_cons (sz := 1) rfl rfl (by kernel_rfl) (opn_int Try.underlying3) (tail_cons (sz := 1) rfl rfl (by kernel_rfl) (opn_int Try.underlying3) (tail_cons (sz := 13) rfl rfl (by kernel_rfl) opn_T_api_Value (tail_cons (sz := 1) rfl rfl (by kernel_rfl) (opn_bool Try.underlying4) tail_nil))))))) (fun (a : Int × Int × T_api_Loc × Int × Int × T_api_Value × Bool × Unit) => (⟨a.1, a.2.1, a.2.2.1, a.2.2.2.1, a.2.2.2.2.1, a.2.2.2.2.2.1, a.2.2.2.2.2.2.1⟩ : S_struct_Kind_int_Lock_int_Loc_api_Loc_Old_44)) (fun _ => rfl) (fun _ h => h)

structure S_struct_Kind_int_Shard_int_Slot_int__29 where
  fKind : Int
  fShard : Int
  fSlot : Int
  deriving DecidableEq

def S_struct_Kind_int_Shard_int_Slot_int__29.d : S_struct_Kind_int_Shard_int_Slot_int__29 := ⟨(0 : Int), (0 : Int), (0 : Int)⟩

def S_struct_Kind_int_Shard_int_Slot_int__29.c (a : S_struct_Kind_int_Shard_int_Slot_int__29) : List C := [.lit (.int .i64 a.fKind), .lit (.int .i64 a.fShard), .lit (.int .i64 a.fSlot)]

def S_struct_Kind_int_Shard_int_Slot_int__29.E : Ec S_struct_Kind_int_Shard_int_Slot_int__29 := ⟨3, S_struct_Kind_int_Shard_int_Slot_int__29.c, S_struct_Kind_int_Shard_int_Slot_int__29.d⟩

def S_struct_Kind_int_Shard_int_Slot_int__29.ok (a : S_struct_Kind_int_Shard_int_Slot_int__29) : Prop := (okI .i64) a.fKind ∧ (okI .i64) a.fShard ∧ (okI .i64) a.fSlot ∧ True

theorem opn_S_struct_Kind_int_Shard_int_Slot_int__29 : Opn Try.prog 29 S_struct_Kind_int_Shard_int_Slot_int__29.c S_struct_Kind_int_Shard_int_Slot_int__29.ok := opn_struct (ea := (cP (cI .i64) (cP (cI .i64) (cP (cI .i64) cU)))) (oa := (okP (okI .i64) (okP (okI .i64) (okP (okI .i64) okU)))) (N := 3) Try.underlying29 (by kernel_rfl) (tail_cons (sz := 1) rfl rfl (by kernel_rfl) (opn_int Try.underlying3) (tail_cons (sz := 1) rfl rfl (by kernel_rfl) (opn_int Try.underlying3) (tail_cons (sz := 1) rfl rfl (by kernel_rfl) (opn_int Try.underlying3) tail_nil))) (fun (a : Int × Int × Int × Unit) => (⟨a.1, a.2.1, a.2.2.1⟩ : S_struct_Kind_int_Shard_int_Slot_int__29)) (fun _ => rfl) (fun _ h => h)

structure S_struct_N_int_Peer_api_Peer_Bans_api_Ban__42 where
  fN : Int
  fPeer : T_api_Peer
  fBans : (List T_api_Ban)
  fBook : (List T_api_Entry)

def S_struct_N_int_Peer_api_Peer_Bans_api_Ban__42.d : S_struct_N_int_Peer_api_Peer_Bans_api_Ban__42 := ⟨(0 : Int), T_api_Peer.d, ([] : (List T_api_Ban)), ([] : (List T_api_Entry))⟩

def S_struct_N_int_Peer_api_Peer_Bans_api_Ban__42.c (a : S_struct_N_int_Peer_api_Peer_Bans_api_Ban__42) : List C := [.lit (.int .i64 a.fN), .lit (.bool a.fPeer.fEnd.fAddr.fV6), .lit (.int .u64 a.fPeer.fEnd.fAddr.fHi), .lit (.int .u64 a.fPeer.fEnd.fAddr.fLo), .lit (.int .i64 a.fPeer.fEnd.fPort), .lit (.bool a.fPeer.fIn), .lit (.int .i64 a.fPeer.fSince), .lit (.int .i64 a.fPeer.fScore.fPoints), .lit (.int .i64 a.fPeer.fScore.fAt), .lit (.int .i64 a.fPeer.fPing), .lit (.int .i64 a.fPeer.fWork), cL 5 T_api_Ban.c T_api_Ban.d a.fBans, cL 7 T_api_Entry.c T_api_Entry.d a.fBook]

def S_struct_N_int_Peer_api_Peer_Bans_api_Ban__42.E : Ec S_struct_N_int_Peer_api_Peer_Bans_api_Ban__42 := ⟨13, S_struct_N_int_Peer_api_Peer_Bans_api_Ban__42.c, S_struct_N_int_Peer_api_Peer_Bans_api_Ban__42.d⟩

def S_struct_N_int_Peer_api_Peer_Bans_api_Ban__42.ok (a : S_struct_N_int_Peer_api_Peer_Bans_api_Ban__42) : Prop := (okI .i64) a.fN ∧ T_api_Peer.ok a.fPeer ∧ (okL T_api_Ban.ok) a.fBans ∧ (okL T_api_Entry.ok) a.fBook ∧ True

theorem opn_S_struct_N_int_Peer_api_Peer_Bans_api_Ban__42 : Opn Try.prog 42 S_struct_N_int_Peer_api_Peer_Bans_api_Ban__42.c S_struct_N_int_Peer_api_Peer_Bans_api_Ban__42.ok := opn_struct (ea := (cP (cI .i64) (cP T_api_Peer.c (cP (cLs 5 T_api_Ban.c T_api_Ban.d) (cP (cLs 7 T_api_Entry.c T_api_Entry.d) cU))))) (oa := (okP (okI .i64) (okP T_api_Peer.ok (okP (okL T_api_Ban.ok) (okP (okL T_api_Entry.ok) okU))))) (N := 13) Try.underlying42 (by kernel_rfl) (tail_cons (sz := 1) rfl rfl (by kernel_rfl) (opn_int Try.underlying3) (tail_cons (sz := 10) rfl rfl (by kernel_rfl) opn_T_api_Peer (tail_cons (sz := 1) rfl rfl (by kernel_rfl) (opn_slice (d := T_api_Ban.d) Try.underlying40 (by kernel_rfl) (by decide) (fun _ => rfl) opn_T_api_Ban) (tail_cons (sz := 1) rfl rfl (by kernel_rfl) (opn_slice (d := T_api_Entry.d) Try.underlying41 (by kernel_rfl) (by decide) (fun _ => rfl) opn_T_api_Entry) tail_nil)))) (fun (a : Int × T_api_Peer × (List T_api_Ban) × (List T_api_Entry) × Unit) => (⟨a.1, a.2.1, a.2.2.1, a.2.2.2.1⟩ : S_struct_N_int_Peer_api_Peer_Bans_api_Ban__42)) (fun _ => rfl) (fun _ h => h)

structure S_struct_End_api_End_In_bool_Since_int_Sco_38 where
  fEnd : T_api_End
  fIn : Bool
  fSince : Int
  fScore : T_api_Score
  fPing : Int
  fWork : Int
  deriving DecidableEq

def S_struct_End_api_End_In_bool_Since_int_Sco_38.d : S_struct_End_api_End_In_bool_Since_int_Sco_38 := ⟨T_api_End.d, false, (0 : Int), T_api_Score.d, (0 : Int), (0 : Int)⟩

def S_struct_End_api_End_In_bool_Since_int_Sco_38.c (a : S_struct_End_api_End_In_bool_Since_int_Sco_38) : List C := [.lit (.bool a.fEnd.fAddr.fV6), .lit (.int .u64 a.fEnd.fAddr.fHi), .lit (.int .u64 a.fEnd.fAddr.fLo), .lit (.int .i64 a.fEnd.fPort), .lit (.bool a.fIn), .lit (.int .i64 a.fSince), .lit (.int .i64 a.fScore.fPoints), .lit (.int .i64 a.fScore.fAt), .lit (.int .i64 a.fPing), .lit (.int .i64 a.fWork)]

def S_struct_End_api_End_In_bool_Since_int_Sco_38.E : Ec S_struct_End_api_End_In_bool_Since_int_Sco_38 := ⟨10, S_struct_End_api_End_In_bool_Since_int_Sco_38.c, S_struct_End_api_End_In_bool_Since_int_Sco_38.d⟩

def S_struct_End_api_End_In_bool_Since_int_Sco_38.ok (a : S_struct_End_api_End_In_bool_Since_int_Sco_38) : Prop := T_api_End.ok a.fEnd ∧ okB a.fIn ∧ (okI .i64) a.fSince ∧ T_api_Score.ok a.fScore ∧ (okI .i64) a.fPing ∧ (okI .i64) a.fWork ∧ True

theorem opn_S_struct_End_api_End_In_bool_Since_int_Sco_38 : Opn Try.prog 38 S_struct_End_api_End_In_bool_Since_int_Sco_38.c S_struct_End_api_End_In_bool_Since_int_Sco_38.ok := opn_struct (ea := (cP T_api_End.c (cP cB (cP (cI .i64) (cP T_api_Score.c (cP (cI .i64) (cP (cI .i64) cU))))))) (oa := (okP T_api_End.ok (okP okB (okP (okI .i64) (okP T_api_Score.ok (okP (okI .i64) (okP (okI .i64) okU))))))) (N := 10) Try.underlying38 (by kernel_rfl) (tail_cons (sz := 4) rfl rfl (by kernel_rfl) opn_T_api_End (tail_cons (sz := 1) rfl rfl (by kernel_rfl) (opn_bool Try.underlying4) (tail_cons (sz := 1) rfl rfl (by kernel_rfl) (opn_int Try.underlying3) (tail_cons (sz := 2) rfl rfl (by kernel_rfl) opn_T_api_Score (tail_cons (sz := 1) rfl rfl (by kernel_rfl) (opn_int Try.underlying3) (tail_cons (sz := 1) rfl rfl (by kernel_rfl) (opn_int Try.underlying3) tail_nil)))))) (fun (a : T_api_End × Bool × Int × T_api_Score × Int × Int × Unit) => (⟨a.1, a.2.1, a.2.2.1, a.2.2.2.1, a.2.2.2.2.1, a.2.2.2.2.2.1⟩ : S_struct_End_api_End_In_bool_Since_int_Sco_38)) (fun _ => rfl) (fun _ h => h)

structure S_struct_Addr_api_Addr_Port_int__34 where
  fAddr : T_api_Addr
  fPort : Int
  deriving DecidableEq

def S_struct_Addr_api_Addr_Port_int__34.d : S_struct_Addr_api_Addr_Port_int__34 := ⟨T_api_Addr.d, (0 : Int)⟩

def S_struct_Addr_api_Addr_Port_int__34.c (a : S_struct_Addr_api_Addr_Port_int__34) : List C := [.lit (.bool a.fAddr.fV6), .lit (.int .u64 a.fAddr.fHi), .lit (.int .u64 a.fAddr.fLo), .lit (.int .i64 a.fPort)]

def S_struct_Addr_api_Addr_Port_int__34.E : Ec S_struct_Addr_api_Addr_Port_int__34 := ⟨4, S_struct_Addr_api_Addr_Port_int__34.c, S_struct_Addr_api_Addr_Port_int__34.d⟩

def S_struct_Addr_api_Addr_Port_int__34.ok (a : S_struct_Addr_api_Addr_Port_int__34) : Prop := T_api_Addr.ok a.fAddr ∧ (okI .i64) a.fPort ∧ True

theorem opn_S_struct_Addr_api_Addr_Port_int__34 : Opn Try.prog 34 S_struct_Addr_api_Addr_Port_int__34.c S_struct_Addr_api_Addr_Port_int__34.ok := opn_struct (ea := (cP T_api_Addr.c (cP (cI .i64) cU))) (oa := (okP T_api_Addr.ok (okP (okI .i64) okU))) (N := 4) Try.underlying34 (by kernel_rfl) (tail_cons (sz := 3) rfl rfl (by kernel_rfl) opn_T_api_Addr (tail_cons (sz := 1) rfl rfl (by kernel_rfl) (opn_int Try.underlying3) tail_nil)) (fun (a : T_api_Addr × Int × Unit) => (⟨a.1, a.2.1⟩ : S_struct_Addr_api_Addr_Port_int__34)) (fun _ => rfl) (fun _ h => h)

structure S_struct_V6_bool_Hi_uint64_Lo_uint64__32 where
  fV6 : Bool
  fHi : Int
  fLo : Int
  deriving DecidableEq

def S_struct_V6_bool_Hi_uint64_Lo_uint64__32.d : S_struct_V6_bool_Hi_uint64_Lo_uint64__32 := ⟨false, (0 : Int), (0 : Int)⟩

def S_struct_V6_bool_Hi_uint64_Lo_uint64__32.c (a : S_struct_V6_bool_Hi_uint64_Lo_uint64__32) : List C := [.lit (.bool a.fV6), .lit (.int .u64 a.fHi), .lit (.int .u64 a.fLo)]

def S_struct_V6_bool_Hi_uint64_Lo_uint64__32.E : Ec S_struct_V6_bool_Hi_uint64_Lo_uint64__32 := ⟨3, S_struct_V6_bool_Hi_uint64_Lo_uint64__32.c, S_struct_V6_bool_Hi_uint64_Lo_uint64__32.d⟩

def S_struct_V6_bool_Hi_uint64_Lo_uint64__32.ok (a : S_struct_V6_bool_Hi_uint64_Lo_uint64__32) : Prop := okB a.fV6 ∧ (okI .u64) a.fHi ∧ (okI .u64) a.fLo ∧ True

theorem opn_S_struct_V6_bool_Hi_uint64_Lo_uint64__32 : Opn Try.prog 32 S_struct_V6_bool_Hi_uint64_Lo_uint64__32.c S_struct_V6_bool_Hi_uint64_Lo_uint64__32.ok := opn_struct (ea := (cP cB (cP (cI .u64) (cP (cI .u64) cU)))) (oa := (okP okB (okP (okI .u64) (okP (okI .u64) okU)))) (N := 3) Try.underlying32 (by kernel_rfl) (tail_cons (sz := 1) rfl rfl (by kernel_rfl) (opn_bool Try.underlying4) (tail_cons (sz := 1) rfl rfl (by kernel_rfl) (opn_int Try.underlying31) (tail_cons (sz := 1) rfl rfl (by kernel_rfl) (opn_int Try.underlying31) tail_nil))) (fun (a : Bool × Int × Int × Unit) => (⟨a.1, a.2.1, a.2.2.1⟩ : S_struct_V6_bool_Hi_uint64_Lo_uint64__32)) (fun _ => rfl) (fun _ h => h)

structure S_struct_Points_int_At_int__36 where
  fPoints : Int
  fAt : Int
  deriving DecidableEq

def S_struct_Points_int_At_int__36.d : S_struct_Points_int_At_int__36 := ⟨(0 : Int), (0 : Int)⟩

def S_struct_Points_int_At_int__36.c (a : S_struct_Points_int_At_int__36) : List C := [.lit (.int .i64 a.fPoints), .lit (.int .i64 a.fAt)]

def S_struct_Points_int_At_int__36.E : Ec S_struct_Points_int_At_int__36 := ⟨2, S_struct_Points_int_At_int__36.c, S_struct_Points_int_At_int__36.d⟩

def S_struct_Points_int_At_int__36.ok (a : S_struct_Points_int_At_int__36) : Prop := (okI .i64) a.fPoints ∧ (okI .i64) a.fAt ∧ True

theorem opn_S_struct_Points_int_At_int__36 : Opn Try.prog 36 S_struct_Points_int_At_int__36.c S_struct_Points_int_At_int__36.ok := opn_struct (ea := (cP (cI .i64) (cP (cI .i64) cU))) (oa := (okP (okI .i64) (okP (okI .i64) okU))) (N := 2) Try.underlying36 (by kernel_rfl) (tail_cons (sz := 1) rfl rfl (by kernel_rfl) (opn_int Try.underlying3) (tail_cons (sz := 1) rfl rfl (by kernel_rfl) (opn_int Try.underlying3) tail_nil)) (fun (a : Int × Int × Unit) => (⟨a.1, a.2.1⟩ : S_struct_Points_int_At_int__36)) (fun _ => rfl) (fun _ h => h)

structure S_struct_Net_api_Net_Until_int__94 where
  fNet : T_api_Net
  fUntil : Int
  deriving DecidableEq

def S_struct_Net_api_Net_Until_int__94.d : S_struct_Net_api_Net_Until_int__94 := ⟨T_api_Net.d, (0 : Int)⟩

def S_struct_Net_api_Net_Until_int__94.c (a : S_struct_Net_api_Net_Until_int__94) : List C := [.lit (.bool a.fNet.fAddr.fV6), .lit (.int .u64 a.fNet.fAddr.fHi), .lit (.int .u64 a.fNet.fAddr.fLo), .lit (.int .i64 a.fNet.fBits), .lit (.int .i64 a.fUntil)]

def S_struct_Net_api_Net_Until_int__94.E : Ec S_struct_Net_api_Net_Until_int__94 := ⟨5, S_struct_Net_api_Net_Until_int__94.c, S_struct_Net_api_Net_Until_int__94.d⟩

def S_struct_Net_api_Net_Until_int__94.ok (a : S_struct_Net_api_Net_Until_int__94) : Prop := T_api_Net.ok a.fNet ∧ (okI .i64) a.fUntil ∧ True

theorem opn_S_struct_Net_api_Net_Until_int__94 : Opn Try.prog 94 S_struct_Net_api_Net_Until_int__94.c S_struct_Net_api_Net_Until_int__94.ok := opn_struct (ea := (cP T_api_Net.c (cP (cI .i64) cU))) (oa := (okP T_api_Net.ok (okP (okI .i64) okU))) (N := 5) Try.underlying94 (by kernel_rfl) (tail_cons (sz := 4) rfl rfl (by kernel_rfl) opn_T_api_Net (tail_cons (sz := 1) rfl rfl (by kernel_rfl) (opn_int Try.underlying3) tail_nil)) (fun (a : T_api_Net × Int × Unit) => (⟨a.1, a.2.1⟩ : S_struct_Net_api_Net_Until_int__94)) (fun _ => rfl) (fun _ h => h)

structure S_struct_Addr_api_Addr_Bits_int__92 where
  fAddr : T_api_Addr
  fBits : Int
  deriving DecidableEq

def S_struct_Addr_api_Addr_Bits_int__92.d : S_struct_Addr_api_Addr_Bits_int__92 := ⟨T_api_Addr.d, (0 : Int)⟩

def S_struct_Addr_api_Addr_Bits_int__92.c (a : S_struct_Addr_api_Addr_Bits_int__92) : List C := [.lit (.bool a.fAddr.fV6), .lit (.int .u64 a.fAddr.fHi), .lit (.int .u64 a.fAddr.fLo), .lit (.int .i64 a.fBits)]

def S_struct_Addr_api_Addr_Bits_int__92.E : Ec S_struct_Addr_api_Addr_Bits_int__92 := ⟨4, S_struct_Addr_api_Addr_Bits_int__92.c, S_struct_Addr_api_Addr_Bits_int__92.d⟩

def S_struct_Addr_api_Addr_Bits_int__92.ok (a : S_struct_Addr_api_Addr_Bits_int__92) : Prop := T_api_Addr.ok a.fAddr ∧ (okI .i64) a.fBits ∧ True

theorem opn_S_struct_Addr_api_Addr_Bits_int__92 : Opn Try.prog 92 S_struct_Addr_api_Addr_Bits_int__92.c S_struct_Addr_api_Addr_Bits_int__92.ok := opn_struct (ea := (cP T_api_Addr.c (cP (cI .i64) cU))) (oa := (okP T_api_Addr.ok (okP (okI .i64) okU))) (N := 4) Try.underlying92 (by kernel_rfl) (tail_cons (sz := 3) rfl rfl (by kernel_rfl) opn_T_api_Addr (tail_cons (sz := 1) rfl rfl (by kernel_rfl) (opn_int Try.underlying3) tail_nil)) (fun (a : T_api_Addr × Int × Unit) => (⟨a.1, a.2.1⟩ : S_struct_Addr_api_Addr_Bits_int__92)) (fun _ => rfl) (fun _ h => h)

structure S_struct_End_api_End_State_int_Fails_int_N_96 where
  fEnd : T_api_End
  fState : Int
  fFails : Int
  fNext : Int
  deriving DecidableEq

def S_struct_End_api_End_State_int_Fails_int_N_96.d : S_struct_End_api_End_State_int_Fails_int_N_96 := ⟨T_api_End.d, (0 : Int), (0 : Int), (0 : Int)⟩

def S_struct_End_api_End_State_int_Fails_int_N_96.c (a : S_struct_End_api_End_State_int_Fails_int_N_96) : List C := [.lit (.bool a.fEnd.fAddr.fV6), .lit (.int .u64 a.fEnd.fAddr.fHi), .lit (.int .u64 a.fEnd.fAddr.fLo), .lit (.int .i64 a.fEnd.fPort), .lit (.int .i64 a.fState), .lit (.int .i64 a.fFails), .lit (.int .i64 a.fNext)]

def S_struct_End_api_End_State_int_Fails_int_N_96.E : Ec S_struct_End_api_End_State_int_Fails_int_N_96 := ⟨7, S_struct_End_api_End_State_int_Fails_int_N_96.c, S_struct_End_api_End_State_int_Fails_int_N_96.d⟩

def S_struct_End_api_End_State_int_Fails_int_N_96.ok (a : S_struct_End_api_End_State_int_Fails_int_N_96) : Prop := T_api_End.ok a.fEnd ∧ (okI .i64) a.fState ∧ (okI .i64) a.fFails ∧ (okI .i64) a.fNext ∧ True

theorem opn_S_struct_End_api_End_State_int_Fails_int_N_96 : Opn Try.prog 96 S_struct_End_api_End_State_int_Fails_int_N_96.c S_struct_End_api_End_State_int_Fails_int_N_96.ok := opn_struct (ea := (cP T_api_End.c (cP (cI .i64) (cP (cI .i64) (cP (cI .i64) cU))))) (oa := (okP T_api_End.ok (okP (okI .i64) (okP (okI .i64) (okP (okI .i64) okU))))) (N := 7) Try.underlying96 (by kernel_rfl) (tail_cons (sz := 4) rfl rfl (by kernel_rfl) opn_T_api_End (tail_cons (sz := 1) rfl rfl (by kernel_rfl) (opn_int Try.underlying3) (tail_cons (sz := 1) rfl rfl (by kernel_rfl) (opn_int Try.underlying3) (tail_cons (sz := 1) rfl rfl (by kernel_rfl) (opn_int Try.underlying3) tail_nil)))) (fun (a : T_api_End × Int × Int × Int × Unit) => (⟨a.1, a.2.1, a.2.2.1, a.2.2.2.1⟩ : S_struct_End_api_End_State_int_Fails_int_N_96)) (fun _ => rfl) (fun _ h => h)

def tab : Tab := [
  (3, ⟨.int .i64, 1, 8, some (.int .i64 (0))⟩),
  (4, ⟨.bool, 1, 1, some (.bool false)⟩),
  (22, ⟨.slice 49, 1, 24, some (.slice none 0 0)⟩),
  (23, ⟨.slice 47, 1, 24, some (.slice none 0 0)⟩),
  (29, ⟨.struct [(0, 3), (1, 3), (2, 3)], 3, 24, some (.agg #[.int .i64 (0), .int .i64 (0), .int .i64 (0)])⟩),
  (30, ⟨.struct [(0, 3), (1, 3), (2, 3)], 3, 24, some (.agg #[.int .i64 (0), .int .i64 (0), .int .i64 (0)])⟩),
  (31, ⟨.int .u64, 1, 8, some (.int .u64 (0))⟩),
  (32, ⟨.struct [(0, 4), (1, 31), (2, 31)], 3, 24, some (.agg #[.bool false, .int .u64 (0), .int .u64 (0)])⟩),
  (33, ⟨.struct [(0, 4), (1, 31), (2, 31)], 3, 24, some (.agg #[.bool false, .int .u64 (0), .int .u64 (0)])⟩),
  (34, ⟨.struct [(0, 33), (3, 3)], 4, 32, some (.agg #[.bool false, .int .u64 (0), .int .u64 (0), .int .i64 (0)])⟩),
  (35, ⟨.struct [(0, 33), (3, 3)], 4, 32, some (.agg #[.bool false, .int .u64 (0), .int .u64 (0), .int .i64 (0)])⟩),
  (36, ⟨.struct [(0, 3), (1, 3)], 2, 16, some (.agg #[.int .i64 (0), .int .i64 (0)])⟩),
  (37, ⟨.struct [(0, 3), (1, 3)], 2, 16, some (.agg #[.int .i64 (0), .int .i64 (0)])⟩),
  (38, ⟨.struct [(0, 35), (4, 4), (5, 3), (6, 37), (8, 3), (9, 3)], 10, 80, some (.agg #[.bool false, .int .u64 (0), .int .u64 (0), .int .i64 (0), .bool false, .int .i64 (0), .int .i64 (0), .int .i64 (0), .int .i64 (0), .int .i64 (0)])⟩),
  (39, ⟨.struct [(0, 35), (4, 4), (5, 3), (6, 37), (8, 3), (9, 3)], 10, 80, some (.agg #[.bool false, .int .u64 (0), .int .u64 (0), .int .i64 (0), .bool false, .int .i64 (0), .int .i64 (0), .int .i64 (0), .int .i64 (0), .int .i64 (0)])⟩),
  (40, ⟨.slice 95, 1, 24, some (.slice none 0 0)⟩),
  (41, ⟨.slice 97, 1, 24, some (.slice none 0 0)⟩),
  (42, ⟨.struct [(0, 3), (1, 39), (11, 40), (12, 41)], 13, 136, some (.agg #[.int .i64 (0), .bool false, .int .u64 (0), .int .u64 (0), .int .i64 (0), .bool false, .int .i64 (0), .int .i64 (0), .int .i64 (0), .int .i64 (0), .int .i64 (0), .slice none 0 0, .slice none 0 0])⟩),
  (43, ⟨.struct [(0, 3), (1, 39), (11, 40), (12, 41)], 13, 136, some (.agg #[.int .i64 (0), .bool false, .int .u64 (0), .int .u64 (0), .int .i64 (0), .bool false, .int .i64 (0), .int .i64 (0), .int .i64 (0), .int .i64 (0), .int .i64 (0), .slice none 0 0, .slice none 0 0])⟩),
  (44, ⟨.struct [(0, 3), (1, 3), (2, 30), (5, 3), (6, 3), (7, 43), (20, 4)], 21, 200, some (.agg #[.int .i64 (0), .int .i64 (0), .int .i64 (0), .int .i64 (0), .int .i64 (0), .int .i64 (0), .int .i64 (0), .int .i64 (0), .bool false, .int .u64 (0), .int .u64 (0), .int .i64 (0), .bool false, .int .i64 (0), .int .i64 (0), .int .i64 (0), .int .i64 (0), .int .i64 (0), .slice none 0 0, .slice none 0 0, .bool false])⟩),
  (45, ⟨.struct [(0, 3), (1, 3), (2, 30), (5, 3), (6, 3), (7, 43), (20, 4)], 21, 200, some (.agg #[.int .i64 (0), .int .i64 (0), .int .i64 (0), .int .i64 (0), .int .i64 (0), .int .i64 (0), .int .i64 (0), .int .i64 (0), .bool false, .int .u64 (0), .int .u64 (0), .int .i64 (0), .bool false, .int .i64 (0), .int .i64 (0), .int .i64 (0), .int .i64 (0), .int .i64 (0), .slice none 0 0, .slice none 0 0, .bool false])⟩),
  (46, ⟨.struct [(0, 3), (1, 3), (2, 45), (23, 43), (36, 4)], 37, 360, some (.agg #[.int .i64 (0), .int .i64 (0), .int .i64 (0), .int .i64 (0), .int .i64 (0), .int .i64 (0), .int .i64 (0), .int .i64 (0), .int .i64 (0), .int .i64 (0), .bool false, .int .u64 (0), .int .u64 (0), .int .i64 (0), .bool false, .int .i64 (0), .int .i64 (0), .int .i64 (0), .int .i64 (0), .int .i64 (0), .slice none 0 0, .slice none 0 0, .bool false, .int .i64 (0), .bool false, .int .u64 (0), .int .u64 (0), .int .i64 (0), .bool false, .int .i64 (0), .int .i64 (0), .int .i64 (0), .int .i64 (0), .int .i64 (0), .slice none 0 0, .slice none 0 0, .bool false])⟩),
  (47, ⟨.struct [(0, 3), (1, 3), (2, 45), (23, 43), (36, 4)], 37, 360, some (.agg #[.int .i64 (0), .int .i64 (0), .int .i64 (0), .int .i64 (0), .int .i64 (0), .int .i64 (0), .int .i64 (0), .int .i64 (0), .int .i64 (0), .int .i64 (0), .bool false, .int .u64 (0), .int .u64 (0), .int .i64 (0), .bool false, .int .i64 (0), .int .i64 (0), .int .i64 (0), .int .i64 (0), .int .i64 (0), .slice none 0 0, .slice none 0 0, .bool false, .int .i64 (0), .bool false, .int .u64 (0), .int .u64 (0), .int .i64 (0), .bool false, .int .i64 (0), .int .i64 (0), .int .i64 (0), .int .i64 (0), .int .i64 (0), .slice none 0 0, .slice none 0 0, .bool false])⟩),
  (49, ⟨.array 2 3, 2, 16, some (.agg #[.int .i64 (0), .int .i64 (0)])⟩),
  (55, ⟨.slice 3, 1, 24, some (.slice none 0 0)⟩),
  (63, ⟨.slice 55, 1, 24, some (.slice none 0 0)⟩),
  (69, ⟨.slice 71, 1, 24, some (.slice none 0 0)⟩),
  (71, ⟨.slice 4, 1, 24, some (.slice none 0 0)⟩),
  (72, ⟨.map 3 3, 1, 8, some (.map none)⟩),
  (92, ⟨.struct [(0, 33), (3, 3)], 4, 32, some (.agg #[.bool false, .int .u64 (0), .int .u64 (0), .int .i64 (0)])⟩),
  (93, ⟨.struct [(0, 33), (3, 3)], 4, 32, some (.agg #[.bool false, .int .u64 (0), .int .u64 (0), .int .i64 (0)])⟩),
  (94, ⟨.struct [(0, 93), (4, 3)], 5, 40, some (.agg #[.bool false, .int .u64 (0), .int .u64 (0), .int .i64 (0), .int .i64 (0)])⟩),
  (95, ⟨.struct [(0, 93), (4, 3)], 5, 40, some (.agg #[.bool false, .int .u64 (0), .int .u64 (0), .int .i64 (0), .int .i64 (0)])⟩),
  (96, ⟨.struct [(0, 35), (4, 3), (5, 3), (6, 3)], 7, 56, some (.agg #[.bool false, .int .u64 (0), .int .u64 (0), .int .i64 (0), .int .i64 (0), .int .i64 (0), .int .i64 (0)])⟩),
  (97, ⟨.struct [(0, 35), (4, 3), (5, 3), (6, 3)], 7, 56, some (.agg #[.bool false, .int .u64 (0), .int .u64 (0), .int .i64 (0), .int .i64 (0), .int .i64 (0), .int .i64 (0)])⟩)]

theorem tabOk : TabOk Try.prog tab :=
  .cons ⟨by kernel_rfl, by kernel_rfl, _, Try.underlying3, rfl⟩ <|
  .cons ⟨by kernel_rfl, by kernel_rfl, _, Try.underlying4, trivial⟩ <|
  .cons ⟨by kernel_rfl, by kernel_rfl, _, Try.underlying22, rfl⟩ <|
  .cons ⟨by kernel_rfl, by kernel_rfl, _, Try.underlying23, rfl⟩ <|
  .cons ⟨by kernel_rfl, by kernel_rfl, _, Try.underlying29, rfl⟩ <|
  .cons ⟨by kernel_rfl, by kernel_rfl, _, Try.underlying30, rfl⟩ <|
  .cons ⟨by kernel_rfl, by kernel_rfl, _, Try.underlying31, rfl⟩ <|
  .cons ⟨by kernel_rfl, by kernel_rfl, _, Try.underlying32, rfl⟩ <|
  .cons ⟨by kernel_rfl, by kernel_rfl, _, Try.underlying33, rfl⟩ <|
  .cons ⟨by kernel_rfl, by kernel_rfl, _, Try.underlying34, rfl⟩ <|
  .cons ⟨by kernel_rfl, by kernel_rfl, _, Try.underlying35, rfl⟩ <|
  .cons ⟨by kernel_rfl, by kernel_rfl, _, Try.underlying36, rfl⟩ <|
  .cons ⟨by kernel_rfl, by kernel_rfl, _, Try.underlying37, rfl⟩ <|
  .cons ⟨by kernel_rfl, by kernel_rfl, _, Try.underlying38, rfl⟩ <|
  .cons ⟨by kernel_rfl, by kernel_rfl, _, Try.underlying39, rfl⟩ <|
  .cons ⟨by kernel_rfl, by kernel_rfl, _, Try.underlying40, rfl⟩ <|
  .cons ⟨by kernel_rfl, by kernel_rfl, _, Try.underlying41, rfl⟩ <|
  .cons ⟨by kernel_rfl, by kernel_rfl, _, Try.underlying42, rfl⟩ <|
  .cons ⟨by kernel_rfl, by kernel_rfl, _, Try.underlying43, rfl⟩ <|
  .cons ⟨by kernel_rfl, by kernel_rfl, _, Try.underlying44, rfl⟩ <|
  .cons ⟨by kernel_rfl, by kernel_rfl, _, Try.underlying45, rfl⟩ <|
  .cons ⟨by kernel_rfl, by kernel_rfl, _, Try.underlying46, rfl⟩ <|
  .cons ⟨by kernel_rfl, by kernel_rfl, _, Try.underlying47, rfl⟩ <|
  .cons ⟨by kernel_rfl, by kernel_rfl, _, Try.underlying49, ⟨rfl, rfl⟩⟩ <|
  .cons ⟨by kernel_rfl, by kernel_rfl, _, Try.underlying55, rfl⟩ <|
  .cons ⟨by kernel_rfl, by kernel_rfl, _, Try.underlying63, rfl⟩ <|
  .cons ⟨by kernel_rfl, by kernel_rfl, _, Try.underlying69, rfl⟩ <|
  .cons ⟨by kernel_rfl, by kernel_rfl, _, Try.underlying71, rfl⟩ <|
  .cons ⟨by kernel_rfl, by kernel_rfl, _, Try.underlying72, ⟨rfl, rfl⟩⟩ <|
  .cons ⟨by kernel_rfl, by kernel_rfl, _, Try.underlying92, rfl⟩ <|
  .cons ⟨by kernel_rfl, by kernel_rfl, _, Try.underlying93, rfl⟩ <|
  .cons ⟨by kernel_rfl, by kernel_rfl, _, Try.underlying94, rfl⟩ <|
  .cons ⟨by kernel_rfl, by kernel_rfl, _, Try.underlying95, rfl⟩ <|
  .cons ⟨by kernel_rfl, by kernel_rfl, _, Try.underlying96, rfl⟩ <|
  .cons ⟨by kernel_rfl, by kernel_rfl, _, Try.underlying97, rfl⟩ <|
  .nil _

theorem allOk : AllOk Try.prog tab := ⟨tabOk, by kernel_rfl⟩

instance tbOk : Tb Try.prog tab := ⟨allOk⟩
abbrev eS {ρ : Type} (f : Nat) (args : List V) (vr : ρ → V) : ρ → Ev := fun r => .c (SCall Try.prog f args (vr r)) (vr r)
abbrev eH {ρ : Type} (f : Nat) (h0 : List (Nat × B)) (args : List V) (h1 : ρ → List (Nat × B)) (vr : ρ → V) : ρ → Ev := fun r => .h (HCall Try.prog f h0 args (h1 r) (vr r)) (h1 r) (vr r)
abbrev LS {R : Type} (z : Zw) (fn : Func) (path : List Nat) (o : Option R) (vr : R → V) (st : St) : Prop := Chk Try.prog fn.ntmps z (qS Try.prog fn z vr) (at_ path (bodyOf fn)) st [] o
abbrev LH {R : Type} (z : Zw) (fn : Func) (path : List Nat) (o : Option R) (h1 : R → List (Nat × B)) (vr : R → V) (st : St) : Prop := Chk Try.prog fn.ntmps z (qH Try.prog fn z h1 vr) (at_ path (bodyOf fn)) st [] o
end Go.Proofs.Ytgedafbejcpioaa
