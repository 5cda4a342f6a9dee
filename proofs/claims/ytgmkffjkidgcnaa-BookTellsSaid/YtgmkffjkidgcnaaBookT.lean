/-
  Types, as trees; the table of types.
  WRITTEN BY A PROGRAM OF MY OWN (wip/gen/am.py).
-/
import Derived.Test.YtgmkffjkidgcnaaProg
import Derived.Shelf.Spec.SlicesInsertGrow
import Derived.Lib.Hide
import Derived.Test.YtgmkffjkidgcnaaPlA
import Derived.Test.YtgmkffjkidgcnaaAmX
namespace Go.Proofs.Ytgmkffjkidgcnaa
open Go.RowKit Go.Lib Go.Shelf
set_option linter.unusedVariables false
set_option maxRecDepth 100000
structure T_api_Addr where
  fV6 : Bool
  fHi : Int
  fLo : Int
  deriving DecidableEq

def T_api_Addr.d : T_api_Addr := ⟨false, (0 : Int), (0 : Int)⟩

def T_api_Addr.c (a : T_api_Addr) : List C := [.lit (.bool a.fV6), .lit (.int .u64 a.fHi), .lit (.int .u64 a.fLo)]

def T_api_Addr.ok (a : T_api_Addr) : Prop := okB a.fV6 ∧ (okI .u64) a.fHi ∧ (okI .u64) a.fLo ∧ True

theorem opn_T_api_Addr : Opn Try.prog 25 T_api_Addr.c T_api_Addr.ok := opn_struct (ea := (cP cB (cP (cI .u64) (cP (cI .u64) cU)))) (oa := (okP okB (okP (okI .u64) (okP (okI .u64) okU)))) (N := 3) Try.underlying25 (by kernel_rfl) (tail_cons (sz := 1) rfl rfl (by kernel_rfl) (opn_bool Try.underlying4) (tail_cons (sz := 1) rfl rfl (by kernel_rfl) (opn_int Try.underlying23) (tail_cons (sz := 1) rfl rfl (by kernel_rfl) (opn_int Try.underlying23) tail_nil))) (fun (a : Bool × Int × Int × Unit) => (⟨a.1, a.2.1, a.2.2.1⟩ : T_api_Addr)) (fun _ => rfl) (fun _ h => h)

structure S_struct_V6_bool_Hi_uint64_Lo_uint64__24 where
  fV6 : Bool
  fHi : Int
  fLo : Int
  deriving DecidableEq

def S_struct_V6_bool_Hi_uint64_Lo_uint64__24.d : S_struct_V6_bool_Hi_uint64_Lo_uint64__24 := ⟨false, (0 : Int), (0 : Int)⟩

def S_struct_V6_bool_Hi_uint64_Lo_uint64__24.c (a : S_struct_V6_bool_Hi_uint64_Lo_uint64__24) : List C := [.lit (.bool a.fV6), .lit (.int .u64 a.fHi), .lit (.int .u64 a.fLo)]

def S_struct_V6_bool_Hi_uint64_Lo_uint64__24.ok (a : S_struct_V6_bool_Hi_uint64_Lo_uint64__24) : Prop := okB a.fV6 ∧ (okI .u64) a.fHi ∧ (okI .u64) a.fLo ∧ True

theorem opn_S_struct_V6_bool_Hi_uint64_Lo_uint64__24 : Opn Try.prog 24 S_struct_V6_bool_Hi_uint64_Lo_uint64__24.c S_struct_V6_bool_Hi_uint64_Lo_uint64__24.ok := opn_struct (ea := (cP cB (cP (cI .u64) (cP (cI .u64) cU)))) (oa := (okP okB (okP (okI .u64) (okP (okI .u64) okU)))) (N := 3) Try.underlying24 (by kernel_rfl) (tail_cons (sz := 1) rfl rfl (by kernel_rfl) (opn_bool Try.underlying4) (tail_cons (sz := 1) rfl rfl (by kernel_rfl) (opn_int Try.underlying23) (tail_cons (sz := 1) rfl rfl (by kernel_rfl) (opn_int Try.underlying23) tail_nil))) (fun (a : Bool × Int × Int × Unit) => (⟨a.1, a.2.1, a.2.2.1⟩ : S_struct_V6_bool_Hi_uint64_Lo_uint64__24)) (fun _ => rfl) (fun _ h => h)

structure T_api_End where
  fAddr : T_api_Addr
  fPort : Int
  deriving DecidableEq

def T_api_End.d : T_api_End := ⟨T_api_Addr.d, (0 : Int)⟩

def T_api_End.c (a : T_api_End) : List C := [.lit (.bool a.fAddr.fV6), .lit (.int .u64 a.fAddr.fHi), .lit (.int .u64 a.fAddr.fLo), .lit (.int .i64 a.fPort)]

def T_api_End.ok (a : T_api_End) : Prop := T_api_Addr.ok a.fAddr ∧ (okI .i64) a.fPort ∧ True

theorem opn_T_api_End : Opn Try.prog 58 T_api_End.c T_api_End.ok := opn_struct (ea := (cP T_api_Addr.c (cP (cI .i64) cU))) (oa := (okP T_api_Addr.ok (okP (okI .i64) okU))) (N := 4) Try.underlying58 (by kernel_rfl) (tail_cons (sz := 3) rfl rfl (by kernel_rfl) opn_T_api_Addr (tail_cons (sz := 1) rfl rfl (by kernel_rfl) (opn_int Try.underlying3) tail_nil)) (fun (a : T_api_Addr × Int × Unit) => (⟨a.1, a.2.1⟩ : T_api_End)) (fun _ => rfl) (fun _ h => h)

structure T_api_Entry where
  fEnd : T_api_End
  fState : Int
  fFails : Int
  fNext : Int
  deriving DecidableEq

def T_api_Entry.d : T_api_Entry := ⟨T_api_End.d, (0 : Int), (0 : Int), (0 : Int)⟩

def T_api_Entry.c (a : T_api_Entry) : List C := [.lit (.bool a.fEnd.fAddr.fV6), .lit (.int .u64 a.fEnd.fAddr.fHi), .lit (.int .u64 a.fEnd.fAddr.fLo), .lit (.int .i64 a.fEnd.fPort), .lit (.int .i64 a.fState), .lit (.int .i64 a.fFails), .lit (.int .i64 a.fNext)]

def T_api_Entry.ok (a : T_api_Entry) : Prop := T_api_End.ok a.fEnd ∧ (okI .i64) a.fState ∧ (okI .i64) a.fFails ∧ (okI .i64) a.fNext ∧ True

theorem opn_T_api_Entry : Opn Try.prog 60 T_api_Entry.c T_api_Entry.ok := opn_struct (ea := (cP T_api_End.c (cP (cI .i64) (cP (cI .i64) (cP (cI .i64) cU))))) (oa := (okP T_api_End.ok (okP (okI .i64) (okP (okI .i64) (okP (okI .i64) okU))))) (N := 7) Try.underlying60 (by kernel_rfl) (tail_cons (sz := 4) rfl rfl (by kernel_rfl) opn_T_api_End (tail_cons (sz := 1) rfl rfl (by kernel_rfl) (opn_int Try.underlying3) (tail_cons (sz := 1) rfl rfl (by kernel_rfl) (opn_int Try.underlying3) (tail_cons (sz := 1) rfl rfl (by kernel_rfl) (opn_int Try.underlying3) tail_nil)))) (fun (a : T_api_End × Int × Int × Int × Unit) => (⟨a.1, a.2.1, a.2.2.1, a.2.2.2.1⟩ : T_api_Entry)) (fun _ => rfl) (fun _ h => h)

structure S_struct_End_api_End_State_int_Fails_int_N_59 where
  fEnd : T_api_End
  fState : Int
  fFails : Int
  fNext : Int
  deriving DecidableEq

def S_struct_End_api_End_State_int_Fails_int_N_59.d : S_struct_End_api_End_State_int_Fails_int_N_59 := ⟨T_api_End.d, (0 : Int), (0 : Int), (0 : Int)⟩

def S_struct_End_api_End_State_int_Fails_int_N_59.c (a : S_struct_End_api_End_State_int_Fails_int_N_59) : List C := [.lit (.bool a.fEnd.fAddr.fV6), .lit (.int .u64 a.fEnd.fAddr.fHi), .lit (.int .u64 a.fEnd.fAddr.fLo), .lit (.int .i64 a.fEnd.fPort), .lit (.int .i64 a.fState), .lit (.int .i64 a.fFails), .lit (.int .i64 a.fNext)]

def S_struct_End_api_End_State_int_Fails_int_N_59.ok (a : S_struct_End_api_End_State_int_Fails_int_N_59) : Prop := T_api_End.ok a.fEnd ∧ (okI .i64) a.fState ∧ (okI .i64) a.fFails ∧ (okI .i64) a.fNext ∧ True

theorem opn_S_struct_End_api_End_State_int_Fails_int_N_59 : Opn Try.prog 59 S_struct_End_api_End_State_int_Fails_int_N_59.c S_struct_End_api_End_State_int_Fails_int_N_59.ok := opn_struct (ea := (cP T_api_End.c (cP (cI .i64) (cP (cI .i64) (cP (cI .i64) cU))))) (oa := (okP T_api_End.ok (okP (okI .i64) (okP (okI .i64) (okP (okI .i64) okU))))) (N := 7) Try.underlying59 (by kernel_rfl) (tail_cons (sz := 4) rfl rfl (by kernel_rfl) opn_T_api_End (tail_cons (sz := 1) rfl rfl (by kernel_rfl) (opn_int Try.underlying3) (tail_cons (sz := 1) rfl rfl (by kernel_rfl) (opn_int Try.underlying3) (tail_cons (sz := 1) rfl rfl (by kernel_rfl) (opn_int Try.underlying3) tail_nil)))) (fun (a : T_api_End × Int × Int × Int × Unit) => (⟨a.1, a.2.1, a.2.2.1, a.2.2.2.1⟩ : S_struct_End_api_End_State_int_Fails_int_N_59)) (fun _ => rfl) (fun _ h => h)

structure S_struct_Addr_api_Addr_Port_int__57 where
  fAddr : T_api_Addr
  fPort : Int
  deriving DecidableEq

def S_struct_Addr_api_Addr_Port_int__57.d : S_struct_Addr_api_Addr_Port_int__57 := ⟨T_api_Addr.d, (0 : Int)⟩

def S_struct_Addr_api_Addr_Port_int__57.c (a : S_struct_Addr_api_Addr_Port_int__57) : List C := [.lit (.bool a.fAddr.fV6), .lit (.int .u64 a.fAddr.fHi), .lit (.int .u64 a.fAddr.fLo), .lit (.int .i64 a.fPort)]

def S_struct_Addr_api_Addr_Port_int__57.ok (a : S_struct_Addr_api_Addr_Port_int__57) : Prop := T_api_Addr.ok a.fAddr ∧ (okI .i64) a.fPort ∧ True

theorem opn_S_struct_Addr_api_Addr_Port_int__57 : Opn Try.prog 57 S_struct_Addr_api_Addr_Port_int__57.c S_struct_Addr_api_Addr_Port_int__57.ok := opn_struct (ea := (cP T_api_Addr.c (cP (cI .i64) cU))) (oa := (okP T_api_Addr.ok (okP (okI .i64) okU))) (N := 4) Try.underlying57 (by kernel_rfl) (tail_cons (sz := 3) rfl rfl (by kernel_rfl) opn_T_api_Addr (tail_cons (sz := 1) rfl rfl (by kernel_rfl) (opn_int Try.underlying3) tail_nil)) (fun (a : T_api_Addr × Int × Unit) => (⟨a.1, a.2.1⟩ : S_struct_Addr_api_Addr_Port_int__57)) (fun _ => rfl) (fun _ h => h)

def tab : Tab := [
  (3, ⟨.int .i64, 1, 8, some (.int .i64 (0))⟩),
  (4, ⟨.bool, 1, 1, some (.bool false)⟩),
  (23, ⟨.int .u64, 1, 8, some (.int .u64 (0))⟩),
  (24, ⟨.struct [(0, 4), (1, 23), (2, 23)], 3, 24, some (.agg #[.bool false, .int .u64 (0), .int .u64 (0)])⟩),
  (25, ⟨.struct [(0, 4), (1, 23), (2, 23)], 3, 24, some (.agg #[.bool false, .int .u64 (0), .int .u64 (0)])⟩),
  (52, ⟨.slice 60, 1, 24, some (.slice none 0 0)⟩),
  (53, ⟨.slice 58, 1, 24, some (.slice none 0 0)⟩),
  (57, ⟨.struct [(0, 25), (3, 3)], 4, 32, some (.agg #[.bool false, .int .u64 (0), .int .u64 (0), .int .i64 (0)])⟩),
  (58, ⟨.struct [(0, 25), (3, 3)], 4, 32, some (.agg #[.bool false, .int .u64 (0), .int .u64 (0), .int .i64 (0)])⟩),
  (59, ⟨.struct [(0, 58), (4, 3), (5, 3), (6, 3)], 7, 56, some (.agg #[.bool false, .int .u64 (0), .int .u64 (0), .int .i64 (0), .int .i64 (0), .int .i64 (0), .int .i64 (0)])⟩),
  (60, ⟨.struct [(0, 58), (4, 3), (5, 3), (6, 3)], 7, 56, some (.agg #[.bool false, .int .u64 (0), .int .u64 (0), .int .i64 (0), .int .i64 (0), .int .i64 (0), .int .i64 (0)])⟩),
  (61, ⟨.int .i64, 1, 8, some (.int .i64 (0))⟩),
  (71, ⟨.func, 1, 8, some (.nilFunc)⟩),
  (167, ⟨.int .u32, 1, 4, some (.int .u32 (0))⟩),
  (187, ⟨.slice 3, 1, 24, some (.slice none 0 0)⟩)]

theorem tabOk : TabOk Try.prog tab :=
  .cons ⟨by kernel_rfl, by kernel_rfl, _, Try.underlying3, rfl⟩ <|
  .cons ⟨by kernel_rfl, by kernel_rfl, _, Try.underlying4, trivial⟩ <|
  .cons ⟨by kernel_rfl, by kernel_rfl, _, Try.underlying23, rfl⟩ <|
  .cons ⟨by kernel_rfl, by kernel_rfl, _, Try.underlying24, rfl⟩ <|
  .cons ⟨by kernel_rfl, by kernel_rfl, _, Try.underlying25, rfl⟩ <|
  .cons ⟨by kernel_rfl, by kernel_rfl, _, Try.underlying52, rfl⟩ <|
  .cons ⟨by kernel_rfl, by kernel_rfl, _, Try.underlying53, rfl⟩ <|
  .cons ⟨by kernel_rfl, by kernel_rfl, _, Try.underlying57, rfl⟩ <|
  .cons ⟨by kernel_rfl, by kernel_rfl, _, Try.underlying58, rfl⟩ <|
  .cons ⟨by kernel_rfl, by kernel_rfl, _, Try.underlying59, rfl⟩ <|
  .cons ⟨by kernel_rfl, by kernel_rfl, _, Try.underlying60, rfl⟩ <|
  .cons ⟨by kernel_rfl, by kernel_rfl, _, Try.underlying61, rfl⟩ <|
  .cons ⟨by kernel_rfl, by kernel_rfl, _, Try.underlying71, trivial⟩ <|
  .cons ⟨by kernel_rfl, by kernel_rfl, _, Try.underlying167, rfl⟩ <|
  .cons ⟨by kernel_rfl, by kernel_rfl, _, Try.underlying187, rfl⟩ <|
  .nil _

theorem allOk : AllOk Try.prog tab := ⟨tabOk, by kernel_rfl⟩
end Go.Proofs.Ytgmkffjkidgcnaa
