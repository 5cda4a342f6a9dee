/-
  Types, as trees; the table of types.
  WRITTEN BY A PROGRAM OF MY OWN (wip/gen/am.py).
-/
import Derived.Test.YtgmkffjkidgcnaaProg
import Derived.Shelf.Spec.SlicesInsertGrow
import Derived.Lib.Hide
import Derived.Test.YtgmkffjkidgcnaaPlA
import Derived.Test.YtgmkffjkidgcnaaAmX
namespace Go.Proofs.Ytgmkffjkidgcnaa
open Go.RowKit Go.Lib Go.Shelf
set_option linter.unusedVariables false
set_option maxRecDepth 100000
structure T_api_Addr where
  fV6 : Bool
  fHi : Int
  fLo : Int
  deriving DecidableEq

def T_api_Addr.d : T_api_Addr := ⟨false, (0 : Int), (0 : Int)⟩

def T_api_Addr.c (a : T_api_Addr) : List C := [.lit (.bool a.fV6), .lit (.int .u64 a.fHi), .lit (.int .u64 a.fLo)]

def T_api_Addr.ok (a : T_api_Addr) : Prop := okB a.fV6 ∧ (okI .u64) a.fHi ∧ (okI .u64) a.fLo ∧ True

theorem opn_T_api_Addr : Opn Try.prog 25 T_api_Addr.c T_api_Addr.ok := opn_struct (ea := (cP cB (cP (cI .u64) (cP (cI .u64) cU)))) (oa := (okP okB (okP (okI .u64) (okP (okI .u64) okU)))) (N := 3) Try.underlying25 (by kernel_rfl) (tail_cons (sz := 1) rfl rfl (by kernel_rfl) (opn_bool Try.underlying4) (tail_cons (sz := 1) rfl rfl (by kernel_rfl) (opn_int Try.underlying23) (tail_cons (sz := 1) rfl rfl (by kernel_rfl) (opn_int Try.underlying23) tail_nil))) (fun (a : Bool × Int × Int × Unit) => (⟨a.1, a.2.1, a.2.2.1⟩ : T_api_Addr)) (fun _ => rfl) (fun _ h => h)

structure S_struct_V6_bool_Hi_uint64_Lo_uint64__24 where
  fV6 : Bool
  fHi : Int
  fLo : Int
  deriving DecidableEq

def S_struct_V6_bool_Hi_uint64_Lo_uint64__24.d : S_struct_V6_bool_Hi_uint64_Lo_uint64__24 := ⟨false, (0 : Int), (0 : Int)⟩

def S_struct_V6_bool_Hi_uint64_Lo_uint64__24.c (a : S_struct_V6_bool_Hi_uint64_Lo_uint64__24) : List C := [.lit (.bool a.fV6), .lit (.int .u64 a.fHi), .lit (.int .u64 a.fLo)]

def S_struct_V6_bool_Hi_uint64_Lo_uint64__24.ok (a : S_struct_V6_bool_Hi_uint64_Lo_uint64__24) : Prop := okB a.fV6 ∧ (okI .u64) a.fHi ∧ (okI .u64) a.fLo ∧ True

theorem opn_S_struct_V6_bool_Hi_uint64_Lo_uint64__24 : Opn Try.prog 24 S_struct_V6_bool_Hi_uint64_Lo_uint64__24.c S_struct_V6_bool_Hi_uint64_Lo_uint64__24.ok := opn_struct (ea := (cP cB (cP (cI .u64) (cP (cI .u64) cU)))) (oa := (okP okB (okP (okI .u64) (okP (okI .u64) okU)))) (N := 3) Try.underlying24 (by kernel_rfl) (tail_cons (sz := 1) rfl rfl (by kernel_rfl) (opn_bool Try.underlying4) (tail_cons (sz := 1) rfl rfl (by kernel_rfl) (opn_int Try.underlying23) (tail_cons (sz := 1) rfl rfl (by kernel_rfl) (opn_int Try.underlying23) tail_nil))) (fun (a : Bool × Int × Int × Unit) => (⟨a.1, a.2.1, a.2.2.1⟩ : S_struct_V6_bool_Hi_uint64_Lo_uint64__24)) (fun _ => rfl) (fun _ h => h)

structure T_api_Net where
  fAddr : T_api_Addr
  fBits : Int
  deriving DecidableEq

def T_api_Net.d : T_api_Net := ⟨T_api_Addr.d, (0 : Int)⟩

def T_api_Net.c (a : T_api_Net) : List C := [.lit (.bool a.fAddr.fV6), .lit (.int .u64 a.fAddr.fHi), .lit (.int .u64 a.fAddr.fLo), .lit (.int .i64 a.fBits)]

def T_api_Net.ok (a : T_api_Net) : Prop := T_api_Addr.ok a.fAddr ∧ (okI .i64) a.fBits ∧ True

theorem opn_T_api_Net : Opn Try.prog 27 T_api_Net.c T_api_Net.ok := opn_struct (ea := (cP T_api_Addr.c (cP (cI .i64) cU))) (oa := (okP T_api_Addr.ok (okP (okI .i64) okU))) (N := 4) Try.underlying27 (by kernel_rfl) (tail_cons (sz := 3) rfl rfl (by kernel_rfl) opn_T_api_Addr (tail_cons (sz := 1) rfl rfl (by kernel_rfl) (opn_int Try.underlying3) tail_nil)) (fun (a : T_api_Addr × Int × Unit) => (⟨a.1, a.2.1⟩ : T_api_Net)) (fun _ => rfl) (fun _ h => h)

structure S_struct_Addr_api_Addr_Bits_int__26 where
  fAddr : T_api_Addr
  fBits : Int
  deriving DecidableEq

def S_struct_Addr_api_Addr_Bits_int__26.d : S_struct_Addr_api_Addr_Bits_int__26 := ⟨T_api_Addr.d, (0 : Int)⟩

def S_struct_Addr_api_Addr_Bits_int__26.c (a : S_struct_Addr_api_Addr_Bits_int__26) : List C := [.lit (.bool a.fAddr.fV6), .lit (.int .u64 a.fAddr.fHi), .lit (.int .u64 a.fAddr.fLo), .lit (.int .i64 a.fBits)]

def S_struct_Addr_api_Addr_Bits_int__26.ok (a : S_struct_Addr_api_Addr_Bits_int__26) : Prop := T_api_Addr.ok a.fAddr ∧ (okI .i64) a.fBits ∧ True

theorem opn_S_struct_Addr_api_Addr_Bits_int__26 : Opn Try.prog 26 S_struct_Addr_api_Addr_Bits_int__26.c S_struct_Addr_api_Addr_Bits_int__26.ok := opn_struct (ea := (cP T_api_Addr.c (cP (cI .i64) cU))) (oa := (okP T_api_Addr.ok (okP (okI .i64) okU))) (N := 4) Try.underlying26 (by kernel_rfl) (tail_cons (sz := 3) rfl rfl (by kernel_rfl) opn_T_api_Addr (tail_cons (sz := 1) rfl rfl (by kernel_rfl) (opn_int Try.underlying3) tail_nil)) (fun (a : T_api_Addr × Int × Unit) => (⟨a.1, a.2.1⟩ : S_struct_Addr_api_Addr_Bits_int__26)) (fun _ => rfl) (fun _ h => h)

structure T_trie_Hit where
  fNet : T_api_Net
  fV : Int
  deriving DecidableEq

def T_trie_Hit.d : T_trie_Hit := ⟨T_api_Net.d, (0 : Int)⟩

def T_trie_Hit.c (a : T_trie_Hit) : List C := [.lit (.bool a.fNet.fAddr.fV6), .lit (.int .u64 a.fNet.fAddr.fHi), .lit (.int .u64 a.fNet.fAddr.fLo), .lit (.int .i64 a.fNet.fBits), .lit (.int .i64 a.fV)]

def T_trie_Hit.ok (a : T_trie_Hit) : Prop := T_api_Net.ok a.fNet ∧ (okI .i64) a.fV ∧ True

theorem opn_T_trie_Hit : Opn Try.prog 48 T_trie_Hit.c T_trie_Hit.ok := opn_struct (ea := (cP T_api_Net.c (cP (cI .i64) cU))) (oa := (okP T_api_Net.ok (okP (okI .i64) okU))) (N := 5) Try.underlying48 (by kernel_rfl) (tail_cons (sz := 4) rfl rfl (by kernel_rfl) opn_T_api_Net (tail_cons (sz := 1) rfl rfl (by kernel_rfl) (opn_int Try.underlying3) tail_nil)) (fun (a : T_api_Net × Int × Unit) => (⟨a.1, a.2.1⟩ : T_trie_Hit)) (fun _ => rfl) (fun _ h => h)

inductive N_trie_node where
  | nil
  | mk (a0 : T_trie_Hit) (a1 : Bool) (a2 : N_trie_node) (a3 : N_trie_node)

def N_trie_node.isNil : N_trie_node → Bool
  | .nil => true
  | .mk _ _ _ _ => false

def N_trie_node.cs : N_trie_node → Nat → C
  | .nil => fun _ => .junk
  | .mk a0 a1 a2 a3 => fun j => ([.lit (.bool a0.fNet.fAddr.fV6), .lit (.int .u64 a0.fNet.fAddr.fHi), .lit (.int .u64 a0.fNet.fAddr.fLo), .lit (.int .i64 a0.fNet.fBits), .lit (.int .i64 a0.fV), .lit (.bool a1), .rp a2.isNil 8 a2.cs, .rp a3.isNil 8 a3.cs] : List C).getD (0 + j) .junk

def N_trie_node.c (x : N_trie_node) : C := .rp x.isNil 8 x.cs

inductive N_trie_Trie where
  | nil
  | mk (a0 : N_trie_node) (a1 : N_trie_node) (a2 : Int)

def N_trie_Trie.isNil : N_trie_Trie → Bool
  | .nil => true
  | .mk _ _ _ => false

def N_trie_Trie.cs : N_trie_Trie → Nat → C
  | .nil => fun _ => .junk
  | .mk a0 a1 a2 => fun j => ([.rp a0.isNil 8 a0.cs, .rp a1.isNil 8 a1.cs, .lit (.int .i64 a2)] : List C).getD (0 + j) .junk

def N_trie_Trie.c (x : N_trie_Trie) : C := .rp x.isNil 3 x.cs

structure T_trie_Trie where
  froots : (N_trie_node × N_trie_node)
  fn : Int

def T_trie_Trie.d : T_trie_Trie := ⟨(N_trie_node.nil, N_trie_node.nil), (0 : Int)⟩

def T_trie_Trie.c (a : T_trie_Trie) : List C := [N_trie_node.c a.froots.1, N_trie_node.c a.froots.2, .lit (.int .i64 a.fn)]

structure S_struct_roots_2_trie_node_n_int__116 where
  froots : (N_trie_node × N_trie_node)
  fn : Int

def S_struct_roots_2_trie_node_n_int__116.d : S_struct_roots_2_trie_node_n_int__116 := ⟨(N_trie_node.nil, N_trie_node.nil), (0 : Int)⟩

def S_struct_roots_2_trie_node_n_int__116.c (a : S_struct_roots_2_trie_node_n_int__116) : List C := [N_trie_node.c a.froots.1, N_trie_node.c a.froots.2, .lit (.int .i64 a.fn)]

structure T_trie_node where
  fhit : T_trie_Hit
  fhas : Bool
  fkids : (N_trie_node × N_trie_node)

def T_trie_node.d : T_trie_node := ⟨T_trie_Hit.d, false, (N_trie_node.nil, N_trie_node.nil)⟩

def T_trie_node.c (a : T_trie_node) : List C := [.lit (.bool a.fhit.fNet.fAddr.fV6), .lit (.int .u64 a.fhit.fNet.fAddr.fHi), .lit (.int .u64 a.fhit.fNet.fAddr.fLo), .lit (.int .i64 a.fhit.fNet.fBits), .lit (.int .i64 a.fhit.fV), .lit (.bool a.fhas), N_trie_node.c a.fkids.1, N_trie_node.c a.fkids.2]

structure S_struct_hit_trie_Hit_has_bool_kids_2_trie_122 where
  fhit : T_trie_Hit
  fhas : Bool
  fkids : (N_trie_node × N_trie_node)

def S_struct_hit_trie_Hit_has_bool_kids_2_trie_122.d : S_struct_hit_trie_Hit_has_bool_kids_2_trie_122 := ⟨T_trie_Hit.d, false, (N_trie_node.nil, N_trie_node.nil)⟩

def S_struct_hit_trie_Hit_has_bool_kids_2_trie_122.c (a : S_struct_hit_trie_Hit_has_bool_kids_2_trie_122) : List C := [.lit (.bool a.fhit.fNet.fAddr.fV6), .lit (.int .u64 a.fhit.fNet.fAddr.fHi), .lit (.int .u64 a.fhit.fNet.fAddr.fLo), .lit (.int .i64 a.fhit.fNet.fBits), .lit (.int .i64 a.fhit.fV), .lit (.bool a.fhas), N_trie_node.c a.fkids.1, N_trie_node.c a.fkids.2]

structure S_struct_Net_api_Net_V_int__47 where
  fNet : T_api_Net
  fV : Int
  deriving DecidableEq

def S_struct_Net_api_Net_V_int__47.d : S_struct_Net_api_Net_V_int__47 := ⟨T_api_Net.d, (0 : Int)⟩

def S_struct_Net_api_Net_V_int__47.c (a : S_struct_Net_api_Net_V_int__47) : List C := [.lit (.bool a.fNet.fAddr.fV6), .lit (.int .u64 a.fNet.fAddr.fHi), .lit (.int .u64 a.fNet.fAddr.fLo), .lit (.int .i64 a.fNet.fBits), .lit (.int .i64 a.fV)]

def S_struct_Net_api_Net_V_int__47.ok (a : S_struct_Net_api_Net_V_int__47) : Prop := T_api_Net.ok a.fNet ∧ (okI .i64) a.fV ∧ True

theorem opn_S_struct_Net_api_Net_V_int__47 : Opn Try.prog 47 S_struct_Net_api_Net_V_int__47.c S_struct_Net_api_Net_V_int__47.ok := opn_struct (ea := (cP T_api_Net.c (cP (cI .i64) cU))) (oa := (okP T_api_Net.ok (okP (okI .i64) okU))) (N := 5) Try.underlying47 (by kernel_rfl) (tail_cons (sz := 4) rfl rfl (by kernel_rfl) opn_T_api_Net (tail_cons (sz := 1) rfl rfl (by kernel_rfl) (opn_int Try.underlying3) tail_nil)) (fun (a : T_api_Net × Int × Unit) => (⟨a.1, a.2.1⟩ : S_struct_Net_api_Net_V_int__47)) (fun _ => rfl) (fun _ h => h)

structure T_api_Ban where
  fNet : T_api_Net
  fUntil : Int
  deriving DecidableEq

def T_api_Ban.d : T_api_Ban := ⟨T_api_Net.d, (0 : Int)⟩

def T_api_Ban.c (a : T_api_Ban) : List C := [.lit (.bool a.fNet.fAddr.fV6), .lit (.int .u64 a.fNet.fAddr.fHi), .lit (.int .u64 a.fNet.fAddr.fLo), .lit (.int .i64 a.fNet.fBits), .lit (.int .i64 a.fUntil)]

def T_api_Ban.ok (a : T_api_Ban) : Prop := T_api_Net.ok a.fNet ∧ (okI .i64) a.fUntil ∧ True

theorem opn_T_api_Ban : Opn Try.prog 79 T_api_Ban.c T_api_Ban.ok := opn_struct (ea := (cP T_api_Net.c (cP (cI .i64) cU))) (oa := (okP T_api_Net.ok (okP (okI .i64) okU))) (N := 5) Try.underlying79 (by kernel_rfl) (tail_cons (sz := 4) rfl rfl (by kernel_rfl) opn_T_api_Net (tail_cons (sz := 1) rfl rfl (by kernel_rfl) (opn_int Try.underlying3) tail_nil)) (fun (a : T_api_Net × Int × Unit) => (⟨a.1, a.2.1⟩ : T_api_Ban)) (fun _ => rfl) (fun _ h => h)

structure S_struct_Net_api_Net_Until_int__78 where
  fNet : T_api_Net
  fUntil : Int
  deriving DecidableEq

def S_struct_Net_api_Net_Until_int__78.d : S_struct_Net_api_Net_Until_int__78 := ⟨T_api_Net.d, (0 : Int)⟩

def S_struct_Net_api_Net_Until_int__78.c (a : S_struct_Net_api_Net_Until_int__78) : List C := [.lit (.bool a.fNet.fAddr.fV6), .lit (.int .u64 a.fNet.fAddr.fHi), .lit (.int .u64 a.fNet.fAddr.fLo), .lit (.int .i64 a.fNet.fBits), .lit (.int .i64 a.fUntil)]

def S_struct_Net_api_Net_Until_int__78.ok (a : S_struct_Net_api_Net_Until_int__78) : Prop := T_api_Net.ok a.fNet ∧ (okI .i64) a.fUntil ∧ True

theorem opn_S_struct_Net_api_Net_Until_int__78 : Opn Try.prog 78 S_struct_Net_api_Net_Until_int__78.c S_struct_Net_api_Net_Until_int__78.ok := opn_struct (ea := (cP T_api_Net.c (cP (cI .i64) cU))) (oa := (okP T_api_Net.ok (okP (okI .i64) okU))) (N := 5) Try.underlying78 (by kernel_rfl) (tail_cons (sz := 4) rfl rfl (by kernel_rfl) opn_T_api_Net (tail_cons (sz := 1) rfl rfl (by kernel_rfl) (opn_int Try.underlying3) tail_nil)) (fun (a : T_api_Net × Int × Unit) => (⟨a.1, a.2.1⟩ : S_struct_Net_api_Net_Until_int__78)) (fun _ => rfl) (fun _ h => h)

structure T_doormanlaw13_Act where
  fKind : Int
  fBan : T_api_Ban
  deriving DecidableEq

def T_doormanlaw13_Act.d : T_doormanlaw13_Act := ⟨(0 : Int), T_api_Ban.d⟩

def T_doormanlaw13_Act.c (a : T_doormanlaw13_Act) : List C := [.lit (.int .i64 a.fKind), .lit (.bool a.fBan.fNet.fAddr.fV6), .lit (.int .u64 a.fBan.fNet.fAddr.fHi), .lit (.int .u64 a.fBan.fNet.fAddr.fLo), .lit (.int .i64 a.fBan.fNet.fBits), .lit (.int .i64 a.fBan.fUntil)]

def T_doormanlaw13_Act.ok (a : T_doormanlaw13_Act) : Prop := (okI .i64) a.fKind ∧ T_api_Ban.ok a.fBan ∧ True

theorem opn_T_doormanlaw13_Act : Opn Try.prog 90 T_doormanlaw13_Act.c T_doormanlaw13_Act.ok := opn_struct (ea := (cP (cI .i64) (cP T_api_Ban.c cU))) (oa := (okP (okI .i64) (okP T_api_Ban.ok okU))) (N := 6) Try.underlying90 (by kernel_rfl) (tail_cons (sz := 1) rfl rfl (by kernel_rfl) (opn_int Try.underlying3) (tail_cons (sz := 5) rfl rfl (by kernel_rfl) opn_T_api_Ban tail_nil)) (fun (a : Int × T_api_Ban × Unit) => (⟨a.1, a.2.1⟩ : T_doormanlaw13_Act)) (fun _ => rfl) (fun _ h => h)

structure S_struct_Kind_int_Ban_api_Ban__89 where
  fKind : Int
  fBan : T_api_Ban
  deriving DecidableEq

def S_struct_Kind_int_Ban_api_Ban__89.d : S_struct_Kind_int_Ban_api_Ban__89 := ⟨(0 : Int), T_api_Ban.d⟩

def S_struct_Kind_int_Ban_api_Ban__89.c (a : S_struct_Kind_int_Ban_api_Ban__89) : List C := [.lit (.int .i64 a.fKind), .lit (.bool a.fBan.fNet.fAddr.fV6), .lit (.int .u64 a.fBan.fNet.fAddr.fHi), .lit (.int .u64 a.fBan.fNet.fAddr.fLo), .lit (.int .i64 a.fBan.fNet.fBits), .lit (.int .i64 a.fBan.fUntil)]

def S_struct_Kind_int_Ban_api_Ban__89.ok (a : S_struct_Kind_int_Ban_api_Ban__89) : Prop := (okI .i64) a.fKind ∧ T_api_Ban.ok a.fBan ∧ True

theorem opn_S_struct_Kind_int_Ban_api_Ban__89 : Opn Try.prog 89 S_struct_Kind_int_Ban_api_Ban__89.c S_struct_Kind_int_Ban_api_Ban__89.ok := opn_struct (ea := (cP (cI .i64) (cP T_api_Ban.c cU))) (oa := (okP (okI .i64) (okP T_api_Ban.ok okU))) (N := 6) Try.underlying89 (by kernel_rfl) (tail_cons (sz := 1) rfl rfl (by kernel_rfl) (opn_int Try.underlying3) (tail_cons (sz := 5) rfl rfl (by kernel_rfl) opn_T_api_Ban tail_nil)) (fun (a : Int × T_api_Ban × Unit) => (⟨a.1, a.2.1⟩ : S_struct_Kind_int_Ban_api_Ban__89)) (fun _ => rfl) (fun _ h => h)

def tab : Tab := [
  (3, ⟨.int .i64, 1, 8, some (.int .i64 (0))⟩),
  (4, ⟨.bool, 1, 1, some (.bool false)⟩),
  (5, ⟨.int .u8, 1, 1, some (.int .u8 (0))⟩),
  (9, ⟨.str, 1, 16, some (.string ⟨#[]⟩)⟩),
  (23, ⟨.int .u64, 1, 8, some (.int .u64 (0))⟩),
  (24, ⟨.struct [(0, 4), (1, 23), (2, 23)], 3, 24, some (.agg #[.bool false, .int .u64 (0), .int .u64 (0)])⟩),
  (25, ⟨.struct [(0, 4), (1, 23), (2, 23)], 3, 24, some (.agg #[.bool false, .int .u64 (0), .int .u64 (0)])⟩),
  (26, ⟨.struct [(0, 25), (3, 3)], 4, 32, some (.agg #[.bool false, .int .u64 (0), .int .u64 (0), .int .i64 (0)])⟩),
  (27, ⟨.struct [(0, 25), (3, 3)], 4, 32, some (.agg #[.bool false, .int .u64 (0), .int .u64 (0), .int .i64 (0)])⟩),
  (29, ⟨.ptr 117, 1, 8, some (.pointer none)⟩),
  (42, ⟨.slice 48, 1, 24, some (.slice none 0 0)⟩),
  (47, ⟨.struct [(0, 27), (4, 3)], 5, 40, some (.agg #[.bool false, .int .u64 (0), .int .u64 (0), .int .i64 (0), .int .i64 (0)])⟩),
  (48, ⟨.struct [(0, 27), (4, 3)], 5, 40, some (.agg #[.bool false, .int .u64 (0), .int .u64 (0), .int .i64 (0), .int .i64 (0)])⟩),
  (61, ⟨.int .i64, 1, 8, some (.int .i64 (0))⟩),
  (73, ⟨.slice 79, 1, 24, some (.slice none 0 0)⟩),
  (78, ⟨.struct [(0, 27), (4, 3)], 5, 40, some (.agg #[.bool false, .int .u64 (0), .int .u64 (0), .int .i64 (0), .int .i64 (0)])⟩),
  (79, ⟨.struct [(0, 27), (4, 3)], 5, 40, some (.agg #[.bool false, .int .u64 (0), .int .u64 (0), .int .i64 (0), .int .i64 (0)])⟩),
  (88, ⟨.slice 90, 1, 24, some (.slice none 0 0)⟩),
  (89, ⟨.struct [(0, 3), (1, 79)], 6, 48, some (.agg #[.int .i64 (0), .bool false, .int .u64 (0), .int .u64 (0), .int .i64 (0), .int .i64 (0)])⟩),
  (90, ⟨.struct [(0, 3), (1, 79)], 6, 48, some (.agg #[.int .i64 (0), .bool false, .int .u64 (0), .int .u64 (0), .int .i64 (0), .int .i64 (0)])⟩),
  (114, ⟨.ptr 123, 1, 8, some (.pointer none)⟩),
  (115, ⟨.array 2 114, 2, 16, some (.agg #[.pointer none, .pointer none])⟩),
  (116, ⟨.struct [(0, 115), (2, 3)], 3, 24, some (.agg #[.pointer none, .pointer none, .int .i64 (0)])⟩),
  (117, ⟨.struct [(0, 115), (2, 3)], 3, 24, some (.agg #[.pointer none, .pointer none, .int .i64 (0)])⟩),
  (122, ⟨.struct [(0, 48), (5, 4), (6, 115)], 8, 64, some (.agg #[.bool false, .int .u64 (0), .int .u64 (0), .int .i64 (0), .int .i64 (0), .bool false, .pointer none, .pointer none])⟩),
  (123, ⟨.struct [(0, 48), (5, 4), (6, 115)], 8, 64, some (.agg #[.bool false, .int .u64 (0), .int .u64 (0), .int .i64 (0), .int .i64 (0), .bool false, .pointer none, .pointer none])⟩),
  (140, ⟨.func, 1, 8, some (.nilFunc)⟩),
  (167, ⟨.int .u32, 1, 4, some (.int .u32 (0))⟩),
  (178, ⟨.int .u64, 1, 8, some (.int .u64 (0))⟩),
  (187, ⟨.slice 3, 1, 24, some (.slice none 0 0)⟩)]

theorem tabOk : TabOk Try.prog tab :=
  .cons ⟨by kernel_rfl, by kernel_rfl, _, Try.underlying3, rfl⟩ <|
  .cons ⟨by kernel_rfl, by kernel_rfl, _, Try.underlying4, trivial⟩ <|
  .cons ⟨by kernel_rfl, by kernel_rfl, _, Try.underlying5, rfl⟩ <|
  .cons ⟨by kernel_rfl, by kernel_rfl, _, Try.underlying9, trivial⟩ <|
  .cons ⟨by kernel_rfl, by kernel_rfl, _, Try.underlying23, rfl⟩ <|
  .cons ⟨by kernel_rfl, by kernel_rfl, _, Try.underlying24, rfl⟩ <|
  .cons ⟨by kernel_rfl, by kernel_rfl, _, Try.underlying25, rfl⟩ <|
  .cons ⟨by kernel_rfl, by kernel_rfl, _, Try.underlying26, rfl⟩ <|
  .cons ⟨by kernel_rfl, by kernel_rfl, _, Try.underlying27, rfl⟩ <|
  .cons ⟨by kernel_rfl, by kernel_rfl, _, Try.underlying29, rfl⟩ <|
  .cons ⟨by kernel_rfl, by kernel_rfl, _, Try.underlying42, rfl⟩ <|
  .cons ⟨by kernel_rfl, by kernel_rfl, _, Try.underlying47, rfl⟩ <|
  .cons ⟨by kernel_rfl, by kernel_rfl, _, Try.underlying48, rfl⟩ <|
  .cons ⟨by kernel_rfl, by kernel_rfl, _, Try.underlying61, rfl⟩ <|
  .cons ⟨by kernel_rfl, by kernel_rfl, _, Try.underlying73, rfl⟩ <|
  .cons ⟨by kernel_rfl, by kernel_rfl, _, Try.underlying78, rfl⟩ <|
  .cons ⟨by kernel_rfl, by kernel_rfl, _, Try.underlying79, rfl⟩ <|
  .cons ⟨by kernel_rfl, by kernel_rfl, _, Try.underlying88, rfl⟩ <|
  .cons ⟨by kernel_rfl, by kernel_rfl, _, Try.underlying89, rfl⟩ <|
  .cons ⟨by kernel_rfl, by kernel_rfl, _, Try.underlying90, rfl⟩ <|
  .cons ⟨by kernel_rfl, by kernel_rfl, _, Try.underlying114, rfl⟩ <|
  .cons ⟨by kernel_rfl, by kernel_rfl, _, Try.underlying115, ⟨rfl, rfl⟩⟩ <|
  .cons ⟨by kernel_rfl, by kernel_rfl, _, Try.underlying116, rfl⟩ <|
  .cons ⟨by kernel_rfl, by kernel_rfl, _, Try.underlying117, rfl⟩ <|
  .cons ⟨by kernel_rfl, by kernel_rfl, _, Try.underlying122, rfl⟩ <|
  .cons ⟨by kernel_rfl, by kernel_rfl, _, Try.underlying123, rfl⟩ <|
  .cons ⟨by kernel_rfl, by kernel_rfl, _, Try.underlying140, trivial⟩ <|
  .cons ⟨by kernel_rfl, by kernel_rfl, _, Try.underlying167, rfl⟩ <|
  .cons ⟨by kernel_rfl, by kernel_rfl, _, Try.underlying178, rfl⟩ <|
  .cons ⟨by kernel_rfl, by kernel_rfl, _, Try.underlying187, rfl⟩ <|
  .nil _

theorem allOk : AllOk Try.prog tab := ⟨tabOk, by kernel_rfl⟩
end Go.Proofs.Ytgmkffjkidgcnaa
