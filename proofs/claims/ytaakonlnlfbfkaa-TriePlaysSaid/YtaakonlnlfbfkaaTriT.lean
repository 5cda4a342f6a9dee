/-
  Types, as trees; the table of types.
  WRITTEN BY A PROGRAM OF MY OWN (wip/gen/am.py).
-/
import Derived.Test.YtaakonlnlfbfkaaProg
import Derived.Shelf.Spec.SlicesInsertGrow
import Derived.Lib.Hide
import Derived.Test.YtaakonlnlfbfkaaAmX
namespace Go.Proofs.Ytaakonlnlfbfkaa
open Go.RowKit Go.Lib Go.Shelf
set_option linter.unusedVariables false
set_option maxRecDepth 100000
structure T_api_Addr where
  fV6 : Bool
  fHi : Int
  fLo : Int
  deriving DecidableEq

def T_api_Addr.d : T_api_Addr := ⟨false, (0 : Int), (0 : Int)⟩

def T_api_Addr.c (a : T_api_Addr) : List C := [.lit (.bool a.fV6), .lit (.int .u64 a.fHi), .lit (.int .u64 a.fLo)]

def T_api_Addr.ok (a : T_api_Addr) : Prop := okB a.fV6 ∧ (okI .u64) a.fHi ∧ (okI .u64) a.fLo ∧ True

theorem opn_T_api_Addr : Opn Try.prog 33 T_api_Addr.c T_api_Addr.ok := opn_struct (ea := (cP cB (cP (cI .u64) (cP (cI .u64) cU)))) (oa := (okP okB (okP (okI .u64) (okP (okI .u64) okU)))) (N := 3) Try.underlying33 (by kernel_rfl) (tail_cons (sz := 1) rfl rfl (by kernel_rfl) (opn_bool Try.underlying4) (tail_cons (sz := 1) rfl rfl (by kernel_rfl) (opn_int Try.underlying31) (tail_cons (sz := 1) rfl rfl (by kernel_rfl) (opn_int Try.underlying31) tail_nil))) (fun (a : Bool × Int × Int × Unit) => (⟨a.1, a.2.1, a.2.2.1⟩ : T_api_Addr)) (fun _ => rfl) (fun _ h => h)

structure S_struct_V6_bool_Hi_uint64_Lo_uint64__32 where
  fV6 : Bool
  fHi : Int
  fLo : Int
  deriving DecidableEq

def S_struct_V6_bool_Hi_uint64_Lo_uint64__32.d : S_struct_V6_bool_Hi_uint64_Lo_uint64__32 := ⟨false, (0 : Int), (0 : Int)⟩

def S_struct_V6_bool_Hi_uint64_Lo_uint64__32.c (a : S_struct_V6_bool_Hi_uint64_Lo_uint64__32) : List C := [.lit (.bool a.fV6), .lit (.int .u64 a.fHi), .lit (.int .u64 a.fLo)]

def S_struct_V6_bool_Hi_uint64_Lo_uint64__32.ok (a : S_struct_V6_bool_Hi_uint64_Lo_uint64__32) : Prop := okB a.fV6 ∧ (okI .u64) a.fHi ∧ (okI .u64) a.fLo ∧ True

theorem opn_S_struct_V6_bool_Hi_uint64_Lo_uint64__32 : Opn Try.prog 32 S_struct_V6_bool_Hi_uint64_Lo_uint64__32.c S_struct_V6_bool_Hi_uint64_Lo_uint64__32.ok := opn_struct (ea := (cP cB (cP (cI .u64) (cP (cI .u64) cU)))) (oa := (okP okB (okP (okI .u64) (okP (okI .u64) okU)))) (N := 3) Try.underlying32 (by kernel_rfl) (tail_cons (sz := 1) rfl rfl (by kernel_rfl) (opn_bool Try.underlying4) (tail_cons (sz := 1) rfl rfl (by kernel_rfl) (opn_int Try.underlying31) (tail_cons (sz := 1) rfl rfl (by kernel_rfl) (opn_int Try.underlying31) tail_nil))) (fun (a : Bool × Int × Int × Unit) => (⟨a.1, a.2.1, a.2.2.1⟩ : S_struct_V6_bool_Hi_uint64_Lo_uint64__32)) (fun _ => rfl) (fun _ h => h)

structure T_api_Net where
  fAddr : T_api_Addr
  fBits : Int
  deriving DecidableEq

def T_api_Net.d : T_api_Net := ⟨T_api_Addr.d, (0 : Int)⟩

def T_api_Net.c (a : T_api_Net) : List C := [.lit (.bool a.fAddr.fV6), .lit (.int .u64 a.fAddr.fHi), .lit (.int .u64 a.fAddr.fLo), .lit (.int .i64 a.fBits)]

def T_api_Net.ok (a : T_api_Net) : Prop := T_api_Addr.ok a.fAddr ∧ (okI .i64) a.fBits ∧ True

theorem opn_T_api_Net : Opn Try.prog 81 T_api_Net.c T_api_Net.ok := opn_struct (ea := (cP T_api_Addr.c (cP (cI .i64) cU))) (oa := (okP T_api_Addr.ok (okP (okI .i64) okU))) (N := 4) Try.underlying81 (by kernel_rfl) (tail_cons (sz := 3) rfl rfl (by kernel_rfl) opn_T_api_Addr (tail_cons (sz := 1) rfl rfl (by kernel_rfl) (opn_int Try.underlying3) tail_nil)) (fun (a : T_api_Addr × Int × Unit) => (⟨a.1, a.2.1⟩ : T_api_Net)) (fun _ => rfl) (fun _ h => h)

structure T_doormanlaw11_Act where
  fKind : Int
  fNet : T_api_Net
  fV : Int
  deriving DecidableEq

def T_doormanlaw11_Act.d : T_doormanlaw11_Act := ⟨(0 : Int), T_api_Net.d, (0 : Int)⟩

def T_doormanlaw11_Act.c (a : T_doormanlaw11_Act) : List C := [.lit (.int .i64 a.fKind), .lit (.bool a.fNet.fAddr.fV6), .lit (.int .u64 a.fNet.fAddr.fHi), .lit (.int .u64 a.fNet.fAddr.fLo), .lit (.int .i64 a.fNet.fBits), .lit (.int .i64 a.fV)]

def T_doormanlaw11_Act.ok (a : T_doormanlaw11_Act) : Prop := (okI .i64) a.fKind ∧ T_api_Net.ok a.fNet ∧ (okI .i64) a.fV ∧ True

theorem opn_T_doormanlaw11_Act : Opn Try.prog 87 T_doormanlaw11_Act.c T_doormanlaw11_Act.ok := opn_struct (ea := (cP (cI .i64) (cP T_api_Net.c (cP (cI .i64) cU)))) (oa := (okP (okI .i64) (okP T_api_Net.ok (okP (okI .i64) okU)))) (N := 6) Try.underlying87 (by kernel_rfl) (tail_cons (sz := 1) rfl rfl (by kernel_rfl) (opn_int Try.underlying3) (tail_cons (sz := 4) rfl rfl (by kernel_rfl) opn_T_api_Net (tail_cons (sz := 1) rfl rfl (by kernel_rfl) (opn_int Try.underlying3) tail_nil))) (fun (a : Int × T_api_Net × Int × Unit) => (⟨a.1, a.2.1, a.2.2.1⟩ : T_doormanlaw11_Act)) (fun _ => rfl) (fun _ h => h)

structure S_struct_Kind_int_Net_api_Net_V_int__86 where
  fKind : Int
  fNet : T_api_Net
  fV : Int
  deriving DecidableEq

def S_struct_Kind_int_Net_api_Net_V_int__86.d : S_struct_Kind_int_Net_api_Net_V_int__86 := ⟨(0 : Int), T_api_Net.d, (0 : Int)⟩

def S_struct_Kind_int_Net_api_Net_V_int__86.c (a : S_struct_Kind_int_Net_api_Net_V_int__86) : List C := [.lit (.int .i64 a.fKind), .lit (.bool a.fNet.fAddr.fV6), .lit (.int .u64 a.fNet.fAddr.fHi), .lit (.int .u64 a.fNet.fAddr.fLo), .lit (.int .i64 a.fNet.fBits), .lit (.int .i64 a.fV)]

def S_struct_Kind_int_Net_api_Net_V_int__86.ok (a : S_struct_Kind_int_Net_api_Net_V_int__86) : Prop := (okI .i64) a.fKind ∧ T_api_Net.ok a.fNet ∧ (okI .i64) a.fV ∧ True

theorem opn_S_struct_Kind_int_Net_api_Net_V_int__86 : Opn Try.prog 86 S_struct_Kind_int_Net_api_Net_V_int__86.c S_struct_Kind_int_Net_api_Net_V_int__86.ok := opn_struct (ea := (cP (cI .i64) (cP T_api_Net.c (cP (cI .i64) cU)))) (oa := (okP (okI .i64) (okP T_api_Net.ok (okP (okI .i64) okU)))) (N := 6) Try.underlying86 (by kernel_rfl) (tail_cons (sz := 1) rfl rfl (by kernel_rfl) (opn_int Try.underlying3) (tail_cons (sz := 4) rfl rfl (by kernel_rfl) opn_T_api_Net (tail_cons (sz := 1) rfl rfl (by kernel_rfl) (opn_int Try.underlying3) tail_nil))) (fun (a : Int × T_api_Net × Int × Unit) => (⟨a.1, a.2.1, a.2.2.1⟩ : S_struct_Kind_int_Net_api_Net_V_int__86)) (fun _ => rfl) (fun _ h => h)

structure S_struct_Addr_api_Addr_Bits_int__80 where
  fAddr : T_api_Addr
  fBits : Int
  deriving DecidableEq

def S_struct_Addr_api_Addr_Bits_int__80.d : S_struct_Addr_api_Addr_Bits_int__80 := ⟨T_api_Addr.d, (0 : Int)⟩

def S_struct_Addr_api_Addr_Bits_int__80.c (a : S_struct_Addr_api_Addr_Bits_int__80) : List C := [.lit (.bool a.fAddr.fV6), .lit (.int .u64 a.fAddr.fHi), .lit (.int .u64 a.fAddr.fLo), .lit (.int .i64 a.fBits)]

def S_struct_Addr_api_Addr_Bits_int__80.ok (a : S_struct_Addr_api_Addr_Bits_int__80) : Prop := T_api_Addr.ok a.fAddr ∧ (okI .i64) a.fBits ∧ True

theorem opn_S_struct_Addr_api_Addr_Bits_int__80 : Opn Try.prog 80 S_struct_Addr_api_Addr_Bits_int__80.c S_struct_Addr_api_Addr_Bits_int__80.ok := opn_struct (ea := (cP T_api_Addr.c (cP (cI .i64) cU))) (oa := (okP T_api_Addr.ok (okP (okI .i64) okU))) (N := 4) Try.underlying80 (by kernel_rfl) (tail_cons (sz := 3) rfl rfl (by kernel_rfl) opn_T_api_Addr (tail_cons (sz := 1) rfl rfl (by kernel_rfl) (opn_int Try.underlying3) tail_nil)) (fun (a : T_api_Addr × Int × Unit) => (⟨a.1, a.2.1⟩ : S_struct_Addr_api_Addr_Bits_int__80)) (fun _ => rfl) (fun _ h => h)

structure T_trie_Hit where
  fNet : T_api_Net
  fV : Int
  deriving DecidableEq

def T_trie_Hit.d : T_trie_Hit := ⟨T_api_Net.d, (0 : Int)⟩

def T_trie_Hit.c (a : T_trie_Hit) : List C := [.lit (.bool a.fNet.fAddr.fV6), .lit (.int .u64 a.fNet.fAddr.fHi), .lit (.int .u64 a.fNet.fAddr.fLo), .lit (.int .i64 a.fNet.fBits), .lit (.int .i64 a.fV)]

def T_trie_Hit.ok (a : T_trie_Hit) : Prop := T_api_Net.ok a.fNet ∧ (okI .i64) a.fV ∧ True

theorem opn_T_trie_Hit : Opn Try.prog 101 T_trie_Hit.c T_trie_Hit.ok := opn_struct (ea := (cP T_api_Net.c (cP (cI .i64) cU))) (oa := (okP T_api_Net.ok (okP (okI .i64) okU))) (N := 5) Try.underlying101 (by kernel_rfl) (tail_cons (sz := 4) rfl rfl (by kernel_rfl) opn_T_api_Net (tail_cons (sz := 1) rfl rfl (by kernel_rfl) (opn_int Try.underlying3) tail_nil)) (fun (a : T_api_Net × Int × Unit) => (⟨a.1, a.2.1⟩ : T_trie_Hit)) (fun _ => rfl) (fun _ h => h)

inductive N_trie_node where
  | nil
  | mk (a0 : T_trie_Hit) (a1 : Bool) (a2 : N_trie_node) (a3 : N_trie_node)

def N_trie_node.isNil : N_trie_node → Bool
  | .nil => true
  | .mk _ _ _ _ => false

def N_trie_node.cs : N_trie_node → Nat → C
  | .nil => fun _ => .junk
  | .mk a0 a1 a2 a3 => fun j => ([.lit (.bool a0.fNet.fAddr.fV6), .lit (.int .u64 a0.fNet.fAddr.fHi), .lit (.int .u64 a0.fNet.fAddr.fLo), .lit (.int .i64 a0.fNet.fBits), .lit (.int .i64 a0.fV), .lit (.bool a1), .rp a2.isNil 8 a2.cs, .rp a3.isNil 8 a3.cs] : List C).getD (0 + j) .junk

def N_trie_node.c (x : N_trie_node) : C := .rp x.isNil 8 x.cs

inductive N_trie_Trie where
  | nil
  | mk (a0 : N_trie_node) (a1 : N_trie_node) (a2 : Int)

def N_trie_Trie.isNil : N_trie_Trie → Bool
  | .nil => true
  | .mk _ _ _ => false

def N_trie_Trie.cs : N_trie_Trie → Nat → C
  | .nil => fun _ => .junk
  | .mk a0 a1 a2 => fun j => ([.rp a0.isNil 8 a0.cs, .rp a1.isNil 8 a1.cs, .lit (.int .i64 a2)] : List C).getD (0 + j) .junk

def N_trie_Trie.c (x : N_trie_Trie) : C := .rp x.isNil 3 x.cs

structure T_trie_Trie where
  froots : (N_trie_node × N_trie_node)
  fn : Int

def T_trie_Trie.d : T_trie_Trie := ⟨(N_trie_node.nil, N_trie_node.nil), (0 : Int)⟩

def T_trie_Trie.c (a : T_trie_Trie) : List C := [N_trie_node.c a.froots.1, N_trie_node.c a.froots.2, .lit (.int .i64 a.fn)]

structure S_struct_roots_2_trie_node_n_int__165 where
  froots : (N_trie_node × N_trie_node)
  fn : Int

def S_struct_roots_2_trie_node_n_int__165.d : S_struct_roots_2_trie_node_n_int__165 := ⟨(N_trie_node.nil, N_trie_node.nil), (0 : Int)⟩

def S_struct_roots_2_trie_node_n_int__165.c (a : S_struct_roots_2_trie_node_n_int__165) : List C := [N_trie_node.c a.froots.1, N_trie_node.c a.froots.2, .lit (.int .i64 a.fn)]

structure T_trie_node where
  fhit : T_trie_Hit
  fhas : Bool
  fkids : (N_trie_node × N_trie_node)

def T_trie_node.d : T_trie_node := ⟨T_trie_Hit.d, false, (N_trie_node.nil, N_trie_node.nil)⟩

def T_trie_node.c (a : T_trie_node) : List C := [.lit (.bool a.fhit.fNet.fAddr.fV6), .lit (.int .u64 a.fhit.fNet.fAddr.fHi), .lit (.int .u64 a.fhit.fNet.fAddr.fLo), .lit (.int .i64 a.fhit.fNet.fBits), .lit (.int .i64 a.fhit.fV), .lit (.bool a.fhas), N_trie_node.c a.fkids.1, N_trie_node.c a.fkids.2]

structure S_struct_hit_trie_Hit_has_bool_kids_2_trie_171 where
  fhit : T_trie_Hit
  fhas : Bool
  fkids : (N_trie_node × N_trie_node)

def S_struct_hit_trie_Hit_has_bool_kids_2_trie_171.d : S_struct_hit_trie_Hit_has_bool_kids_2_trie_171 := ⟨T_trie_Hit.d, false, (N_trie_node.nil, N_trie_node.nil)⟩

def S_struct_hit_trie_Hit_has_bool_kids_2_trie_171.c (a : S_struct_hit_trie_Hit_has_bool_kids_2_trie_171) : List C := [.lit (.bool a.fhit.fNet.fAddr.fV6), .lit (.int .u64 a.fhit.fNet.fAddr.fHi), .lit (.int .u64 a.fhit.fNet.fAddr.fLo), .lit (.int .i64 a.fhit.fNet.fBits), .lit (.int .i64 a.fhit.fV), .lit (.bool a.fhas), N_trie_node.c a.fkids.1, N_trie_node.c a.fkids.2]

structure S_struct_Net_api_Net_V_int__100 where
  fNet : T_api_Net
  fV : Int
  deriving DecidableEq

def S_struct_Net_api_Net_V_int__100.d : S_struct_Net_api_Net_V_int__100 := ⟨T_api_Net.d, (0 : Int)⟩

def S_struct_Net_api_Net_V_int__100.c (a : S_struct_Net_api_Net_V_int__100) : List C := [.lit (.bool a.fNet.fAddr.fV6), .lit (.int .u64 a.fNet.fAddr.fHi), .lit (.int .u64 a.fNet.fAddr.fLo), .lit (.int .i64 a.fNet.fBits), .lit (.int .i64 a.fV)]

def S_struct_Net_api_Net_V_int__100.ok (a : S_struct_Net_api_Net_V_int__100) : Prop := T_api_Net.ok a.fNet ∧ (okI .i64) a.fV ∧ True

theorem opn_S_struct_Net_api_Net_V_int__100 : Opn Try.prog 100 S_struct_Net_api_Net_V_int__100.c S_struct_Net_api_Net_V_int__100.ok := opn_struct (ea := (cP T_api_Net.c (cP (cI .i64) cU))) (oa := (okP T_api_Net.ok (okP (okI .i64) okU))) (N := 5) Try.underlying100 (by kernel_rfl) (tail_cons (sz := 4) rfl rfl (by kernel_rfl) opn_T_api_Net (tail_cons (sz := 1) rfl rfl (by kernel_rfl) (opn_int Try.underlying3) tail_nil)) (fun (a : T_api_Net × Int × Unit) => (⟨a.1, a.2.1⟩ : S_struct_Net_api_Net_V_int__100)) (fun _ => rfl) (fun _ h => h)

structure T_doormanref11_Hit where
  fNet : T_api_Net
  fV : Int
  deriving DecidableEq

def T_doormanref11_Hit.d : T_doormanref11_Hit := ⟨T_api_Net.d, (0 : Int)⟩

def T_doormanref11_Hit.c (a : T_doormanref11_Hit) : List C := [.lit (.bool a.fNet.fAddr.fV6), .lit (.int .u64 a.fNet.fAddr.fHi), .lit (.int .u64 a.fNet.fAddr.fLo), .lit (.int .i64 a.fNet.fBits), .lit (.int .i64 a.fV)]

def T_doormanref11_Hit.ok (a : T_doormanref11_Hit) : Prop := T_api_Net.ok a.fNet ∧ (okI .i64) a.fV ∧ True

theorem opn_T_doormanref11_Hit : Opn Try.prog 169 T_doormanref11_Hit.c T_doormanref11_Hit.ok := opn_struct (ea := (cP T_api_Net.c (cP (cI .i64) cU))) (oa := (okP T_api_Net.ok (okP (okI .i64) okU))) (N := 5) Try.underlying169 (by kernel_rfl) (tail_cons (sz := 4) rfl rfl (by kernel_rfl) opn_T_api_Net (tail_cons (sz := 1) rfl rfl (by kernel_rfl) (opn_int Try.underlying3) tail_nil)) (fun (a : T_api_Net × Int × Unit) => (⟨a.1, a.2.1⟩ : T_doormanref11_Hit)) (fun _ => rfl) (fun _ h => h)

def tab : Tab := [
  (3, ⟨.int .i64, 1, 8, some (.int .i64 (0))⟩),
  (4, ⟨.bool, 1, 1, some (.bool false)⟩),
  (5, ⟨.int .u8, 1, 1, some (.int .u8 (0))⟩),
  (9, ⟨.str, 1, 16, some (.string ⟨#[]⟩)⟩),
  (31, ⟨.int .u64, 1, 8, some (.int .u64 (0))⟩),
  (32, ⟨.struct [(0, 4), (1, 31), (2, 31)], 3, 24, some (.agg #[.bool false, .int .u64 (0), .int .u64 (0)])⟩),
  (33, ⟨.struct [(0, 4), (1, 31), (2, 31)], 3, 24, some (.agg #[.bool false, .int .u64 (0), .int .u64 (0)])⟩),
  (79, ⟨.slice 87, 1, 24, some (.slice none 0 0)⟩),
  (80, ⟨.struct [(0, 33), (3, 3)], 4, 32, some (.agg #[.bool false, .int .u64 (0), .int .u64 (0), .int .i64 (0)])⟩),
  (81, ⟨.struct [(0, 33), (3, 3)], 4, 32, some (.agg #[.bool false, .int .u64 (0), .int .u64 (0), .int .i64 (0)])⟩),
  (82, ⟨.ptr 166, 1, 8, some (.pointer none)⟩),
  (84, ⟨.slice 169, 1, 24, some (.slice none 0 0)⟩),
  (86, ⟨.struct [(0, 3), (1, 81), (5, 3)], 6, 48, some (.agg #[.int .i64 (0), .bool false, .int .u64 (0), .int .u64 (0), .int .i64 (0), .int .i64 (0)])⟩),
  (87, ⟨.struct [(0, 3), (1, 81), (5, 3)], 6, 48, some (.agg #[.int .i64 (0), .bool false, .int .u64 (0), .int .u64 (0), .int .i64 (0), .int .i64 (0)])⟩),
  (95, ⟨.slice 101, 1, 24, some (.slice none 0 0)⟩),
  (100, ⟨.struct [(0, 81), (4, 3)], 5, 40, some (.agg #[.bool false, .int .u64 (0), .int .u64 (0), .int .i64 (0), .int .i64 (0)])⟩),
  (101, ⟨.struct [(0, 81), (4, 3)], 5, 40, some (.agg #[.bool false, .int .u64 (0), .int .u64 (0), .int .i64 (0), .int .i64 (0)])⟩),
  (163, ⟨.ptr 172, 1, 8, some (.pointer none)⟩),
  (164, ⟨.array 2 163, 2, 16, some (.agg #[.pointer none, .pointer none])⟩),
  (165, ⟨.struct [(0, 164), (2, 3)], 3, 24, some (.agg #[.pointer none, .pointer none, .int .i64 (0)])⟩),
  (166, ⟨.struct [(0, 164), (2, 3)], 3, 24, some (.agg #[.pointer none, .pointer none, .int .i64 (0)])⟩),
  (169, ⟨.struct [(0, 81), (4, 3)], 5, 40, some (.agg #[.bool false, .int .u64 (0), .int .u64 (0), .int .i64 (0), .int .i64 (0)])⟩),
  (171, ⟨.struct [(0, 101), (5, 4), (6, 164)], 8, 64, some (.agg #[.bool false, .int .u64 (0), .int .u64 (0), .int .i64 (0), .int .i64 (0), .bool false, .pointer none, .pointer none])⟩),
  (172, ⟨.struct [(0, 101), (5, 4), (6, 164)], 8, 64, some (.agg #[.bool false, .int .u64 (0), .int .u64 (0), .int .i64 (0), .int .i64 (0), .bool false, .pointer none, .pointer none])⟩),
  (175, ⟨.func, 1, 8, some (.nilFunc)⟩),
  (215, ⟨.int .u32, 1, 4, some (.int .u32 (0))⟩),
  (222, ⟨.int .u64, 1, 8, some (.int .u64 (0))⟩)]

theorem tabOk : TabOk Try.prog tab :=
  .cons ⟨by kernel_rfl, by kernel_rfl, _, Try.underlying3, rfl⟩ <|
  .cons ⟨by kernel_rfl, by kernel_rfl, _, Try.underlying4, trivial⟩ <|
  .cons ⟨by kernel_rfl, by kernel_rfl, _, Try.underlying5, rfl⟩ <|
  .cons ⟨by kernel_rfl, by kernel_rfl, _, Try.underlying9, trivial⟩ <|
  .cons ⟨by kernel_rfl, by kernel_rfl, _, Try.underlying31, rfl⟩ <|
  .cons ⟨by kernel_rfl, by kernel_rfl, _, Try.underlying32, rfl⟩ <|
  .cons ⟨by kernel_rfl, by kernel_rfl, _, Try.underlying33, rfl⟩ <|
  .cons ⟨by kernel_rfl, by kernel_rfl, _, Try.underlying79, rfl⟩ <|
  .cons ⟨by kernel_rfl, by kernel_rfl, _, Try.underlying80, rfl⟩ <|
  .cons ⟨by kernel_rfl, by kernel_rfl, _, Try.underlying81, rfl⟩ <|
  .cons ⟨by kernel_rfl, by kernel_rfl, _, Try.underlying82, rfl⟩ <|
  .cons ⟨by kernel_rfl, by kernel_rfl, _, Try.underlying84, rfl⟩ <|
  .cons ⟨by kernel_rfl, by kernel_rfl, _, Try.underlying86, rfl⟩ <|
  .cons ⟨by kernel_rfl, by kernel_rfl, _, Try.underlying87, rfl⟩ <|
  .cons ⟨by kernel_rfl, by kernel_rfl, _, Try.underlying95, rfl⟩ <|
  .cons ⟨by kernel_rfl, by kernel_rfl, _, Try.underlying100, rfl⟩ <|
  .cons ⟨by kernel_rfl, by kernel_rfl, _, Try.underlying101, rfl⟩ <|
  .cons ⟨by kernel_rfl, by kernel_rfl, _, Try.underlying163, rfl⟩ <|
  .cons ⟨by kernel_rfl, by kernel_rfl, _, Try.underlying164, ⟨rfl, rfl⟩⟩ <|
  .cons ⟨by kernel_rfl, by kernel_rfl, _, Try.underlying165, rfl⟩ <|
  .cons ⟨by kernel_rfl, by kernel_rfl, _, Try.underlying166, rfl⟩ <|
  .cons ⟨by kernel_rfl, by kernel_rfl, _, Try.underlying169, rfl⟩ <|
  .cons ⟨by kernel_rfl, by kernel_rfl, _, Try.underlying171, rfl⟩ <|
  .cons ⟨by kernel_rfl, by kernel_rfl, _, Try.underlying172, rfl⟩ <|
  .cons ⟨by kernel_rfl, by kernel_rfl, _, Try.underlying175, trivial⟩ <|
  .cons ⟨by kernel_rfl, by kernel_rfl, _, Try.underlying215, rfl⟩ <|
  .cons ⟨by kernel_rfl, by kernel_rfl, _, Try.underlying222, rfl⟩ <|
  .nil _

theorem allOk : AllOk Try.prog tab := ⟨tabOk, by kernel_rfl⟩
end Go.Proofs.Ytaakonlnlfbfkaa
