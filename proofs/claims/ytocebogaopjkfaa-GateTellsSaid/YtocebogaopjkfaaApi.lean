/-
  The types of package api as Lean structures, and how their cells lie. WRITTEN BY A PROGRAM OF MY OWN (wip/gen_api.py).
-/
import Derived.Test.YtocebogaopjkfaaMem
namespace Go.Proofs.Ytocebogaopjkfaa
open Go.RowKit

structure AddrD where
  v6 : Bool
  hi : UInt64
  lo : UInt64
deriving DecidableEq
instance : Cells AddrD where
  sz := 3
  cells x := Cells.cells x.v6 ++ (Cells.cells x.hi ++ (Cells.cells x.lo ++ []))
  deep w x := Cells.deep w x.v6 ∧ Cells.deep w x.hi ∧ Cells.deep w x.lo ∧ True
  size x := by simp only [List.length_append, Cells.size, List.length_nil]; rfl
  one x v h := by
    simp only [List.mem_append, List.not_mem_nil, or_false] at h
    rcases h with h | h | h
    all_goals exact Cells.one _ v h
  keep {w w' x} h hb := ⟨Cells.keep h.1 hb, Cells.keep h.2.1 hb, Cells.keep h.2.2.1 hb, trivial⟩
theorem AddrD.cells_eq (x : AddrD) : Cells.cells x = [.bool x.v6, .int .u64 x.hi.toNat, .int .u64 x.lo.toNat] := rfl
theorem AddrD.sz_eq : Cells.sz AddrD = 3 := rfl

structure NetD where
  addr : AddrD
  bits : Int
deriving DecidableEq
instance : Cells NetD where
  sz := 4
  cells x := Cells.cells x.addr ++ (Cells.cells x.bits ++ [])
  deep w x := Cells.deep w x.addr ∧ Cells.deep w x.bits ∧ True
  size x := by simp only [List.length_append, Cells.size, List.length_nil]; rfl
  one x v h := by
    simp only [List.mem_append, List.not_mem_nil, or_false] at h
    rcases h with h | h
    all_goals exact Cells.one _ v h
  keep {w w' x} h hb := ⟨Cells.keep h.1 hb, Cells.keep h.2.1 hb, trivial⟩
theorem NetD.cells_eq (x : NetD) : Cells.cells x = [.bool x.addr.v6, .int .u64 x.addr.hi.toNat, .int .u64 x.addr.lo.toNat, .int .i64 x.bits] := rfl
theorem NetD.sz_eq : Cells.sz NetD = 4 := rfl

structure EndD where
  addr : AddrD
  port : Int
deriving DecidableEq
instance : Cells EndD where
  sz := 4
  cells x := Cells.cells x.addr ++ (Cells.cells x.port ++ [])
  deep w x := Cells.deep w x.addr ∧ Cells.deep w x.port ∧ True
  size x := by simp only [List.length_append, Cells.size, List.length_nil]; rfl
  one x v h := by
    simp only [List.mem_append, List.not_mem_nil, or_false] at h
    rcases h with h | h
    all_goals exact Cells.one _ v h
  keep {w w' x} h hb := ⟨Cells.keep h.1 hb, Cells.keep h.2.1 hb, trivial⟩
theorem EndD.cells_eq (x : EndD) : Cells.cells x = [.bool x.addr.v6, .int .u64 x.addr.hi.toNat, .int .u64 x.addr.lo.toNat, .int .i64 x.port] := rfl
theorem EndD.sz_eq : Cells.sz EndD = 4 := rfl

structure BanD where
  net : NetD
  til : Int
deriving DecidableEq
instance : Cells BanD where
  sz := 5
  cells x := Cells.cells x.net ++ (Cells.cells x.til ++ [])
  deep w x := Cells.deep w x.net ∧ Cells.deep w x.til ∧ True
  size x := by simp only [List.length_append, Cells.size, List.length_nil]; rfl
  one x v h := by
    simp only [List.mem_append, List.not_mem_nil, or_false] at h
    rcases h with h | h
    all_goals exact Cells.one _ v h
  keep {w w' x} h hb := ⟨Cells.keep h.1 hb, Cells.keep h.2.1 hb, trivial⟩
theorem BanD.cells_eq (x : BanD) : Cells.cells x = [.bool x.net.addr.v6, .int .u64 x.net.addr.hi.toNat, .int .u64 x.net.addr.lo.toNat, .int .i64 x.net.bits, .int .i64 x.til] := rfl
theorem BanD.sz_eq : Cells.sz BanD = 5 := rfl

structure ScoreD where
  points : Int
  asof : Int
deriving DecidableEq
instance : Cells ScoreD where
  sz := 2
  cells x := Cells.cells x.points ++ (Cells.cells x.asof ++ [])
  deep w x := Cells.deep w x.points ∧ Cells.deep w x.asof ∧ True
  size x := by simp only [List.length_append, Cells.size, List.length_nil]; rfl
  one x v h := by
    simp only [List.mem_append, List.not_mem_nil, or_false] at h
    rcases h with h | h
    all_goals exact Cells.one _ v h
  keep {w w' x} h hb := ⟨Cells.keep h.1 hb, Cells.keep h.2.1 hb, trivial⟩
theorem ScoreD.cells_eq (x : ScoreD) : Cells.cells x = [.int .i64 x.points, .int .i64 x.asof] := rfl
theorem ScoreD.sz_eq : Cells.sz ScoreD = 2 := rfl

structure PeerD where
  en : EndD
  inb : Bool
  since : Int
  score : ScoreD
  ping : Int
  work : Int
deriving DecidableEq
instance : Cells PeerD where
  sz := 10
  cells x := Cells.cells x.en ++ (Cells.cells x.inb ++ (Cells.cells x.since ++ (Cells.cells x.score ++ (Cells.cells x.ping ++ (Cells.cells x.work ++ [])))))
  deep w x := Cells.deep w x.en ∧ Cells.deep w x.inb ∧ Cells.deep w x.since ∧ Cells.deep w x.score ∧ Cells.deep w x.ping ∧ Cells.deep w x.work ∧ True
  size x := by simp only [List.length_append, Cells.size, List.length_nil]; rfl
  one x v h := by
    simp only [List.mem_append, List.not_mem_nil, or_false] at h
    rcases h with h | h | h | h | h | h
    all_goals exact Cells.one _ v h
  keep {w w' x} h hb := ⟨Cells.keep h.1 hb, Cells.keep h.2.1 hb, Cells.keep h.2.2.1 hb, Cells.keep h.2.2.2.1 hb, Cells.keep h.2.2.2.2.1 hb, Cells.keep h.2.2.2.2.2.1 hb, trivial⟩
theorem PeerD.cells_eq (x : PeerD) : Cells.cells x = [.bool x.en.addr.v6, .int .u64 x.en.addr.hi.toNat, .int .u64 x.en.addr.lo.toNat, .int .i64 x.en.port, .bool x.inb, .int .i64 x.since, .int .i64 x.score.points, .int .i64 x.score.asof, .int .i64 x.ping, .int .i64 x.work] := rfl
theorem PeerD.sz_eq : Cells.sz PeerD = 10 := rfl

structure EntryD where
  en : EndD
  state : Int
  fails : Int
  next : Int
deriving DecidableEq
instance : Cells EntryD where
  sz := 7
  cells x := Cells.cells x.en ++ (Cells.cells x.state ++ (Cells.cells x.fails ++ (Cells.cells x.next ++ [])))
  deep w x := Cells.deep w x.en ∧ Cells.deep w x.state ∧ Cells.deep w x.fails ∧ Cells.deep w x.next ∧ True
  size x := by simp only [List.length_append, Cells.size, List.length_nil]; rfl
  one x v h := by
    simp only [List.mem_append, List.not_mem_nil, or_false] at h
    rcases h with h | h | h | h
    all_goals exact Cells.one _ v h
  keep {w w' x} h hb := ⟨Cells.keep h.1 hb, Cells.keep h.2.1 hb, Cells.keep h.2.2.1 hb, Cells.keep h.2.2.2.1 hb, trivial⟩
theorem EntryD.cells_eq (x : EntryD) : Cells.cells x = [.bool x.en.addr.v6, .int .u64 x.en.addr.hi.toNat, .int .u64 x.en.addr.lo.toNat, .int .i64 x.en.port, .int .i64 x.state, .int .i64 x.fails, .int .i64 x.next] := rfl
theorem EntryD.sz_eq : Cells.sz EntryD = 7 := rfl

structure QuotaD where
  group : Int
  ping : Int
  work : Int
  time : Int
deriving DecidableEq
instance : Cells QuotaD where
  sz := 4
  cells x := Cells.cells x.group ++ (Cells.cells x.ping ++ (Cells.cells x.work ++ (Cells.cells x.time ++ [])))
  deep w x := Cells.deep w x.group ∧ Cells.deep w x.ping ∧ Cells.deep w x.work ∧ Cells.deep w x.time ∧ True
  size x := by simp only [List.length_append, Cells.size, List.length_nil]; rfl
  one x v h := by
    simp only [List.mem_append, List.not_mem_nil, or_false] at h
    rcases h with h | h | h | h
    all_goals exact Cells.one _ v h
  keep {w w' x} h hb := ⟨Cells.keep h.1 hb, Cells.keep h.2.1 hb, Cells.keep h.2.2.1 hb, Cells.keep h.2.2.2.1 hb, trivial⟩
theorem QuotaD.cells_eq (x : QuotaD) : Cells.cells x = [.int .i64 x.group, .int .i64 x.ping, .int .i64 x.work, .int .i64 x.time] := rfl
theorem QuotaD.sz_eq : Cells.sz QuotaD = 4 := rfl

structure ConfD where
  maxIn : Int
  maxOut : Int
  shards : Int
  maxBans : Int
  maxBook : Int
  secret : UInt64
  quota : QuotaD
  half : Int
  limit : Int
  banFor : Int
  base : Int
  cap : Int
  jitter : Int
deriving DecidableEq
instance : Cells ConfD where
  sz := 16
  cells x := Cells.cells x.maxIn ++ (Cells.cells x.maxOut ++ (Cells.cells x.shards ++ (Cells.cells x.maxBans ++ (Cells.cells x.maxBook ++ (Cells.cells x.secret ++ (Cells.cells x.quota ++ (Cells.cells x.half ++ (Cells.cells x.limit ++ (Cells.cells x.banFor ++ (Cells.cells x.base ++ (Cells.cells x.cap ++ (Cells.cells x.jitter ++ []))))))))))))
  deep w x := Cells.deep w x.maxIn ∧ Cells.deep w x.maxOut ∧ Cells.deep w x.shards ∧ Cells.deep w x.maxBans ∧ Cells.deep w x.maxBook ∧ Cells.deep w x.secret ∧ Cells.deep w x.quota ∧ Cells.deep w x.half ∧ Cells.deep w x.limit ∧ Cells.deep w x.banFor ∧ Cells.deep w x.base ∧ Cells.deep w x.cap ∧ Cells.deep w x.jitter ∧ True
  size x := by simp only [List.length_append, Cells.size, List.length_nil]; rfl
  one x v h := by
    simp only [List.mem_append, List.not_mem_nil, or_false] at h
    rcases h with h | h | h | h | h | h | h | h | h | h | h | h | h
    all_goals exact Cells.one _ v h
  keep {w w' x} h hb := ⟨Cells.keep h.1 hb, Cells.keep h.2.1 hb, Cells.keep h.2.2.1 hb, Cells.keep h.2.2.2.1 hb, Cells.keep h.2.2.2.2.1 hb, Cells.keep h.2.2.2.2.2.1 hb, Cells.keep h.2.2.2.2.2.2.1 hb, Cells.keep h.2.2.2.2.2.2.2.1 hb, Cells.keep h.2.2.2.2.2.2.2.2.1 hb, Cells.keep h.2.2.2.2.2.2.2.2.2.1 hb, Cells.keep h.2.2.2.2.2.2.2.2.2.2.1 hb, Cells.keep h.2.2.2.2.2.2.2.2.2.2.2.1 hb, Cells.keep h.2.2.2.2.2.2.2.2.2.2.2.2.1 hb, trivial⟩
theorem ConfD.cells_eq (x : ConfD) : Cells.cells x = [.int .i64 x.maxIn, .int .i64 x.maxOut, .int .i64 x.shards, .int .i64 x.maxBans, .int .i64 x.maxBook, .int .u64 x.secret.toNat, .int .i64 x.quota.group, .int .i64 x.quota.ping, .int .i64 x.quota.work, .int .i64 x.quota.time, .int .i64 x.half, .int .i64 x.limit, .int .i64 x.banFor, .int .i64 x.base, .int .i64 x.cap, .int .i64 x.jitter] := rfl
theorem ConfD.sz_eq : Cells.sz ConfD = 16 := rfl

structure CallD where
  kind : Int
  en : EndD
  net : NetD
  now : Int
  num : Int
  good : Bool
deriving DecidableEq
instance : Cells CallD where
  sz := 12
  cells x := Cells.cells x.kind ++ (Cells.cells x.en ++ (Cells.cells x.net ++ (Cells.cells x.now ++ (Cells.cells x.num ++ (Cells.cells x.good ++ [])))))
  deep w x := Cells.deep w x.kind ∧ Cells.deep w x.en ∧ Cells.deep w x.net ∧ Cells.deep w x.now ∧ Cells.deep w x.num ∧ Cells.deep w x.good ∧ True
  size x := by simp only [List.length_append, Cells.size, List.length_nil]; rfl
  one x v h := by
    simp only [List.mem_append, List.not_mem_nil, or_false] at h
    rcases h with h | h | h | h | h | h
    all_goals exact Cells.one _ v h
  keep {w w' x} h hb := ⟨Cells.keep h.1 hb, Cells.keep h.2.1 hb, Cells.keep h.2.2.1 hb, Cells.keep h.2.2.2.1 hb, Cells.keep h.2.2.2.2.1 hb, Cells.keep h.2.2.2.2.2.1 hb, trivial⟩
theorem CallD.cells_eq (x : CallD) : Cells.cells x = [.int .i64 x.kind, .bool x.en.addr.v6, .int .u64 x.en.addr.hi.toNat, .int .u64 x.en.addr.lo.toNat, .int .i64 x.en.port, .bool x.net.addr.v6, .int .u64 x.net.addr.hi.toNat, .int .u64 x.net.addr.lo.toNat, .int .i64 x.net.bits, .int .i64 x.now, .int .i64 x.num, .bool x.good] := rfl
theorem CallD.sz_eq : Cells.sz CallD = 12 := rfl

structure ReplyD where
  code : Int
  en : EndD
  n : Int
  til : Int
  peers : Sl PeerD
instance : Cells ReplyD where
  sz := 8
  cells x := Cells.cells x.code ++ (Cells.cells x.en ++ (Cells.cells x.n ++ (Cells.cells x.til ++ (Cells.cells x.peers ++ []))))
  deep w x := Cells.deep w x.code ∧ Cells.deep w x.en ∧ Cells.deep w x.n ∧ Cells.deep w x.til ∧ Cells.deep w x.peers ∧ True
  size x := by simp only [List.length_append, Cells.size, List.length_nil]; rfl
  one x v h := by
    simp only [List.mem_append, List.not_mem_nil, or_false] at h
    rcases h with h | h | h | h | h
    all_goals exact Cells.one _ v h
  keep {w w' x} h hb := ⟨Cells.keep h.1 hb, Cells.keep h.2.1 hb, Cells.keep h.2.2.1 hb, Cells.keep h.2.2.2.1 hb, Cells.keep h.2.2.2.2.1 hb, trivial⟩
theorem ReplyD.cells_eq (x : ReplyD) : Cells.cells x = [.int .i64 x.code, .bool x.en.addr.v6, .int .u64 x.en.addr.hi.toNat, .int .u64 x.en.addr.lo.toNat, .int .i64 x.en.port, .int .i64 x.n, .int .i64 x.til, x.peers.val] := rfl
theorem ReplyD.sz_eq : Cells.sz ReplyD = 8 := rfl

structure StateD where
  bans : Sl BanD
  book : Sl EntryD
  peers : Sl PeerD
instance : Cells StateD where
  sz := 3
  cells x := Cells.cells x.bans ++ (Cells.cells x.book ++ (Cells.cells x.peers ++ []))
  deep w x := Cells.deep w x.bans ∧ Cells.deep w x.book ∧ Cells.deep w x.peers ∧ True
  size x := by simp only [List.length_append, Cells.size, List.length_nil]; rfl
  one x v h := by
    simp only [List.mem_append, List.not_mem_nil, or_false] at h
    rcases h with h | h | h
    all_goals exact Cells.one _ v h
  keep {w w' x} h hb := ⟨Cells.keep h.1 hb, Cells.keep h.2.1 hb, Cells.keep h.2.2.1 hb, trivial⟩
theorem StateD.cells_eq (x : StateD) : Cells.cells x = [x.bans.val, x.book.val, x.peers.val] := rfl
theorem StateD.sz_eq : Cells.sz StateD = 3 := rfl

structure LocD where
  kind : Int
  shard : Int
  slot : Int
deriving DecidableEq
instance : Cells LocD where
  sz := 3
  cells x := Cells.cells x.kind ++ (Cells.cells x.shard ++ (Cells.cells x.slot ++ []))
  deep w x := Cells.deep w x.kind ∧ Cells.deep w x.shard ∧ Cells.deep w x.slot ∧ True
  size x := by simp only [List.length_append, Cells.size, List.length_nil]; rfl
  one x v h := by
    simp only [List.mem_append, List.not_mem_nil, or_false] at h
    rcases h with h | h | h
    all_goals exact Cells.one _ v h
  keep {w w' x} h hb := ⟨Cells.keep h.1 hb, Cells.keep h.2.1 hb, Cells.keep h.2.2.1 hb, trivial⟩
theorem LocD.cells_eq (x : LocD) : Cells.cells x = [.int .i64 x.kind, .int .i64 x.shard, .int .i64 x.slot] := rfl
theorem LocD.sz_eq : Cells.sz LocD = 3 := rfl

structure ValuD where
  n : Int
  peer : PeerD
  bans : Sl BanD
  book : Sl EntryD
instance : Cells ValuD where
  sz := 13
  cells x := Cells.cells x.n ++ (Cells.cells x.peer ++ (Cells.cells x.bans ++ (Cells.cells x.book ++ [])))
  deep w x := Cells.deep w x.n ∧ Cells.deep w x.peer ∧ Cells.deep w x.bans ∧ Cells.deep w x.book ∧ True
  size x := by simp only [List.length_append, Cells.size, List.length_nil]; rfl
  one x v h := by
    simp only [List.mem_append, List.not_mem_nil, or_false] at h
    rcases h with h | h | h | h
    all_goals exact Cells.one _ v h
  keep {w w' x} h hb := ⟨Cells.keep h.1 hb, Cells.keep h.2.1 hb, Cells.keep h.2.2.1 hb, Cells.keep h.2.2.2.1 hb, trivial⟩
theorem ValuD.cells_eq (x : ValuD) : Cells.cells x = [.int .i64 x.n, .bool x.peer.en.addr.v6, .int .u64 x.peer.en.addr.hi.toNat, .int .u64 x.peer.en.addr.lo.toNat, .int .i64 x.peer.en.port, .bool x.peer.inb, .int .i64 x.peer.since, .int .i64 x.peer.score.points, .int .i64 x.peer.score.asof, .int .i64 x.peer.ping, .int .i64 x.peer.work, x.bans.val, x.book.val] := rfl
theorem ValuD.sz_eq : Cells.sz ValuD = 13 := rfl

structure OpD where
  kind : Int
  lock : Int
  loc : LocD
  old : Int
  now : Int
  val : ValuD
  mark : Bool
instance : Cells OpD where
  sz := 21
  cells x := Cells.cells x.kind ++ (Cells.cells x.lock ++ (Cells.cells x.loc ++ (Cells.cells x.old ++ (Cells.cells x.now ++ (Cells.cells x.val ++ (Cells.cells x.mark ++ []))))))
  deep w x := Cells.deep w x.kind ∧ Cells.deep w x.lock ∧ Cells.deep w x.loc ∧ Cells.deep w x.old ∧ Cells.deep w x.now ∧ Cells.deep w x.val ∧ Cells.deep w x.mark ∧ True
  size x := by simp only [List.length_append, Cells.size, List.length_nil]; rfl
  one x v h := by
    simp only [List.mem_append, List.not_mem_nil, or_false] at h
    rcases h with h | h | h | h | h | h | h
    all_goals exact Cells.one _ v h
  keep {w w' x} h hb := ⟨Cells.keep h.1 hb, Cells.keep h.2.1 hb, Cells.keep h.2.2.1 hb, Cells.keep h.2.2.2.1 hb, Cells.keep h.2.2.2.2.1 hb, Cells.keep h.2.2.2.2.2.1 hb, Cells.keep h.2.2.2.2.2.2.1 hb, trivial⟩
theorem OpD.cells_eq (x : OpD) : Cells.cells x = [.int .i64 x.kind, .int .i64 x.lock, .int .i64 x.loc.kind, .int .i64 x.loc.shard, .int .i64 x.loc.slot, .int .i64 x.old, .int .i64 x.now, .int .i64 x.val.n, .bool x.val.peer.en.addr.v6, .int .u64 x.val.peer.en.addr.hi.toNat, .int .u64 x.val.peer.en.addr.lo.toNat, .int .i64 x.val.peer.en.port, .bool x.val.peer.inb, .int .i64 x.val.peer.since, .int .i64 x.val.peer.score.points, .int .i64 x.val.peer.score.asof, .int .i64 x.val.peer.ping, .int .i64 x.val.peer.work, x.val.bans.val, x.val.book.val, .bool x.mark] := rfl
theorem OpD.sz_eq : Cells.sz OpD = 21 := rfl

structure ShardD where
  size : Int
  slots : Sl PeerD
instance : Cells ShardD where
  sz := 2
  cells x := Cells.cells x.size ++ (Cells.cells x.slots ++ [])
  deep w x := Cells.deep w x.size ∧ Cells.deep w x.slots ∧ True
  size x := by simp only [List.length_append, Cells.size, List.length_nil]; rfl
  one x v h := by
    simp only [List.mem_append, List.not_mem_nil, or_false] at h
    rcases h with h | h
    all_goals exact Cells.one _ v h
  keep {w w' x} h hb := ⟨Cells.keep h.1 hb, Cells.keep h.2.1 hb, trivial⟩
theorem ShardD.cells_eq (x : ShardD) : Cells.cells x = [.int .i64 x.size, x.slots.val] := rfl
theorem ShardD.sz_eq : Cells.sz ShardD = 2 := rfl

structure LockD where
  who : Int
  share : Sl Int
instance : Cells LockD where
  sz := 2
  cells x := Cells.cells x.who ++ (Cells.cells x.share ++ [])
  deep w x := Cells.deep w x.who ∧ Cells.deep w x.share ∧ True
  size x := by simp only [List.length_append, Cells.size, List.length_nil]; rfl
  one x v h := by
    simp only [List.mem_append, List.not_mem_nil, or_false] at h
    rcases h with h | h
    all_goals exact Cells.one _ v h
  keep {w w' x} h hb := ⟨Cells.keep h.1 hb, Cells.keep h.2.1 hb, trivial⟩
theorem LockD.cells_eq (x : LockD) : Cells.cells x = [.int .i64 x.who, x.share.val] := rfl
theorem LockD.sz_eq : Cells.sz LockD = 2 := rfl

structure MemD where
  inn : Int
  out : Int
  bans : Sl BanD
  book : Sl EntryD
  shards : Sl ShardD
  locks : Sl LockD
instance : Cells MemD where
  sz := 6
  cells x := Cells.cells x.inn ++ (Cells.cells x.out ++ (Cells.cells x.bans ++ (Cells.cells x.book ++ (Cells.cells x.shards ++ (Cells.cells x.locks ++ [])))))
  deep w x := Cells.deep w x.inn ∧ Cells.deep w x.out ∧ Cells.deep w x.bans ∧ Cells.deep w x.book ∧ Cells.deep w x.shards ∧ Cells.deep w x.locks ∧ True
  size x := by simp only [List.length_append, Cells.size, List.length_nil]; rfl
  one x v h := by
    simp only [List.mem_append, List.not_mem_nil, or_false] at h
    rcases h with h | h | h | h | h | h
    all_goals exact Cells.one _ v h
  keep {w w' x} h hb := ⟨Cells.keep h.1 hb, Cells.keep h.2.1 hb, Cells.keep h.2.2.1 hb, Cells.keep h.2.2.2.1 hb, Cells.keep h.2.2.2.2.1 hb, Cells.keep h.2.2.2.2.2.1 hb, trivial⟩
theorem MemD.cells_eq (x : MemD) : Cells.cells x = [.int .i64 x.inn, .int .i64 x.out, x.bans.val, x.book.val, x.shards.val, x.locks.val] := rfl
theorem MemD.sz_eq : Cells.sz MemD = 6 := rfl

structure TaskD where
  calls : Sl CallD
  nth : Int
  got : Sl ValuD
  replies : Sl ReplyD
  broken : Bool
instance : Cells TaskD where
  sz := 5
  cells x := Cells.cells x.calls ++ (Cells.cells x.nth ++ (Cells.cells x.got ++ (Cells.cells x.replies ++ (Cells.cells x.broken ++ []))))
  deep w x := Cells.deep w x.calls ∧ Cells.deep w x.nth ∧ Cells.deep w x.got ∧ Cells.deep w x.replies ∧ Cells.deep w x.broken ∧ True
  size x := by simp only [List.length_append, Cells.size, List.length_nil]; rfl
  one x v h := by
    simp only [List.mem_append, List.not_mem_nil, or_false] at h
    rcases h with h | h | h | h | h
    all_goals exact Cells.one _ v h
  keep {w w' x} h hb := ⟨Cells.keep h.1 hb, Cells.keep h.2.1 hb, Cells.keep h.2.2.1 hb, Cells.keep h.2.2.2.1 hb, Cells.keep h.2.2.2.2.1 hb, trivial⟩
theorem TaskD.cells_eq (x : TaskD) : Cells.cells x = [x.calls.val, .int .i64 x.nth, x.got.val, x.replies.val, .bool x.broken] := rfl
theorem TaskD.sz_eq : Cells.sz TaskD = 5 := rfl

structure StepD where
  who : Int
  nth : Int
  op : OpD
  got : ValuD
  last : Bool
instance : Cells StepD where
  sz := 37
  cells x := Cells.cells x.who ++ (Cells.cells x.nth ++ (Cells.cells x.op ++ (Cells.cells x.got ++ (Cells.cells x.last ++ []))))
  deep w x := Cells.deep w x.who ∧ Cells.deep w x.nth ∧ Cells.deep w x.op ∧ Cells.deep w x.got ∧ Cells.deep w x.last ∧ True
  size x := by simp only [List.length_append, Cells.size, List.length_nil]; rfl
  one x v h := by
    simp only [List.mem_append, List.not_mem_nil, or_false] at h
    rcases h with h | h | h | h | h
    all_goals exact Cells.one _ v h
  keep {w w' x} h hb := ⟨Cells.keep h.1 hb, Cells.keep h.2.1 hb, Cells.keep h.2.2.1 hb, Cells.keep h.2.2.2.1 hb, Cells.keep h.2.2.2.2.1 hb, trivial⟩
theorem StepD.cells_eq (x : StepD) : Cells.cells x = [.int .i64 x.who, .int .i64 x.nth, .int .i64 x.op.kind, .int .i64 x.op.lock, .int .i64 x.op.loc.kind, .int .i64 x.op.loc.shard, .int .i64 x.op.loc.slot, .int .i64 x.op.old, .int .i64 x.op.now, .int .i64 x.op.val.n, .bool x.op.val.peer.en.addr.v6, .int .u64 x.op.val.peer.en.addr.hi.toNat, .int .u64 x.op.val.peer.en.addr.lo.toNat, .int .i64 x.op.val.peer.en.port, .bool x.op.val.peer.inb, .int .i64 x.op.val.peer.since, .int .i64 x.op.val.peer.score.points, .int .i64 x.op.val.peer.score.asof, .int .i64 x.op.val.peer.ping, .int .i64 x.op.val.peer.work, x.op.val.bans.val, x.op.val.book.val, .bool x.op.mark, .int .i64 x.got.n, .bool x.got.peer.en.addr.v6, .int .u64 x.got.peer.en.addr.hi.toNat, .int .u64 x.got.peer.en.addr.lo.toNat, .int .i64 x.got.peer.en.port, .bool x.got.peer.inb, .int .i64 x.got.peer.since, .int .i64 x.got.peer.score.points, .int .i64 x.got.peer.score.asof, .int .i64 x.got.peer.ping, .int .i64 x.got.peer.work, x.got.bans.val, x.got.book.val, .bool x.last] := rfl
theorem StepD.sz_eq : Cells.sz StepD = 37 := rfl

structure WorldD where
  conf : ConfD
  mem : MemD
  tasks : Sl TaskD
  log : Sl StepD
instance : Cells WorldD where
  sz := 24
  cells x := Cells.cells x.conf ++ (Cells.cells x.mem ++ (Cells.cells x.tasks ++ (Cells.cells x.log ++ [])))
  deep w x := Cells.deep w x.conf ∧ Cells.deep w x.mem ∧ Cells.deep w x.tasks ∧ Cells.deep w x.log ∧ True
  size x := by simp only [List.length_append, Cells.size, List.length_nil]; rfl
  one x v h := by
    simp only [List.mem_append, List.not_mem_nil, or_false] at h
    rcases h with h | h | h | h
    all_goals exact Cells.one _ v h
  keep {w w' x} h hb := ⟨Cells.keep h.1 hb, Cells.keep h.2.1 hb, Cells.keep h.2.2.1 hb, Cells.keep h.2.2.2.1 hb, trivial⟩
theorem WorldD.cells_eq (x : WorldD) : Cells.cells x = [.int .i64 x.conf.maxIn, .int .i64 x.conf.maxOut, .int .i64 x.conf.shards, .int .i64 x.conf.maxBans, .int .i64 x.conf.maxBook, .int .u64 x.conf.secret.toNat, .int .i64 x.conf.quota.group, .int .i64 x.conf.quota.ping, .int .i64 x.conf.quota.work, .int .i64 x.conf.quota.time, .int .i64 x.conf.half, .int .i64 x.conf.limit, .int .i64 x.conf.banFor, .int .i64 x.conf.base, .int .i64 x.conf.cap, .int .i64 x.conf.jitter, .int .i64 x.mem.inn, .int .i64 x.mem.out, x.mem.bans.val, x.mem.book.val, x.mem.shards.val, x.mem.locks.val, x.tasks.val, x.log.val] := rfl
theorem WorldD.sz_eq : Cells.sz WorldD = 24 := rfl

structure DoneD where
  who : Int
  nth : Int
  call : CallD
  reply : ReplyD
  first : Int
  last : Int
  mark : Int
  steps : Int
  lost : Int
instance : Cells DoneD where
  sz := 27
  cells x := Cells.cells x.who ++ (Cells.cells x.nth ++ (Cells.cells x.call ++ (Cells.cells x.reply ++ (Cells.cells x.first ++ (Cells.cells x.last ++ (Cells.cells x.mark ++ (Cells.cells x.steps ++ (Cells.cells x.lost ++ []))))))))
  deep w x := Cells.deep w x.who ∧ Cells.deep w x.nth ∧ Cells.deep w x.call ∧ Cells.deep w x.reply ∧ Cells.deep w x.first ∧ Cells.deep w x.last ∧ Cells.deep w x.mark ∧ Cells.deep w x.steps ∧ Cells.deep w x.lost ∧ True
  size x := by simp only [List.length_append, Cells.size, List.length_nil]; rfl
  one x v h := by
    simp only [List.mem_append, List.not_mem_nil, or_false] at h
    rcases h with h | h | h | h | h | h | h | h | h
    all_goals exact Cells.one _ v h
  keep {w w' x} h hb := ⟨Cells.keep h.1 hb, Cells.keep h.2.1 hb, Cells.keep h.2.2.1 hb, Cells.keep h.2.2.2.1 hb, Cells.keep h.2.2.2.2.1 hb, Cells.keep h.2.2.2.2.2.1 hb, Cells.keep h.2.2.2.2.2.2.1 hb, Cells.keep h.2.2.2.2.2.2.2.1 hb, Cells.keep h.2.2.2.2.2.2.2.2.1 hb, trivial⟩
theorem DoneD.cells_eq (x : DoneD) : Cells.cells x = [.int .i64 x.who, .int .i64 x.nth, .int .i64 x.call.kind, .bool x.call.en.addr.v6, .int .u64 x.call.en.addr.hi.toNat, .int .u64 x.call.en.addr.lo.toNat, .int .i64 x.call.en.port, .bool x.call.net.addr.v6, .int .u64 x.call.net.addr.hi.toNat, .int .u64 x.call.net.addr.lo.toNat, .int .i64 x.call.net.bits, .int .i64 x.call.now, .int .i64 x.call.num, .bool x.call.good, .int .i64 x.reply.code, .bool x.reply.en.addr.v6, .int .u64 x.reply.en.addr.hi.toNat, .int .u64 x.reply.en.addr.lo.toNat, .int .i64 x.reply.en.port, .int .i64 x.reply.n, .int .i64 x.reply.til, x.reply.peers.val, .int .i64 x.first, .int .i64 x.last, .int .i64 x.mark, .int .i64 x.steps, .int .i64 x.lost] := rfl
theorem DoneD.sz_eq : Cells.sz DoneD = 27 := rfl

theorem Sl.sz_eq {α : Type} [Cells α] : Cells.sz (Sl α) = 1 := rfl
theorem Sl.cells_eq {α : Type} [Cells α] (x : Sl α) : Cells.cells x = [x.val] := rfl

end Go.Proofs.Ytocebogaopjkfaa
