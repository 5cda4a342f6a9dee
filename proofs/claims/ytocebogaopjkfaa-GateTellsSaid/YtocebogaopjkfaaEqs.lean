/-
  '==' and '!=' on structs of package api: they tell whether the two are one. WRITTEN BY A PROGRAM OF MY OWN (wip/gen_api.py).
-/
import Derived.Test.YtocebogaopjkfaaOpen
namespace Go.Proofs.Ytocebogaopjkfaa
open Go.RowKit

theorem eqFieldsOf_AddrD : (Try.prog.fieldsOf 57).toList = [{ name := "V6", type := 4, offset := 0, embedded := false, tag := "", pkgPath := "", byteOffset := 0 }, { name := "Hi", type := 22, offset := 1, embedded := false, tag := "", pkgPath := "", byteOffset := 8 }, { name := "Lo", type := 22, offset := 2, embedded := false, tag := "", pkgPath := "", byteOffset := 16 }] := by kernel_rfl

theorem eqFieldsOf_NetD : (Try.prog.fieldsOf 131).toList = [{ name := "Addr", type := 57, offset := 0, embedded := false, tag := "", pkgPath := "", byteOffset := 0 }, { name := "Bits", type := 3, offset := 3, embedded := false, tag := "", pkgPath := "", byteOffset := 24 }] := by kernel_rfl

theorem eqFieldsOf_EndD : (Try.prog.fieldsOf 59).toList = [{ name := "Addr", type := 57, offset := 0, embedded := false, tag := "", pkgPath := "", byteOffset := 0 }, { name := "Port", type := 3, offset := 3, embedded := false, tag := "", pkgPath := "", byteOffset := 24 }] := by kernel_rfl

theorem eqFieldsOf_BanD : (Try.prog.fieldsOf 133).toList = [{ name := "Net", type := 131, offset := 0, embedded := false, tag := "", pkgPath := "", byteOffset := 0 }, { name := "Until", type := 3, offset := 4, embedded := false, tag := "", pkgPath := "", byteOffset := 32 }] := by kernel_rfl

theorem eqFieldsOf_ScoreD : (Try.prog.fieldsOf 61).toList = [{ name := "Points", type := 3, offset := 0, embedded := false, tag := "", pkgPath := "", byteOffset := 0 }, { name := "At", type := 3, offset := 1, embedded := false, tag := "", pkgPath := "", byteOffset := 8 }] := by kernel_rfl

theorem eqFieldsOf_PeerD : (Try.prog.fieldsOf 63).toList = [{ name := "End", type := 59, offset := 0, embedded := false, tag := "", pkgPath := "", byteOffset := 0 }, { name := "In", type := 4, offset := 4, embedded := false, tag := "", pkgPath := "", byteOffset := 32 }, { name := "Since", type := 3, offset := 5, embedded := false, tag := "", pkgPath := "", byteOffset := 40 }, { name := "Score", type := 61, offset := 6, embedded := false, tag := "", pkgPath := "", byteOffset := 48 }, { name := "Ping", type := 3, offset := 8, embedded := false, tag := "", pkgPath := "", byteOffset := 64 }, { name := "Work", type := 3, offset := 9, embedded := false, tag := "", pkgPath := "", byteOffset := 72 }] := by kernel_rfl

theorem eqFieldsOf_EntryD : (Try.prog.fieldsOf 105).toList = [{ name := "End", type := 59, offset := 0, embedded := false, tag := "", pkgPath := "", byteOffset := 0 }, { name := "State", type := 3, offset := 4, embedded := false, tag := "", pkgPath := "", byteOffset := 32 }, { name := "Fails", type := 3, offset := 5, embedded := false, tag := "", pkgPath := "", byteOffset := 40 }, { name := "Next", type := 3, offset := 6, embedded := false, tag := "", pkgPath := "", byteOffset := 48 }] := by kernel_rfl

theorem eqFieldsOf_LocD : (Try.prog.fieldsOf 55).toList = [{ name := "Kind", type := 3, offset := 0, embedded := false, tag := "", pkgPath := "", byteOffset := 0 }, { name := "Shard", type := 3, offset := 1, embedded := false, tag := "", pkgPath := "", byteOffset := 8 }, { name := "Slot", type := 3, offset := 2, embedded := false, tag := "", pkgPath := "", byteOffset := 16 }] := by kernel_rfl


theorem natCast_toNat_inj (a b : UInt64) : ((a.toNat : Int) = (b.toNat : Int)) = (a = b) := by
  rw [Int.natCast_inj, UInt64.toNat_inj]

theorem eqIn_AddrD (d : Nat) (x y : AddrD) (w : World) : (Op.equalIn (d + 2) 57 (.agg #[.bool x.v6, .int .u64 x.hi.toNat, .int .u64 x.lo.toNat]) (.agg #[.bool y.v6, .int .u64 y.hi.toNat, .int .u64 y.lo.toNat])).run Try.prog w = .ok (decide (x = y)) w := by rw [run_equalIn_struct w (d + 1) _ _ _ (by kernel_rfl) (by kernel_rfl)]; simp only [eqFieldsOf_AddrD, Op.eqFields]; simp [go_sem, natCast_toNat_inj]; cases x; cases y; simp only [AddrD.mk.injEq]; (repeat' split) <;> simp_all

theorem eql_AddrD (x y : AddrD) (w : World) : (binOp .eql 57 (.agg #[.bool x.v6, .int .u64 x.hi.toNat, .int .u64 x.lo.toNat]) (.agg #[.bool y.v6, .int .u64 y.hi.toNat, .int .u64 y.lo.toNat])).run Try.prog w = .ok (.bool (decide (x = y))) w := by rw [run_eql_struct]; exact congrArg (fun r : Result Bool => r.andThen fun b w' => Result.ok (Value.bool b) w') (eqIn_AddrD 9998 x y w)

theorem neq_AddrD (x y : AddrD) (w : World) : (binOp .neq 57 (.agg #[.bool x.v6, .int .u64 x.hi.toNat, .int .u64 x.lo.toNat]) (.agg #[.bool y.v6, .int .u64 y.hi.toNat, .int .u64 y.lo.toNat])).run Try.prog w = .ok (.bool (!decide (x = y))) w := by rw [run_neq_struct]; exact congrArg (fun r : Result Bool => r.andThen fun b w' => Result.ok (Value.bool (!b)) w') (eqIn_AddrD 9998 x y w)

theorem eqIn_NetD (d : Nat) (x y : NetD) (w : World) : (Op.equalIn (d + 4) 131 (.agg #[.bool x.addr.v6, .int .u64 x.addr.hi.toNat, .int .u64 x.addr.lo.toNat, .int .i64 x.bits]) (.agg #[.bool y.addr.v6, .int .u64 y.addr.hi.toNat, .int .u64 y.addr.lo.toNat, .int .i64 y.bits])).run Try.prog w = .ok (decide (x = y)) w := by rw [run_equalIn_struct w (d + 3) _ _ _ (by kernel_rfl) (by kernel_rfl)]; simp only [eqFieldsOf_NetD, Op.eqFields]; simp [go_sem, eqIn_AddrD]; cases x; cases y; simp only [NetD.mk.injEq]; (repeat' split) <;> simp_all

theorem eql_NetD (x y : NetD) (w : World) : (binOp .eql 131 (.agg #[.bool x.addr.v6, .int .u64 x.addr.hi.toNat, .int .u64 x.addr.lo.toNat, .int .i64 x.bits]) (.agg #[.bool y.addr.v6, .int .u64 y.addr.hi.toNat, .int .u64 y.addr.lo.toNat, .int .i64 y.bits])).run Try.prog w = .ok (.bool (decide (x = y))) w := by rw [run_eql_struct]; exact congrArg (fun r : Result Bool => r.andThen fun b w' => Result.ok (Value.bool b) w') (eqIn_NetD 9996 x y w)

theorem neq_NetD (x y : NetD) (w : World) : (binOp .neq 131 (.agg #[.bool x.addr.v6, .int .u64 x.addr.hi.toNat, .int .u64 x.addr.lo.toNat, .int .i64 x.bits]) (.agg #[.bool y.addr.v6, .int .u64 y.addr.hi.toNat, .int .u64 y.addr.lo.toNat, .int .i64 y.bits])).run Try.prog w = .ok (.bool (!decide (x = y))) w := by rw [run_neq_struct]; exact congrArg (fun r : Result Bool => r.andThen fun b w' => Result.ok (Value.bool (!b)) w') (eqIn_NetD 9996 x y w)

theorem eqIn_EndD (d : Nat) (x y : EndD) (w : World) : (Op.equalIn (d + 4) 59 (.agg #[.bool x.addr.v6, .int .u64 x.addr.hi.toNat, .int .u64 x.addr.lo.toNat, .int .i64 x.port]) (.agg #[.bool y.addr.v6, .int .u64 y.addr.hi.toNat, .int .u64 y.addr.lo.toNat, .int .i64 y.port])).run Try.prog w = .ok (decide (x = y)) w := by rw [run_equalIn_struct w (d + 3) _ _ _ (by kernel_rfl) (by kernel_rfl)]; simp only [eqFieldsOf_EndD, Op.eqFields]; simp [go_sem, eqIn_AddrD]; cases x; cases y; simp only [EndD.mk.injEq]; (repeat' split) <;> simp_all

theorem eql_EndD (x y : EndD) (w : World) : (binOp .eql 59 (.agg #[.bool x.addr.v6, .int .u64 x.addr.hi.toNat, .int .u64 x.addr.lo.toNat, .int .i64 x.port]) (.agg #[.bool y.addr.v6, .int .u64 y.addr.hi.toNat, .int .u64 y.addr.lo.toNat, .int .i64 y.port])).run Try.prog w = .ok (.bool (decide (x = y))) w := by rw [run_eql_struct]; exact congrArg (fun r : Result Bool => r.andThen fun b w' => Result.ok (Value.bool b) w') (eqIn_EndD 9996 x y w)

theorem neq_EndD (x y : EndD) (w : World) : (binOp .neq 59 (.agg #[.bool x.addr.v6, .int .u64 x.addr.hi.toNat, .int .u64 x.addr.lo.toNat, .int .i64 x.port]) (.agg #[.bool y.addr.v6, .int .u64 y.addr.hi.toNat, .int .u64 y.addr.lo.toNat, .int .i64 y.port])).run Try.prog w = .ok (.bool (!decide (x = y))) w := by rw [run_neq_struct]; exact congrArg (fun r : Result Bool => r.andThen fun b w' => Result.ok (Value.bool (!b)) w') (eqIn_EndD 9996 x y w)

theorem eqIn_BanD (d : Nat) (x y : BanD) (w : World) : (Op.equalIn (d + 6) 133 (.agg #[.bool x.net.addr.v6, .int .u64 x.net.addr.hi.toNat, .int .u64 x.net.addr.lo.toNat, .int .i64 x.net.bits, .int .i64 x.til]) (.agg #[.bool y.net.addr.v6, .int .u64 y.net.addr.hi.toNat, .int .u64 y.net.addr.lo.toNat, .int .i64 y.net.bits, .int .i64 y.til])).run Try.prog w = .ok (decide (x = y)) w := by rw [run_equalIn_struct w (d + 5) _ _ _ (by kernel_rfl) (by kernel_rfl)]; simp only [eqFieldsOf_BanD, Op.eqFields]; simp [go_sem, eqIn_NetD]; cases x; cases y; simp only [BanD.mk.injEq]; (repeat' split) <;> simp_all

theorem eql_BanD (x y : BanD) (w : World) : (binOp .eql 133 (.agg #[.bool x.net.addr.v6, .int .u64 x.net.addr.hi.toNat, .int .u64 x.net.addr.lo.toNat, .int .i64 x.net.bits, .int .i64 x.til]) (.agg #[.bool y.net.addr.v6, .int .u64 y.net.addr.hi.toNat, .int .u64 y.net.addr.lo.toNat, .int .i64 y.net.bits, .int .i64 y.til])).run Try.prog w = .ok (.bool (decide (x = y))) w := by rw [run_eql_struct]; exact congrArg (fun r : Result Bool => r.andThen fun b w' => Result.ok (Value.bool b) w') (eqIn_BanD 9994 x y w)

theorem neq_BanD (x y : BanD) (w : World) : (binOp .neq 133 (.agg #[.bool x.net.addr.v6, .int .u64 x.net.addr.hi.toNat, .int .u64 x.net.addr.lo.toNat, .int .i64 x.net.bits, .int .i64 x.til]) (.agg #[.bool y.net.addr.v6, .int .u64 y.net.addr.hi.toNat, .int .u64 y.net.addr.lo.toNat, .int .i64 y.net.bits, .int .i64 y.til])).run Try.prog w = .ok (.bool (!decide (x = y))) w := by rw [run_neq_struct]; exact congrArg (fun r : Result Bool => r.andThen fun b w' => Result.ok (Value.bool (!b)) w') (eqIn_BanD 9994 x y w)

theorem eqIn_ScoreD (d : Nat) (x y : ScoreD) (w : World) : (Op.equalIn (d + 2) 61 (.agg #[.int .i64 x.points, .int .i64 x.asof]) (.agg #[.int .i64 y.points, .int .i64 y.asof])).run Try.prog w = .ok (decide (x = y)) w := by rw [run_equalIn_struct w (d + 1) _ _ _ (by kernel_rfl) (by kernel_rfl)]; simp only [eqFieldsOf_ScoreD, Op.eqFields]; simp [go_sem]; cases x; cases y; simp only [ScoreD.mk.injEq]; (repeat' split) <;> simp_all

theorem eql_ScoreD (x y : ScoreD) (w : World) : (binOp .eql 61 (.agg #[.int .i64 x.points, .int .i64 x.asof]) (.agg #[.int .i64 y.points, .int .i64 y.asof])).run Try.prog w = .ok (.bool (decide (x = y))) w := by rw [run_eql_struct]; exact congrArg (fun r : Result Bool => r.andThen fun b w' => Result.ok (Value.bool b) w') (eqIn_ScoreD 9998 x y w)

theorem neq_ScoreD (x y : ScoreD) (w : World) : (binOp .neq 61 (.agg #[.int .i64 x.points, .int .i64 x.asof]) (.agg #[.int .i64 y.points, .int .i64 y.asof])).run Try.prog w = .ok (.bool (!decide (x = y))) w := by rw [run_neq_struct]; exact congrArg (fun r : Result Bool => r.andThen fun b w' => Result.ok (Value.bool (!b)) w') (eqIn_ScoreD 9998 x y w)

theorem eqIn_PeerD (d : Nat) (x y : PeerD) (w : World) : (Op.equalIn (d + 6) 63 (.agg #[.bool x.en.addr.v6, .int .u64 x.en.addr.hi.toNat, .int .u64 x.en.addr.lo.toNat, .int .i64 x.en.port, .bool x.inb, .int .i64 x.since, .int .i64 x.score.points, .int .i64 x.score.asof, .int .i64 x.ping, .int .i64 x.work]) (.agg #[.bool y.en.addr.v6, .int .u64 y.en.addr.hi.toNat, .int .u64 y.en.addr.lo.toNat, .int .i64 y.en.port, .bool y.inb, .int .i64 y.since, .int .i64 y.score.points, .int .i64 y.score.asof, .int .i64 y.ping, .int .i64 y.work])).run Try.prog w = .ok (decide (x = y)) w := by rw [run_equalIn_struct w (d + 5) _ _ _ (by kernel_rfl) (by kernel_rfl)]; simp only [eqFieldsOf_PeerD, Op.eqFields]; simp [go_sem, eqIn_EndD, eqIn_ScoreD]; cases x; cases y; simp only [PeerD.mk.injEq]; (repeat' split) <;> simp_all

theorem eql_PeerD (x y : PeerD) (w : World) : (binOp .eql 63 (.agg #[.bool x.en.addr.v6, .int .u64 x.en.addr.hi.toNat, .int .u64 x.en.addr.lo.toNat, .int .i64 x.en.port, .bool x.inb, .int .i64 x.since, .int .i64 x.score.points, .int .i64 x.score.asof, .int .i64 x.ping, .int .i64 x.work]) (.agg #[.bool y.en.addr.v6, .int .u64 y.en.addr.hi.toNat, .int .u64 y.en.addr.lo.toNat, .int .i64 y.en.port, .bool y.inb, .int .i64 y.since, .int .i64 y.score.points, .int .i64 y.score.asof, .int .i64 y.ping, .int .i64 y.work])).run Try.prog w = .ok (.bool (decide (x = y))) w := by rw [run_eql_struct]; exact congrArg (fun r : Result Bool => r.andThen fun b w' => Result.ok (Value.bool b) w') (eqIn_PeerD 9994 x y w)

theorem neq_PeerD (x y : PeerD) (w : World) : (binOp .neq 63 (.agg #[.bool x.en.addr.v6, .int .u64 x.en.addr.hi.toNat, .int .u64 x.en.addr.lo.toNat, .int .i64 x.en.port, .bool x.inb, .int .i64 x.since, .int .i64 x.score.points, .int .i64 x.score.asof, .int .i64 x.ping, .int .i64 x.work]) (.agg #[.bool y.en.addr.v6, .int .u64 y.en.addr.hi.toNat, .int .u64 y.en.addr.lo.toNat, .int .i64 y.en.port, .bool y.inb, .int .i64 y.since, .int .i64 y.score.points, .int .i64 y.score.asof, .int .i64 y.ping, .int .i64 y.work])).run Try.prog w = .ok (.bool (!decide (x = y))) w := by rw [run_neq_struct]; exact congrArg (fun r : Result Bool => r.andThen fun b w' => Result.ok (Value.bool (!b)) w') (eqIn_PeerD 9994 x y w)

theorem eqIn_EntryD (d : Nat) (x y : EntryD) (w : World) : (Op.equalIn (d + 6) 105 (.agg #[.bool x.en.addr.v6, .int .u64 x.en.addr.hi.toNat, .int .u64 x.en.addr.lo.toNat, .int .i64 x.en.port, .int .i64 x.state, .int .i64 x.fails, .int .i64 x.next]) (.agg #[.bool y.en.addr.v6, .int .u64 y.en.addr.hi.toNat, .int .u64 y.en.addr.lo.toNat, .int .i64 y.en.port, .int .i64 y.state, .int .i64 y.fails, .int .i64 y.next])).run Try.prog w = .ok (decide (x = y)) w := by rw [run_equalIn_struct w (d + 5) _ _ _ (by kernel_rfl) (by kernel_rfl)]; simp only [eqFieldsOf_EntryD, Op.eqFields]; simp [go_sem, eqIn_EndD]; cases x; cases y; simp only [EntryD.mk.injEq]; (repeat' split) <;> simp_all

theorem eql_EntryD (x y : EntryD) (w : World) : (binOp .eql 105 (.agg #[.bool x.en.addr.v6, .int .u64 x.en.addr.hi.toNat, .int .u64 x.en.addr.lo.toNat, .int .i64 x.en.port, .int .i64 x.state, .int .i64 x.fails, .int .i64 x.next]) (.agg #[.bool y.en.addr.v6, .int .u64 y.en.addr.hi.toNat, .int .u64 y.en.addr.lo.toNat, .int .i64 y.en.port, .int .i64 y.state, .int .i64 y.fails, .int .i64 y.next])).run Try.prog w = .ok (.bool (decide (x = y))) w := by rw [run_eql_struct]; exact congrArg (fun r : Result Bool => r.andThen fun b w' => Result.ok (Value.bool b) w') (eqIn_EntryD 9994 x y w)

theorem neq_EntryD (x y : EntryD) (w : World) : (binOp .neq 105 (.agg #[.bool x.en.addr.v6, .int .u64 x.en.addr.hi.toNat, .int .u64 x.en.addr.lo.toNat, .int .i64 x.en.port, .int .i64 x.state, .int .i64 x.fails, .int .i64 x.next]) (.agg #[.bool y.en.addr.v6, .int .u64 y.en.addr.hi.toNat, .int .u64 y.en.addr.lo.toNat, .int .i64 y.en.port, .int .i64 y.state, .int .i64 y.fails, .int .i64 y.next])).run Try.prog w = .ok (.bool (!decide (x = y))) w := by rw [run_neq_struct]; exact congrArg (fun r : Result Bool => r.andThen fun b w' => Result.ok (Value.bool (!b)) w') (eqIn_EntryD 9994 x y w)

theorem eqIn_LocD (d : Nat) (x y : LocD) (w : World) : (Op.equalIn (d + 2) 55 (.agg #[.int .i64 x.kind, .int .i64 x.shard, .int .i64 x.slot]) (.agg #[.int .i64 y.kind, .int .i64 y.shard, .int .i64 y.slot])).run Try.prog w = .ok (decide (x = y)) w := by rw [run_equalIn_struct w (d + 1) _ _ _ (by kernel_rfl) (by kernel_rfl)]; simp only [eqFieldsOf_LocD, Op.eqFields]; simp [go_sem]; cases x; cases y; simp only [LocD.mk.injEq]; (repeat' split) <;> simp_all

theorem eql_LocD (x y : LocD) (w : World) : (binOp .eql 55 (.agg #[.int .i64 x.kind, .int .i64 x.shard, .int .i64 x.slot]) (.agg #[.int .i64 y.kind, .int .i64 y.shard, .int .i64 y.slot])).run Try.prog w = .ok (.bool (decide (x = y))) w := by rw [run_eql_struct]; exact congrArg (fun r : Result Bool => r.andThen fun b w' => Result.ok (Value.bool b) w') (eqIn_LocD 9998 x y w)

theorem neq_LocD (x y : LocD) (w : World) : (binOp .neq 55 (.agg #[.int .i64 x.kind, .int .i64 x.shard, .int .i64 x.slot]) (.agg #[.int .i64 y.kind, .int .i64 y.shard, .int .i64 y.slot])).run Try.prog w = .ok (.bool (!decide (x = y))) w := by rw [run_neq_struct]; exact congrArg (fun r : Result Bool => r.andThen fun b w' => Result.ok (Value.bool (!b)) w') (eqIn_LocD 9998 x y w)




end Go.Proofs.Ytocebogaopjkfaa
