/-
  Functions and their contracts.
  WRITTEN BY A PROGRAM OF MY OWN (wip/gen/am.py).
-/
import Derived.Test.YtnbkjjoodmmneaaTapA0
namespace Go.Proofs.Ytnbkjjoodmmneaa
open Go.RowKit Go.Lib Go.Shelf
set_option linter.unusedVariables false
set_option maxRecDepth 100000
/-- doorman/doormansame.Value -/
def g_doormansame_Value (a0 : T_api_Value) (a1 : T_api_Value) : Option Bool :=
  bif (a0.fN == a1.fN) then
    bif (decide (a0.fPeer = a1.fPeer)) then
      (g_doormansame_Bans a0.fBans a1.fBans).bind fun x1 =>
      bif x1 then
        (g_doormansame_Book a0.fBook a1.fBook).bind fun x2 =>
        some x2
      else
        some false
    else
      some false
  else
    some false

theorem g_doormansame_Value_ok (a0 : T_api_Value) (a1 : T_api_Value) (r : Bool) (hf : g_doormansame_Value a0 a1 = some r) : SCall Try.prog 49 [.agg (T_api_Value.c a0), .agg (T_api_Value.c a1)] (.one (.lit (.bool r))) := by
  refine SCall.of Try.func49 rfl rfl rfl rfl fun S0 w0 => ?_
  unfold g_doormansame_Value at hf
  rcases br_some hf with ⟨h1, hf⟩ | ⟨h1, hf⟩
  · rcases br_some hf with ⟨h2, hf⟩ | ⟨h2, hf⟩
    · obtain ⟨x1, q3, hf⟩ := bind_some' hf
      rcases br_some hf with ⟨h4, hf⟩ | ⟨h4, hf⟩
      · obtain ⟨x2, q5, hf⟩ := bind_some' hf
        replace hf := Option.some.inj hf
        subst hf
        exact toEnd_g allOk 4 [rz, ⟨[(10, aB (decide (a0.fPeer = a1.fPeer))), (17, aB x1), (24, aB x2)], [(5, true), (12, true), (19, true)], [], [], [], [], []⟩] [] [] [] [] (.c h1 (.c (eql_T_api_Peer a0.fPeer a1.fPeer (.tmp 12) (.tmp 14)) (.c h2 (.c (g_doormansame_Bans_ok a0.fBans a1.fBans x1 q3) (.c h4 (.c (g_doormansame_Book_ok a0.fBook a1.fBook x2 q5) .n)))))) (by kernel_rfl) rfl
      · replace hf := Option.some.inj hf
        subst hf
        exact toEnd_g allOk 4 [rz, ⟨[(10, aB (decide (a0.fPeer = a1.fPeer))), (17, aB x1)], [(5, true), (12, true), (19, false)], [], [], [], [], []⟩] [] [] [] [] (.c h1 (.c (eql_T_api_Peer a0.fPeer a1.fPeer (.tmp 12) (.tmp 14)) (.c h2 (.c (g_doormansame_Bans_ok a0.fBans a1.fBans x1 q3) (.c h4 .n))))) (by kernel_rfl) rfl
    · replace hf := Option.some.inj hf
      subst hf
      exact toEnd_g allOk 4 [rz, ⟨[(10, aB (decide (a0.fPeer = a1.fPeer)))], [(5, true), (12, false)], [], [], [], [], []⟩] [] [] [] [] (.c h1 (.c (eql_T_api_Peer a0.fPeer a1.fPeer (.tmp 12) (.tmp 14)) (.c h2 .n))) (by kernel_rfl) rfl
  · replace hf := Option.some.inj hf
    subst hf
    exact toEnd_g allOk 4 [rz, rB [(5, false)]] [] [] [] [] (.c h1 .n) (by kernel_rfl) rfl

/-- doorman/doormansame.Op -/
def g_doormansame_Op (a0 : T_api_Op) (a1 : T_api_Op) : Option Bool :=
  bif (a0.fKind == a1.fKind) then
    bif (a0.fLock == a1.fLock) then
      bif (decide (a0.fLoc = a1.fLoc)) then
        bif (a0.fOld == a1.fOld) then
          bif (a0.fNew == a1.fNew) then
            bif (a0.fMark == a1.fMark) then
              (g_doormansame_Value a0.fVal a1.fVal).bind fun x1 =>
              some x1
            else
              some false
          else
            some false
        else
          some false
      else
        some false
    else
      some false
  else
    some false

theorem g_doormansame_Op_ok (a0 : T_api_Op) (a1 : T_api_Op) (r : Bool) (hf : g_doormansame_Op a0 a1 = some r) : SCall Try.prog 23 [.agg (T_api_Op.c a0), .agg (T_api_Op.c a1)] (.one (.lit (.bool r))) := by
  refine SCall.of Try.func23 rfl rfl rfl rfl fun S0 w0 => ?_
  unfold g_doormansame_Op at hf
  rcases br_some hf with ⟨h1, hf⟩ | ⟨h1, hf⟩
  · rcases br_some hf with ⟨h2, hf⟩ | ⟨h2, hf⟩
    · rcases br_some hf with ⟨h3, hf⟩ | ⟨h3, hf⟩
      · rcases br_some hf with ⟨h4, hf⟩ | ⟨h4, hf⟩
        · rcases br_some hf with ⟨h5, hf⟩ | ⟨h5, hf⟩
          · rcases br_some hf with ⟨h6, hf⟩ | ⟨h6, hf⟩
            · obtain ⟨x1, q7, hf⟩ := bind_some' hf
              replace hf := Option.some.inj hf
              subst hf
              exact toEnd_g allOk 4 [rz, ⟨[(17, aB (decide (a0.fLoc = a1.fLoc))), (45, aB x1)], [(5, true), (12, true), (19, true), (26, true), (33, true), (40, true)], [], [], [], [], []⟩] [] [] [] [] (.c h1 (.c h2 (.c (eql_T_api_Loc a0.fLoc a1.fLoc (.tmp 19) (.tmp 21)) (.c h3 (.c h4 (.c h5 (.c h6 (.c (g_doormansame_Value_ok a0.fVal a1.fVal x1 q7) .n)))))))) (by kernel_rfl) rfl
            · replace hf := Option.some.inj hf
              subst hf
              exact toEnd_g allOk 4 [rz, ⟨[(17, aB (decide (a0.fLoc = a1.fLoc)))], [(5, true), (12, true), (19, true), (26, true), (33, true), (40, false)], [], [], [], [], []⟩] [] [] [] [] (.c h1 (.c h2 (.c (eql_T_api_Loc a0.fLoc a1.fLoc (.tmp 19) (.tmp 21)) (.c h3 (.c h4 (.c h5 (.c h6 .n))))))) (by kernel_rfl) rfl
          · replace hf := Option.some.inj hf
            subst hf
            exact toEnd_g allOk 4 [rz, ⟨[(17, aB (decide (a0.fLoc = a1.fLoc)))], [(5, true), (12, true), (19, true), (26, true), (33, false)], [], [], [], [], []⟩] [] [] [] [] (.c h1 (.c h2 (.c (eql_T_api_Loc a0.fLoc a1.fLoc (.tmp 19) (.tmp 21)) (.c h3 (.c h4 (.c h5 .n)))))) (by kernel_rfl) rfl
        · replace hf := Option.some.inj hf
          subst hf
          exact toEnd_g allOk 4 [rz, ⟨[(17, aB (decide (a0.fLoc = a1.fLoc)))], [(5, true), (12, true), (19, true), (26, false)], [], [], [], [], []⟩] [] [] [] [] (.c h1 (.c h2 (.c (eql_T_api_Loc a0.fLoc a1.fLoc (.tmp 19) (.tmp 21)) (.c h3 (.c h4 .n))))) (by kernel_rfl) rfl
      · replace hf := Option.some.inj hf
        subst hf
        exact toEnd_g allOk 4 [rz, ⟨[(17, aB (decide (a0.fLoc = a1.fLoc)))], [(5, true), (12, true), (19, false)], [], [], [], [], []⟩] [] [] [] [] (.c h1 (.c h2 (.c (eql_T_api_Loc a0.fLoc a1.fLoc (.tmp 19) (.tmp 21)) (.c h3 .n)))) (by kernel_rfl) rfl
    · replace hf := Option.some.inj hf
      subst hf
      exact toEnd_g allOk 4 [rz, rB [(5, true), (12, false)]] [] [] [] [] (.c h1 (.c h2 .n)) (by kernel_rfl) rfl
  · replace hf := Option.some.inj hf
    subst hf
    exact toEnd_g allOk 4 [rz, rB [(5, false)]] [] [] [] [] (.c h1 .n) (by kernel_rfl) rfl

def g_doormansame_Peers_c0 (a0 : (List T_api_Peer)) (a1 : (List T_api_Peer))  : Nat → Int → Option Bool
  | 0, _ => none
  | fu + 1, v5 =>
    bif (decide (v5 < ((a0.length : Nat) : Int))) then
      bif (decide (v5 < ((a1.length : Nat) : Int))) then
        need (0 ≤ v5 ∧ v5 < ((a0.length : Nat) : Int)) <|
        need (0 ≤ v5 ∧ v5 < ((a1.length : Nat) : Int)) <|
        bif (!(decide ((a0.getD v5.toNat T_api_Peer.d) = (a1.getD v5.toNat T_api_Peer.d)))) then
          some false
        else
          g_doormansame_Peers_c0 a0 a1  fu (add64 v5 (1 : Int))
      else
        some true
    else
      some true

theorem g_doormansame_Peers_c0_ok (S0 : Nat → Prop) (w0 : Start) (a0 : (List T_api_Peer)) (a1 : (List T_api_Peer))  : ∀ (fu : Nat) (v5 : Int) (r : Bool), g_doormansame_Peers_c0 a0 a1  fu v5 = some r → Good Try.prog 32 S0 w0 (bodyPost Try.prog Try.f50 (Post S0 w0 (.one (.lit (.bool r))))) (at_ [1, 1, 0, 1, 0] (bodyOf Try.f50)) ⟨[(0, .one (cL 10 T_api_Peer.c T_api_Peer.d a0)), (1, .one (cL 10 T_api_Peer.c T_api_Peer.d a1)), (5, .one (.lit (.int .i64 v5)))], []⟩ := by
  intro fu
  induction fu with
  | zero =>
    intro v5 r hf
    simp [g_doormansame_Peers_c0] at hf
  | succ fu ih =>
    intro v5 r hf
    unfold g_doormansame_Peers_c0 at hf
    rcases br_some hf with ⟨h2, hf⟩ | ⟨h2, hf⟩
    · rcases br_some hf with ⟨h3, hf⟩ | ⟨h3, hf⟩
      · obtain ⟨o4, hf⟩ := need_some hf
        obtain ⟨o5, hf⟩ := need_some hf
        rcases br_some hf with ⟨h6, hf⟩ | ⟨h6, hf⟩
        · replace hf := Option.some.inj hf
          subst hf
          exact toEnd_g allOk 13 [rB [(4, true)], rA [(8, aB (!(decide ((a0.getD v5.toNat T_api_Peer.d) = (a1.getD v5.toNat T_api_Peer.d)))))], rz] [true, true] [] [] [] (.c h2 (.c h3 (.c o4 (.c o5 (.c (neq_T_api_Peer (a0.getD v5.toNat T_api_Peer.d) (a1.getD v5.toNat T_api_Peer.d) (.tmp 26) (.tmp 30)) (.c h6 .n)))))) (by kernel_rfl) rfl
        · exact toK_g allOk Post.ends 15 [rB [(4, true)], rA [(8, aB (!(decide ((a0.getD v5.toNat T_api_Peer.d) = (a1.getD v5.toNat T_api_Peer.d)))))], rz] [true, false] ⟨[], [], [], [], [], [0, 1, 5], [], []⟩ (.c h2 (.c h3 (.c o4 (.c o5 (.c (neq_T_api_Peer (a0.getD v5.toNat T_api_Peer.d) (a1.getD v5.toNat T_api_Peer.d) (.tmp 26) (.tmp 30)) (.c h6 .n)))))) (by kernel_rfl) (ih (add64 v5 (1 : Int)) r hf)
      · replace hf := Option.some.inj hf
        subst hf
        exact toEnd_g allOk 8 [rB [(4, true)], rz] [false] [] [] [] (.c h2 (.c h3 .n)) (by kernel_rfl) rfl
    · replace hf := Option.some.inj hf
      subst hf
      exact toEnd_g allOk 8 [rB [(4, false)], rz] [false] [] [] [] (.c h2 (.c (show false = false from rfl) .n)) (by kernel_rfl) rfl

/-- doorman/doormansame.Peers -/
def g_doormansame_Peers (a0 : (List T_api_Peer)) (a1 : (List T_api_Peer)) : Option Bool :=
  bif (((a0.length : Nat) : Int) != ((a1.length : Nat) : Int)) then
    some false
  else
    g_doormansame_Peers_c0 a0 a1  ((((a1.length : Nat) : Int) - (0 : Int)).toNat + 2) (0 : Int)

theorem g_doormansame_Peers_ok (a0 : (List T_api_Peer)) (a1 : (List T_api_Peer)) (r : Bool) (hf : g_doormansame_Peers a0 a1 = some r) : SCall Try.prog 50 [.one (cL 10 T_api_Peer.c T_api_Peer.d a0), .one (cL 10 T_api_Peer.c T_api_Peer.d a1)] (.one (.lit (.bool r))) := by
  refine SCall.of Try.func50 rfl rfl rfl rfl fun S0 w0 => ?_
  unfold g_doormansame_Peers at hf
  rcases br_some hf with ⟨h1, hf⟩ | ⟨h1, hf⟩
  · replace hf := Option.some.inj hf
    subst hf
    exact toEnd_g allOk 8 [rz, rz, rz] [true] [] [] [] (.c h1 .n) (by kernel_rfl) rfl
  · exact toK_g allOk Post.ends 11 [rz, rz, rz] [false] ⟨[], [], [], [], [], [0, 1, 5], [], []⟩ (.c h1 .n) (by kernel_rfl) (g_doormansame_Peers_c0_ok S0 w0 a0 a1   ((((a1.length : Nat) : Int) - (0 : Int)).toNat + 2) (0 : Int) r hf)

/-- doorman/doormansame.Reply -/
def g_doormansame_Reply (a0 : T_api_Reply) (a1 : T_api_Reply) : Option Bool :=
  bif (a0.fCode == a1.fCode) then
    bif (decide (a0.fEnd = a1.fEnd)) then
      bif (a0.fN == a1.fN) then
        bif (a0.fUntil == a1.fUntil) then
          (g_doormansame_Peers a0.fPeers a1.fPeers).bind fun x1 =>
          some x1
        else
          some false
      else
        some false
    else
      some false
  else
    some false

theorem g_doormansame_Reply_ok (a0 : T_api_Reply) (a1 : T_api_Reply) (r : Bool) (hf : g_doormansame_Reply a0 a1 = some r) : SCall Try.prog 24 [.agg (T_api_Reply.c a0), .agg (T_api_Reply.c a1)] (.one (.lit (.bool r))) := by
  refine SCall.of Try.func24 rfl rfl rfl rfl fun S0 w0 => ?_
  unfold g_doormansame_Reply at hf
  rcases br_some hf with ⟨h1, hf⟩ | ⟨h1, hf⟩
  · rcases br_some hf with ⟨h2, hf⟩ | ⟨h2, hf⟩
    · rcases br_some hf with ⟨h3, hf⟩ | ⟨h3, hf⟩
      · rcases br_some hf with ⟨h4, hf⟩ | ⟨h4, hf⟩
        · obtain ⟨x1, q5, hf⟩ := bind_some' hf
          replace hf := Option.some.inj hf
          subst hf
          exact toEnd_g allOk 4 [rz, ⟨[(10, aB (decide (a0.fEnd = a1.fEnd))), (31, aB x1)], [(5, true), (12, true), (19, true), (26, true)], [], [], [], [], []⟩] [] [] [] [] (.c h1 (.c (eql_T_api_End a0.fEnd a1.fEnd (.tmp 12) (.tmp 14)) (.c h2 (.c h3 (.c h4 (.c (g_doormansame_Peers_ok a0.fPeers a1.fPeers x1 q5) .n)))))) (by kernel_rfl) rfl
        · replace hf := Option.some.inj hf
          subst hf
          exact toEnd_g allOk 4 [rz, ⟨[(10, aB (decide (a0.fEnd = a1.fEnd)))], [(5, true), (12, true), (19, true), (26, false)], [], [], [], [], []⟩] [] [] [] [] (.c h1 (.c (eql_T_api_End a0.fEnd a1.fEnd (.tmp 12) (.tmp 14)) (.c h2 (.c h3 (.c h4 .n))))) (by kernel_rfl) rfl
      · replace hf := Option.some.inj hf
        subst hf
        exact toEnd_g allOk 4 [rz, ⟨[(10, aB (decide (a0.fEnd = a1.fEnd)))], [(5, true), (12, true), (19, false)], [], [], [], [], []⟩] [] [] [] [] (.c h1 (.c (eql_T_api_End a0.fEnd a1.fEnd (.tmp 12) (.tmp 14)) (.c h2 (.c h3 .n)))) (by kernel_rfl) rfl
    · replace hf := Option.some.inj hf
      subst hf
      exact toEnd_g allOk 4 [rz, ⟨[(10, aB (decide (a0.fEnd = a1.fEnd)))], [(5, true), (12, false)], [], [], [], [], []⟩] [] [] [] [] (.c h1 (.c (eql_T_api_End a0.fEnd a1.fEnd (.tmp 12) (.tmp 14)) (.c h2 .n))) (by kernel_rfl) rfl
  · replace hf := Option.some.inj hf
    subst hf
    exact toEnd_g allOk 4 [rz, rB [(5, false)]] [] [] [] [] (.c h1 .n) (by kernel_rfl) rfl

def g_doormanlaw38_TapeDrills_c0   (v7 : Bool) (v8 : Bool) (v9 : Int) (b5 : T_tape_Turn) (b6 : T_api_Op) : Option Bool :=
  (g_doormansame_Op b5.fOp b6).bind fun x5 =>
  bif x5 then
    bif (b5.fDone == v7) then
      bif (b5.fBroken == v8) then
        (g_doormansame_Reply b5.fReply (T_api_Reply.mk (0 : Int) (T_api_End.mk (T_api_Addr.mk false (0 : Int) (0 : Int)) (0 : Int)) v9 (0 : Int) ([] : (List T_api_Peer)))).bind fun x6 =>
        bif x6 then
          (g_doormanlaw38_awake).bind fun x7 =>
          some x7
        else
          some false
      else
        some false
    else
      some false
  else
    some false

theorem g_doormanlaw38_TapeDrills_c0_ok (S0 : Nat → Prop) (w0 : Start)   (v7 : Bool) (v8 : Bool) (v9 : Int) (b5 : T_tape_Turn) (b6 : T_api_Op) (r : Bool) (hf : g_doormanlaw38_TapeDrills_c0   v7 v8 v9 b5 b6 = some r) : Good Try.prog 54 S0 w0 (bodyPost Try.prog Try.f5 (Post S0 w0 (.one (.lit (.bool r))))) (at_ [1, 1, 1, 1, 1, 1] (bodyOf Try.f5)) ⟨[(5, .one (.ptr 5 0)), (6, .one (.ptr 6 0)), (7, .one (.lit (.bool v7))), (8, .one (.lit (.bool v8))), (9, .one (.lit (.int .i64 v9)))], [(5, .box [.lit (.int .i64 b5.fOp.fKind), .lit (.int .i64 b5.fOp.fLock), .lit (.int .i64 b5.fOp.fLoc.fKind), .lit (.int .i64 b5.fOp.fLoc.fShard), .lit (.int .i64 b5.fOp.fLoc.fSlot), .lit (.int .i64 b5.fOp.fOld), .lit (.int .i64 b5.fOp.fNew), .lit (.int .i64 b5.fOp.fVal.fN), .lit (.bool b5.fOp.fVal.fPeer.fEnd.fAddr.fV6), .lit (.int .u64 b5.fOp.fVal.fPeer.fEnd.fAddr.fHi), .lit (.int .u64 b5.fOp.fVal.fPeer.fEnd.fAddr.fLo), .lit (.int .i64 b5.fOp.fVal.fPeer.fEnd.fPort), .lit (.bool b5.fOp.fVal.fPeer.fIn), .lit (.int .i64 b5.fOp.fVal.fPeer.fSince), .lit (.int .i64 b5.fOp.fVal.fPeer.fScore.fPoints), .lit (.int .i64 b5.fOp.fVal.fPeer.fScore.fAt), .lit (.int .i64 b5.fOp.fVal.fPeer.fPing), .lit (.int .i64 b5.fOp.fVal.fPeer.fWork), cL 5 T_api_Ban.c T_api_Ban.d b5.fOp.fVal.fBans, cL 7 T_api_Entry.c T_api_Entry.d b5.fOp.fVal.fBook, .lit (.bool b5.fOp.fMark), .lit (.int .i64 b5.fReply.fCode), .lit (.bool b5.fReply.fEnd.fAddr.fV6), .lit (.int .u64 b5.fReply.fEnd.fAddr.fHi), .lit (.int .u64 b5.fReply.fEnd.fAddr.fLo), .lit (.int .i64 b5.fReply.fEnd.fPort), .lit (.int .i64 b5.fReply.fN), .lit (.int .i64 b5.fReply.fUntil), cL 10 T_api_Peer.c T_api_Peer.d b5.fReply.fPeers, .lit (.bool b5.fDone), .lit (.bool b5.fBroken)]), (6, .box [.lit (.int .i64 b6.fKind), .lit (.int .i64 b6.fLock), .lit (.int .i64 b6.fLoc.fKind), .lit (.int .i64 b6.fLoc.fShard), .lit (.int .i64 b6.fLoc.fSlot), .lit (.int .i64 b6.fOld), .lit (.int .i64 b6.fNew), .lit (.int .i64 b6.fVal.fN), .lit (.bool b6.fVal.fPeer.fEnd.fAddr.fV6), .lit (.int .u64 b6.fVal.fPeer.fEnd.fAddr.fHi), .lit (.int .u64 b6.fVal.fPeer.fEnd.fAddr.fLo), .lit (.int .i64 b6.fVal.fPeer.fEnd.fPort), .lit (.bool b6.fVal.fPeer.fIn), .lit (.int .i64 b6.fVal.fPeer.fSince), .lit (.int .i64 b6.fVal.fPeer.fScore.fPoints), .lit (.int .i64 b6.fVal.fPeer.fScore.fAt), .lit (.int .i64 b6.fVal.fPeer.fPing), .lit (.int .i64 b6.fVal.fPeer.fWork), cL 5 T_api_Ban.c T_api_Ban.d b6.fVal.fBans, cL 7 T_api_Entry.c T_api_Entry.d b6.fVal.fBook, .lit (.bool b6.fMark)])]⟩ := by
  unfold g_doormanlaw38_TapeDrills_c0 at hf
  obtain ⟨x5, q7, hf⟩ := bind_some' hf
  rcases br_some hf with ⟨h8, hf⟩ | ⟨h8, hf⟩
  · rcases br_some hf with ⟨h9, hf⟩ | ⟨h9, hf⟩
    · rcases br_some hf with ⟨h10, hf⟩ | ⟨h10, hf⟩
      · obtain ⟨x6, q11, hf⟩ := bind_some' hf
        rcases br_some hf with ⟨h12, hf⟩ | ⟨h12, hf⟩
        · obtain ⟨x7, q13, hf⟩ := bind_some' hf
          replace hf := Option.some.inj hf
          subst hf
          exact toEnd_g allOk 2 [⟨[(3, aB x5), (21, aB x6), (24, aB x7)], [(4, true), (10, true), (16, true), (23, true)], [], [], [(20, [(7, cL 10 T_api_Peer.c T_api_Peer.d [])])], [], []⟩] [] [] [] [] (.c (g_doormansame_Op_ok b5.fOp b6 x5 q7) (.c h8 (.c h9 (.c h10 (.c (g_doormansame_Reply_ok b5.fReply (T_api_Reply.mk (0 : Int) (T_api_End.mk (T_api_Addr.mk false (0 : Int) (0 : Int)) (0 : Int)) v9 (0 : Int) ([] : (List T_api_Peer))) x6 q11) (.c h12 (.c (g_doormanlaw38_awake_ok  x7 q13) .n))))))) (by kernel_rfl) rfl
        · replace hf := Option.some.inj hf
          subst hf
          exact toEnd_g allOk 2 [⟨[(3, aB x5), (21, aB x6)], [(4, true), (10, true), (16, true), (23, false)], [], [], [(20, [(7, cL 10 T_api_Peer.c T_api_Peer.d [])])], [], []⟩] [] [] [] [] (.c (g_doormansame_Op_ok b5.fOp b6 x5 q7) (.c h8 (.c h9 (.c h10 (.c (g_doormansame_Reply_ok b5.fReply (T_api_Reply.mk (0 : Int) (T_api_End.mk (T_api_Addr.mk false (0 : Int) (0 : Int)) (0 : Int)) v9 (0 : Int) ([] : (List T_api_Peer))) x6 q11) (.c h12 .n)))))) (by kernel_rfl) rfl
      · replace hf := Option.some.inj hf
        subst hf
        exact toEnd_g allOk 2 [⟨[(3, aB x5)], [(4, true), (10, true), (16, false)], [], [], [], [], []⟩] [] [] [] [] (.c (g_doormansame_Op_ok b5.fOp b6 x5 q7) (.c h8 (.c h9 (.c h10 .n)))) (by kernel_rfl) rfl
    · replace hf := Option.some.inj hf
      subst hf
      exact toEnd_g allOk 2 [⟨[(3, aB x5)], [(4, true), (10, false)], [], [], [], [], []⟩] [] [] [] [] (.c (g_doormansame_Op_ok b5.fOp b6 x5 q7) (.c h8 (.c h9 .n))) (by kernel_rfl) rfl
  · replace hf := Option.some.inj hf
    subst hf
    exact toEnd_g allOk 2 [⟨[(3, aB x5)], [(4, false)], [], [], [], [], []⟩] [] [] [] [] (.c (g_doormansame_Op_ok b5.fOp b6 x5 q7) (.c h8 .n)) (by kernel_rfl) rfl

/-- doorman/doormanlaw38.TapeDrills -/
def g_doormanlaw38_TapeDrills (a0 : (List T_api_Op)) (a1 : (List T_api_Value)) : Option Bool :=
  (g_doormanlaw38_light a0 a1).bind fun x1 =>
  bif (!x1) then
    (g_doormanlaw38_awake).bind fun x2 =>
    some x2
  else
    (g_tape_Drill a0 a1).bind fun x3 =>
    (g_doormanref38_Drill a0 a1).bind fun x4 =>
    bif x4.2.1 then
      g_doormanlaw38_TapeDrills_c0   x4.2.1 x4.2.2 ((a0.length : Nat) : Int) x3 x4.1
    else
      g_doormanlaw38_TapeDrills_c0   x4.2.1 x4.2.2 (0 : Int) x3 x4.1

theorem g_doormanlaw38_TapeDrills_ok (a0 : (List T_api_Op)) (a1 : (List T_api_Value)) (r : Bool) (hf : g_doormanlaw38_TapeDrills a0 a1 = some r) : SCall Try.prog 5 [.one (cL 21 T_api_Op.c T_api_Op.d a0), .one (cL 13 T_api_Value.c T_api_Value.d a1)] (.one (.lit (.bool r))) := by
  refine SCall.of Try.func5 rfl rfl rfl rfl fun S0 w0 => ?_
  unfold g_doormanlaw38_TapeDrills at hf
  obtain ⟨x1, q1, hf⟩ := bind_some' hf
  rcases br_some hf with ⟨h2, hf⟩ | ⟨h2, hf⟩
  · obtain ⟨x2, q3, hf⟩ := bind_some' hf
    replace hf := Option.some.inj hf
    subst hf
    exact toEnd_g allOk 8 [rz, rA [(2, aB x1)], rA [(0, aB x2)]] [true] [] [] [] (.c (g_doormanlaw38_light_ok a0 a1 x1 q1) (.c h2 (.c (g_doormanlaw38_awake_ok  x2 q3) .n))) (by kernel_rfl) rfl
  · obtain ⟨x3, q4, hf⟩ := bind_some' hf
    obtain ⟨x4, q5, hf⟩ := bind_some' hf
    rcases br_some hf with ⟨h6, hf⟩ | ⟨h6, hf⟩
    · exact toK_g allOk Post.ends 18 [rz, rA [(2, aB x1)], rA [(2, aG (T_tape_Turn.c x3))], rA [(2, .r (.tup [(true, T_api_Op.c x4.1), (false, cB x4.2.1), (false, cB x4.2.2)]) [])], rz, rz, rz] [false, true] ⟨[], [], [], [], [], [5, 6, 7, 8, 9], [5, 6], []⟩ (.c (g_doormanlaw38_light_ok a0 a1 x1 q1) (.c h2 (.c (g_tape_Drill_ok a0 a1 x3 q4) (.c (g_doormanref38_Drill_ok a0 a1 x4 q5) (.c h6 .n))))) (by kernel_rfl) (g_doormanlaw38_TapeDrills_c0_ok S0 w0    x4.2.1 x4.2.2 ((a0.length : Nat) : Int) x3 x4.1 r hf)
    · exact toK_g allOk Post.ends 18 [rz, rA [(2, aB x1)], rA [(2, aG (T_tape_Turn.c x3))], rA [(2, .r (.tup [(true, T_api_Op.c x4.1), (false, cB x4.2.1), (false, cB x4.2.2)]) [])], rz, rz] [false, false] ⟨[], [], [], [], [], [5, 6, 7, 8, 9], [5, 6], []⟩ (.c (g_doormanlaw38_light_ok a0 a1 x1 q1) (.c h2 (.c (g_tape_Drill_ok a0 a1 x3 q4) (.c (g_doormanref38_Drill_ok a0 a1 x4 q5) (.c h6 .n))))) (by kernel_rfl) (g_doormanlaw38_TapeDrills_c0_ok S0 w0    x4.2.1 x4.2.2 (0 : Int) x3 x4.1 r hf)

/-- doorman/doormanlaw38.TapeAhead -/
def g_doormanlaw38_TapeAhead (a0 : (List T_api_Op)) (a1 : (List T_api_Value)) (a2 : (List T_api_Value)) : Option Bool :=
  (g_doormanlaw38_light a0 a1).bind fun x1 =>
  bif (!x1) then
    (g_doormanlaw38_awake).bind fun x2 =>
    some x2
  else
    bif (decide (((a2.length : Nat) : Int) > (60 : Int))) then
      (g_doormanlaw38_awake).bind fun x3 =>
      some x3
    else
      (g_tape_Drill a0 a1).bind fun x4 =>
      need ((([] : List T_api_Value) ++ a1).length * 136 ≤ 140737488355328 ∧ (([] : List T_api_Value) ++ a1).length ≤ maxLen) <|
      need (((([] : List T_api_Value) ++ a1) ++ a2).length * 136 ≤ 140737488355328 ∧ ((([] : List T_api_Value) ++ a1) ++ a2).length ≤ maxLen) <|
      need (0 ≤ ((a1.length : Nat) : Int) ∧ ((a1.length : Nat) : Int) ≤ ((((([] : List T_api_Value) ++ a1) ++ a2).length : Nat) : Int)) <|
      (g_tape_Drill a0 (((([] : List T_api_Value) ++ a1) ++ a2).take ((a1.length : Nat) : Int).toNat)).bind fun x5 =>
      (g_tape_Drill a0 ((([] : List T_api_Value) ++ a1) ++ a2)).bind fun x6 =>
      (g_doormansame_Op x4.fOp x5.fOp).bind fun x7 =>
      bif (!x7) then
        some false
      else
        bif (!(x4.fDone == x5.fDone)) then
          some false
        else
          bif (!(x4.fBroken == x5.fBroken)) then
            some false
          else
            bif (!x4.fDone) then
              bif (!x4.fBroken) then
                (g_doormanlaw38_awake).bind fun x8 =>
                some x8
              else
                bif x6.fBroken then
                  (g_doormanlaw38_awake).bind fun x9 =>
                  some x9
                else
                  some false
            else
              bif x6.fDone then
                bif (x6.fReply.fN == x4.fReply.fN) then
                  bif (!x4.fBroken) then
                    (g_doormanlaw38_awake).bind fun x10 =>
                    some x10
                  else
                    bif x6.fBroken then
                      (g_doormanlaw38_awake).bind fun x11 =>
                      some x11
                    else
                      some false
                else
                  some false
              else
                some false

theorem g_doormanlaw38_TapeAhead_ok (a0 : (List T_api_Op)) (a1 : (List T_api_Value)) (a2 : (List T_api_Value)) (r : Bool) (hf : g_doormanlaw38_TapeAhead a0 a1 a2 = some r) : SCall Try.prog 6 [.one (cL 21 T_api_Op.c T_api_Op.d a0), .one (cL 13 T_api_Value.c T_api_Value.d a1), .one (cL 13 T_api_Value.c T_api_Value.d a2)] (.one (.lit (.bool r))) := by
  refine SCall.of Try.func6 rfl rfl rfl rfl fun S0 w0 => ?_
  unfold g_doormanlaw38_TapeAhead at hf
  obtain ⟨x1, q1, hf⟩ := bind_some' hf
  rcases br_some hf with ⟨h2, hf⟩ | ⟨h2, hf⟩
  · obtain ⟨x2, q3, hf⟩ := bind_some' hf
    replace hf := Option.some.inj hf
    subst hf
    exact toEnd_g allOk 8 [rz, ⟨[(2, aB x1)], [(4, true)], [], [], [], [], []⟩, rA [(0, aB x2)]] [true] [] [] [] (.c (g_doormanlaw38_light_ok a0 a1 x1 q1) (.c h2 (.c (show true = true from rfl) (.c (g_doormanlaw38_awake_ok  x2 q3) .n)))) (by kernel_rfl) rfl
  · rcases br_some hf with ⟨h4, hf⟩ | ⟨h4, hf⟩
    · obtain ⟨x3, q5, hf⟩ := bind_some' hf
      replace hf := Option.some.inj hf
      subst hf
      exact toEnd_g allOk 8 [rz, ⟨[(2, aB x1)], [(4, false)], [], [], [], [], []⟩, rA [(0, aB x3)]] [true] [] [] [] (.c (g_doormanlaw38_light_ok a0 a1 x1 q1) (.c h2 (.c h4 (.c (g_doormanlaw38_awake_ok  x3 q5) .n)))) (by kernel_rfl) rfl
    · obtain ⟨x4, q6, hf⟩ := bind_some' hf
      obtain ⟨o7, hf⟩ := need_some hf
      obtain ⟨o8, hf⟩ := need_some hf
      obtain ⟨o9, hf⟩ := need_some hf
      obtain ⟨x5, q10, hf⟩ := bind_some' hf
      obtain ⟨x6, q11, hf⟩ := bind_some' hf
      obtain ⟨x7, q12, hf⟩ := bind_some' hf
      rcases br_some hf with ⟨h13, hf⟩ | ⟨h13, hf⟩
      · replace hf := Option.some.inj hf
        subst hf
        exact toEnd_g allOk 21 [rz, ⟨[(2, aB x1)], [(4, false)], [], [], [], [], []⟩, rA [(2, aG (T_tape_Turn.c x4))], rA [(0, .c ([] : List T_api_Value).length (rowsOf T_api_Value.c T_api_Value.d ([] : List T_api_Value))), (2, .c ((([] : List T_api_Value) ++ a1).length) (rowsOf T_api_Value.c T_api_Value.d (([] : List T_api_Value) ++ a1))), (4, .c (((([] : List T_api_Value) ++ a1) ++ a2).length) (rowsOf T_api_Value.c T_api_Value.d ((([] : List T_api_Value) ++ a1) ++ a2)))], ⟨[(5, aG (T_tape_Turn.c x5))], [], [(4, [28])], [], [], [(4, ((((([] : List T_api_Value) ++ a1) ++ a2).take ((a1.length : Nat) : Int).toNat).length, rowsOf T_api_Value.c T_api_Value.d (((([] : List T_api_Value) ++ a1) ++ a2).take ((a1.length : Nat) : Int).toNat)))], []⟩, rA [(2, aG (T_tape_Turn.c x6))], ⟨[(4, aB x7)], [(6, true)], [], [], [], [], []⟩, rz] [false, true] [] [] [] (.c (g_doormanlaw38_light_ok a0 a1 x1 q1) (.c h2 (.c h4 (.c (g_tape_Drill_ok a0 a1 x4 q6) (.c (show ([] : List T_api_Value).length = 0 from rfl) (.c (show ∀ i j, i < 0 → j < 13 → rowsOf T_api_Value.c T_api_Value.d ([] : List T_api_Value) i j = (([] : List T_api_Value).flatMap T_api_Value.c).getD (i * 13 + j) .junk from (fun i j hi hj => rows_flat (sz := 13) (e := T_api_Value.c) (d := T_api_Value.d) (fun _ => rfl) ([] : List T_api_Value) i j hi hj)) (.c (ext_app (sz := 13) (e := T_api_Value.c) (d := T_api_Value.d) ([] : List T_api_Value) a1) (.c o7.1 (.c o7.2 (.c (ext_app (sz := 13) (e := T_api_Value.c) (d := T_api_Value.d) (([] : List T_api_Value) ++ a1) a2) (.c o8.1 (.c o8.2 (.c (show (((([] : List T_api_Value) ++ a1) ++ a2).take ((a1.length : Nat) : Int).toNat).length = ((a1.length : Nat) : Int).toNat ∧ ∀ i j, i < ((a1.length : Nat) : Int).toNat → j < 13 → rowsOf T_api_Value.c T_api_Value.d (((([] : List T_api_Value) ++ a1) ++ a2).take ((a1.length : Nat) : Int).toNat) i j = rowsOf T_api_Value.c T_api_Value.d ((([] : List T_api_Value) ++ a1) ++ a2) i j from (piece_take _ _ o9)) (.c o9 (.c (g_tape_Drill_ok a0 (((([] : List T_api_Value) ++ a1) ++ a2).take ((a1.length : Nat) : Int).toNat) x5 q10) (.c (g_tape_Drill_ok a0 ((([] : List T_api_Value) ++ a1) ++ a2) x6 q11) (.c (g_doormansame_Op_ok x4.fOp x5.fOp x7 q12) (.c h13 (.c (show true = true from rfl) .n))))))))))))))))))) (by kernel_rfl) rfl
      · rcases br_some hf with ⟨h14, hf⟩ | ⟨h14, hf⟩
        · replace hf := Option.some.inj hf
          subst hf
          exact toEnd_g allOk 21 [rz, ⟨[(2, aB x1)], [(4, false)], [], [], [], [], []⟩, rA [(2, aG (T_tape_Turn.c x4))], rA [(0, .c ([] : List T_api_Value).length (rowsOf T_api_Value.c T_api_Value.d ([] : List T_api_Value))), (2, .c ((([] : List T_api_Value) ++ a1).length) (rowsOf T_api_Value.c T_api_Value.d (([] : List T_api_Value) ++ a1))), (4, .c (((([] : List T_api_Value) ++ a1) ++ a2).length) (rowsOf T_api_Value.c T_api_Value.d ((([] : List T_api_Value) ++ a1) ++ a2)))], ⟨[(5, aG (T_tape_Turn.c x5))], [], [(4, [28])], [], [], [(4, ((((([] : List T_api_Value) ++ a1) ++ a2).take ((a1.length : Nat) : Int).toNat).length, rowsOf T_api_Value.c T_api_Value.d (((([] : List T_api_Value) ++ a1) ++ a2).take ((a1.length : Nat) : Int).toNat)))], []⟩, rA [(2, aG (T_tape_Turn.c x6))], ⟨[(4, aB x7)], [(6, false), (13, true)], [], [], [], [], []⟩, rz] [false, true] [] [] [] (.c (g_doormanlaw38_light_ok a0 a1 x1 q1) (.c h2 (.c h4 (.c (g_tape_Drill_ok a0 a1 x4 q6) (.c (show ([] : List T_api_Value).length = 0 from rfl) (.c (show ∀ i j, i < 0 → j < 13 → rowsOf T_api_Value.c T_api_Value.d ([] : List T_api_Value) i j = (([] : List T_api_Value).flatMap T_api_Value.c).getD (i * 13 + j) .junk from (fun i j hi hj => rows_flat (sz := 13) (e := T_api_Value.c) (d := T_api_Value.d) (fun _ => rfl) ([] : List T_api_Value) i j hi hj)) (.c (ext_app (sz := 13) (e := T_api_Value.c) (d := T_api_Value.d) ([] : List T_api_Value) a1) (.c o7.1 (.c o7.2 (.c (ext_app (sz := 13) (e := T_api_Value.c) (d := T_api_Value.d) (([] : List T_api_Value) ++ a1) a2) (.c o8.1 (.c o8.2 (.c (show (((([] : List T_api_Value) ++ a1) ++ a2).take ((a1.length : Nat) : Int).toNat).length = ((a1.length : Nat) : Int).toNat ∧ ∀ i j, i < ((a1.length : Nat) : Int).toNat → j < 13 → rowsOf T_api_Value.c T_api_Value.d (((([] : List T_api_Value) ++ a1) ++ a2).take ((a1.length : Nat) : Int).toNat) i j = rowsOf T_api_Value.c T_api_Value.d ((([] : List T_api_Value) ++ a1) ++ a2) i j from (piece_take _ _ o9)) (.c o9 (.c (g_tape_Drill_ok a0 (((([] : List T_api_Value) ++ a1) ++ a2).take ((a1.length : Nat) : Int).toNat) x5 q10) (.c (g_tape_Drill_ok a0 ((([] : List T_api_Value) ++ a1) ++ a2) x6 q11) (.c (g_doormansame_Op_ok x4.fOp x5.fOp x7 q12) (.c h13 (.c h14 (.c (show true = true from rfl) .n)))))))))))))))))))) (by kernel_rfl) rfl
        · rcases br_some hf with ⟨h15, hf⟩ | ⟨h15, hf⟩
          · replace hf := Option.some.inj hf
            subst hf
            exact toEnd_g allOk 21 [rz, ⟨[(2, aB x1)], [(4, false)], [], [], [], [], []⟩, rA [(2, aG (T_tape_Turn.c x4))], rA [(0, .c ([] : List T_api_Value).length (rowsOf T_api_Value.c T_api_Value.d ([] : List T_api_Value))), (2, .c ((([] : List T_api_Value) ++ a1).length) (rowsOf T_api_Value.c T_api_Value.d (([] : List T_api_Value) ++ a1))), (4, .c (((([] : List T_api_Value) ++ a1) ++ a2).length) (rowsOf T_api_Value.c T_api_Value.d ((([] : List T_api_Value) ++ a1) ++ a2)))], ⟨[(5, aG (T_tape_Turn.c x5))], [], [(4, [28])], [], [], [(4, ((((([] : List T_api_Value) ++ a1) ++ a2).take ((a1.length : Nat) : Int).toNat).length, rowsOf T_api_Value.c T_api_Value.d (((([] : List T_api_Value) ++ a1) ++ a2).take ((a1.length : Nat) : Int).toNat)))], []⟩, rA [(2, aG (T_tape_Turn.c x6))], ⟨[(4, aB x7)], [(6, false), (13, false)], [], [], [], [], []⟩, rz] [false, true] [] [] [] (.c (g_doormanlaw38_light_ok a0 a1 x1 q1) (.c h2 (.c h4 (.c (g_tape_Drill_ok a0 a1 x4 q6) (.c (show ([] : List T_api_Value).length = 0 from rfl) (.c (show ∀ i j, i < 0 → j < 13 → rowsOf T_api_Value.c T_api_Value.d ([] : List T_api_Value) i j = (([] : List T_api_Value).flatMap T_api_Value.c).getD (i * 13 + j) .junk from (fun i j hi hj => rows_flat (sz := 13) (e := T_api_Value.c) (d := T_api_Value.d) (fun _ => rfl) ([] : List T_api_Value) i j hi hj)) (.c (ext_app (sz := 13) (e := T_api_Value.c) (d := T_api_Value.d) ([] : List T_api_Value) a1) (.c o7.1 (.c o7.2 (.c (ext_app (sz := 13) (e := T_api_Value.c) (d := T_api_Value.d) (([] : List T_api_Value) ++ a1) a2) (.c o8.1 (.c o8.2 (.c (show (((([] : List T_api_Value) ++ a1) ++ a2).take ((a1.length : Nat) : Int).toNat).length = ((a1.length : Nat) : Int).toNat ∧ ∀ i j, i < ((a1.length : Nat) : Int).toNat → j < 13 → rowsOf T_api_Value.c T_api_Value.d (((([] : List T_api_Value) ++ a1) ++ a2).take ((a1.length : Nat) : Int).toNat) i j = rowsOf T_api_Value.c T_api_Value.d ((([] : List T_api_Value) ++ a1) ++ a2) i j from (piece_take _ _ o9)) (.c o9 (.c (g_tape_Drill_ok a0 (((([] : List T_api_Value) ++ a1) ++ a2).take ((a1.length : Nat) : Int).toNat) x5 q10) (.c (g_tape_Drill_ok a0 ((([] : List T_api_Value) ++ a1) ++ a2) x6 q11) (.c (g_doormansame_Op_ok x4.fOp x5.fOp x7 q12) (.c h13 (.c h14 (.c h15 .n)))))))))))))))))))) (by kernel_rfl) rfl
          · rcases br_some hf with ⟨h16, hf⟩ | ⟨h16, hf⟩
            · rcases br_some hf with ⟨h17, hf⟩ | ⟨h17, hf⟩
              · obtain ⟨x8, q18, hf⟩ := bind_some' hf
                replace hf := Option.some.inj hf
                subst hf
                exact toEnd_g allOk 22 [rz, ⟨[(2, aB x1)], [(4, false)], [], [], [], [], []⟩, rA [(2, aG (T_tape_Turn.c x4))], rA [(0, .c ([] : List T_api_Value).length (rowsOf T_api_Value.c T_api_Value.d ([] : List T_api_Value))), (2, .c ((([] : List T_api_Value) ++ a1).length) (rowsOf T_api_Value.c T_api_Value.d (([] : List T_api_Value) ++ a1))), (4, .c (((([] : List T_api_Value) ++ a1) ++ a2).length) (rowsOf T_api_Value.c T_api_Value.d ((([] : List T_api_Value) ++ a1) ++ a2)))], ⟨[(5, aG (T_tape_Turn.c x5))], [], [(4, [28])], [], [], [(4, ((((([] : List T_api_Value) ++ a1) ++ a2).take ((a1.length : Nat) : Int).toNat).length, rowsOf T_api_Value.c T_api_Value.d (((([] : List T_api_Value) ++ a1) ++ a2).take ((a1.length : Nat) : Int).toNat)))], []⟩, rA [(2, aG (T_tape_Turn.c x6))], ⟨[(4, aB x7)], [(6, false), (13, false)], [], [], [], [], []⟩, ⟨[(26, aB x8)], [(3, true), (20, true)], [], [], [], [], []⟩] [false, false] [] [] [] (.c (g_doormanlaw38_light_ok a0 a1 x1 q1) (.c h2 (.c h4 (.c (g_tape_Drill_ok a0 a1 x4 q6) (.c (show ([] : List T_api_Value).length = 0 from rfl) (.c (show ∀ i j, i < 0 → j < 13 → rowsOf T_api_Value.c T_api_Value.d ([] : List T_api_Value) i j = (([] : List T_api_Value).flatMap T_api_Value.c).getD (i * 13 + j) .junk from (fun i j hi hj => rows_flat (sz := 13) (e := T_api_Value.c) (d := T_api_Value.d) (fun _ => rfl) ([] : List T_api_Value) i j hi hj)) (.c (ext_app (sz := 13) (e := T_api_Value.c) (d := T_api_Value.d) ([] : List T_api_Value) a1) (.c o7.1 (.c o7.2 (.c (ext_app (sz := 13) (e := T_api_Value.c) (d := T_api_Value.d) (([] : List T_api_Value) ++ a1) a2) (.c o8.1 (.c o8.2 (.c (show (((([] : List T_api_Value) ++ a1) ++ a2).take ((a1.length : Nat) : Int).toNat).length = ((a1.length : Nat) : Int).toNat ∧ ∀ i j, i < ((a1.length : Nat) : Int).toNat → j < 13 → rowsOf T_api_Value.c T_api_Value.d (((([] : List T_api_Value) ++ a1) ++ a2).take ((a1.length : Nat) : Int).toNat) i j = rowsOf T_api_Value.c T_api_Value.d ((([] : List T_api_Value) ++ a1) ++ a2) i j from (piece_take _ _ o9)) (.c o9 (.c (g_tape_Drill_ok a0 (((([] : List T_api_Value) ++ a1) ++ a2).take ((a1.length : Nat) : Int).toNat) x5 q10) (.c (g_tape_Drill_ok a0 ((([] : List T_api_Value) ++ a1) ++ a2) x6 q11) (.c (g_doormansame_Op_ok x4.fOp x5.fOp x7 q12) (.c h13 (.c h14 (.c h15 (.c h16 (.c h17 (.c (g_doormanlaw38_awake_ok  x8 q18) .n))))))))))))))))))))))) (by kernel_rfl) rfl
              · rcases br_some hf with ⟨h19, hf⟩ | ⟨h19, hf⟩
                · obtain ⟨x9, q20, hf⟩ := bind_some' hf
                  replace hf := Option.some.inj hf
                  subst hf
                  exact toEnd_g allOk 22 [rz, ⟨[(2, aB x1)], [(4, false)], [], [], [], [], []⟩, rA [(2, aG (T_tape_Turn.c x4))], rA [(0, .c ([] : List T_api_Value).length (rowsOf T_api_Value.c T_api_Value.d ([] : List T_api_Value))), (2, .c ((([] : List T_api_Value) ++ a1).length) (rowsOf T_api_Value.c T_api_Value.d (([] : List T_api_Value) ++ a1))), (4, .c (((([] : List T_api_Value) ++ a1) ++ a2).length) (rowsOf T_api_Value.c T_api_Value.d ((([] : List T_api_Value) ++ a1) ++ a2)))], ⟨[(5, aG (T_tape_Turn.c x5))], [], [(4, [28])], [], [], [(4, ((((([] : List T_api_Value) ++ a1) ++ a2).take ((a1.length : Nat) : Int).toNat).length, rowsOf T_api_Value.c T_api_Value.d (((([] : List T_api_Value) ++ a1) ++ a2).take ((a1.length : Nat) : Int).toNat)))], []⟩, rA [(2, aG (T_tape_Turn.c x6))], ⟨[(4, aB x7)], [(6, false), (13, false)], [], [], [], [], []⟩, ⟨[(26, aB x9)], [(3, true), (20, false), (25, true)], [], [], [], [], []⟩] [false, false] [] [] [] (.c (g_doormanlaw38_light_ok a0 a1 x1 q1) (.c h2 (.c h4 (.c (g_tape_Drill_ok a0 a1 x4 q6) (.c (show ([] : List T_api_Value).length = 0 from rfl) (.c (show ∀ i j, i < 0 → j < 13 → rowsOf T_api_Value.c T_api_Value.d ([] : List T_api_Value) i j = (([] : List T_api_Value).flatMap T_api_Value.c).getD (i * 13 + j) .junk from (fun i j hi hj => rows_flat (sz := 13) (e := T_api_Value.c) (d := T_api_Value.d) (fun _ => rfl) ([] : List T_api_Value) i j hi hj)) (.c (ext_app (sz := 13) (e := T_api_Value.c) (d := T_api_Value.d) ([] : List T_api_Value) a1) (.c o7.1 (.c o7.2 (.c (ext_app (sz := 13) (e := T_api_Value.c) (d := T_api_Value.d) (([] : List T_api_Value) ++ a1) a2) (.c o8.1 (.c o8.2 (.c (show (((([] : List T_api_Value) ++ a1) ++ a2).take ((a1.length : Nat) : Int).toNat).length = ((a1.length : Nat) : Int).toNat ∧ ∀ i j, i < ((a1.length : Nat) : Int).toNat → j < 13 → rowsOf T_api_Value.c T_api_Value.d (((([] : List T_api_Value) ++ a1) ++ a2).take ((a1.length : Nat) : Int).toNat) i j = rowsOf T_api_Value.c T_api_Value.d ((([] : List T_api_Value) ++ a1) ++ a2) i j from (piece_take _ _ o9)) (.c o9 (.c (g_tape_Drill_ok a0 (((([] : List T_api_Value) ++ a1) ++ a2).take ((a1.length : Nat) : Int).toNat) x5 q10) (.c (g_tape_Drill_ok a0 ((([] : List T_api_Value) ++ a1) ++ a2) x6 q11) (.c (g_doormansame_Op_ok x4.fOp x5.fOp x7 q12) (.c h13 (.c h14 (.c h15 (.c h16 (.c h17 (.c h19 (.c (g_doormanlaw38_awake_ok  x9 q20) .n)))))))))))))))))))))))) (by kernel_rfl) rfl
                · replace hf := Option.some.inj hf
                  subst hf
                  exact toEnd_g allOk 22 [rz, ⟨[(2, aB x1)], [(4, false)], [], [], [], [], []⟩, rA [(2, aG (T_tape_Turn.c x4))], rA [(0, .c ([] : List T_api_Value).length (rowsOf T_api_Value.c T_api_Value.d ([] : List T_api_Value))), (2, .c ((([] : List T_api_Value) ++ a1).length) (rowsOf T_api_Value.c T_api_Value.d (([] : List T_api_Value) ++ a1))), (4, .c (((([] : List T_api_Value) ++ a1) ++ a2).length) (rowsOf T_api_Value.c T_api_Value.d ((([] : List T_api_Value) ++ a1) ++ a2)))], ⟨[(5, aG (T_tape_Turn.c x5))], [], [(4, [28])], [], [], [(4, ((((([] : List T_api_Value) ++ a1) ++ a2).take ((a1.length : Nat) : Int).toNat).length, rowsOf T_api_Value.c T_api_Value.d (((([] : List T_api_Value) ++ a1) ++ a2).take ((a1.length : Nat) : Int).toNat)))], []⟩, rA [(2, aG (T_tape_Turn.c x6))], ⟨[(4, aB x7)], [(6, false), (13, false)], [], [], [], [], []⟩, rB [(3, true), (20, false), (25, false)]] [false, false] [] [] [] (.c (g_doormanlaw38_light_ok a0 a1 x1 q1) (.c h2 (.c h4 (.c (g_tape_Drill_ok a0 a1 x4 q6) (.c (show ([] : List T_api_Value).length = 0 from rfl) (.c (show ∀ i j, i < 0 → j < 13 → rowsOf T_api_Value.c T_api_Value.d ([] : List T_api_Value) i j = (([] : List T_api_Value).flatMap T_api_Value.c).getD (i * 13 + j) .junk from (fun i j hi hj => rows_flat (sz := 13) (e := T_api_Value.c) (d := T_api_Value.d) (fun _ => rfl) ([] : List T_api_Value) i j hi hj)) (.c (ext_app (sz := 13) (e := T_api_Value.c) (d := T_api_Value.d) ([] : List T_api_Value) a1) (.c o7.1 (.c o7.2 (.c (ext_app (sz := 13) (e := T_api_Value.c) (d := T_api_Value.d) (([] : List T_api_Value) ++ a1) a2) (.c o8.1 (.c o8.2 (.c (show (((([] : List T_api_Value) ++ a1) ++ a2).take ((a1.length : Nat) : Int).toNat).length = ((a1.length : Nat) : Int).toNat ∧ ∀ i j, i < ((a1.length : Nat) : Int).toNat → j < 13 → rowsOf T_api_Value.c T_api_Value.d (((([] : List T_api_Value) ++ a1) ++ a2).take ((a1.length : Nat) : Int).toNat) i j = rowsOf T_api_Value.c T_api_Value.d ((([] : List T_api_Value) ++ a1) ++ a2) i j from (piece_take _ _ o9)) (.c o9 (.c (g_tape_Drill_ok a0 (((([] : List T_api_Value) ++ a1) ++ a2).take ((a1.length : Nat) : Int).toNat) x5 q10) (.c (g_tape_Drill_ok a0 ((([] : List T_api_Value) ++ a1) ++ a2) x6 q11) (.c (g_doormansame_Op_ok x4.fOp x5.fOp x7 q12) (.c h13 (.c h14 (.c h15 (.c h16 (.c h17 (.c h19 .n))))))))))))))))))))))) (by kernel_rfl) rfl
            · rcases br_some hf with ⟨h21, hf⟩ | ⟨h21, hf⟩
              · rcases br_some hf with ⟨h22, hf⟩ | ⟨h22, hf⟩
                · rcases br_some hf with ⟨h23, hf⟩ | ⟨h23, hf⟩
                  · obtain ⟨x10, q24, hf⟩ := bind_some' hf
                    replace hf := Option.some.inj hf
                    subst hf
                    exact toEnd_g allOk 22 [rz, ⟨[(2, aB x1)], [(4, false)], [], [], [], [], []⟩, rA [(2, aG (T_tape_Turn.c x4))], rA [(0, .c ([] : List T_api_Value).length (rowsOf T_api_Value.c T_api_Value.d ([] : List T_api_Value))), (2, .c ((([] : List T_api_Value) ++ a1).length) (rowsOf T_api_Value.c T_api_Value.d (([] : List T_api_Value) ++ a1))), (4, .c (((([] : List T_api_Value) ++ a1) ++ a2).length) (rowsOf T_api_Value.c T_api_Value.d ((([] : List T_api_Value) ++ a1) ++ a2)))], ⟨[(5, aG (T_tape_Turn.c x5))], [], [(4, [28])], [], [], [(4, ((((([] : List T_api_Value) ++ a1) ++ a2).take ((a1.length : Nat) : Int).toNat).length, rowsOf T_api_Value.c T_api_Value.d (((([] : List T_api_Value) ++ a1) ++ a2).take ((a1.length : Nat) : Int).toNat)))], []⟩, rA [(2, aG (T_tape_Turn.c x6))], ⟨[(4, aB x7)], [(6, false), (13, false)], [], [], [], [], []⟩, ⟨[(26, aB x10)], [(3, false), (6, true), (16, true), (20, true)], [], [], [], [], []⟩] [false, false] [] [] [] (.c (g_doormanlaw38_light_ok a0 a1 x1 q1) (.c h2 (.c h4 (.c (g_tape_Drill_ok a0 a1 x4 q6) (.c (show ([] : List T_api_Value).length = 0 from rfl) (.c (show ∀ i j, i < 0 → j < 13 → rowsOf T_api_Value.c T_api_Value.d ([] : List T_api_Value) i j = (([] : List T_api_Value).flatMap T_api_Value.c).getD (i * 13 + j) .junk from (fun i j hi hj => rows_flat (sz := 13) (e := T_api_Value.c) (d := T_api_Value.d) (fun _ => rfl) ([] : List T_api_Value) i j hi hj)) (.c (ext_app (sz := 13) (e := T_api_Value.c) (d := T_api_Value.d) ([] : List T_api_Value) a1) (.c o7.1 (.c o7.2 (.c (ext_app (sz := 13) (e := T_api_Value.c) (d := T_api_Value.d) (([] : List T_api_Value) ++ a1) a2) (.c o8.1 (.c o8.2 (.c (show (((([] : List T_api_Value) ++ a1) ++ a2).take ((a1.length : Nat) : Int).toNat).length = ((a1.length : Nat) : Int).toNat ∧ ∀ i j, i < ((a1.length : Nat) : Int).toNat → j < 13 → rowsOf T_api_Value.c T_api_Value.d (((([] : List T_api_Value) ++ a1) ++ a2).take ((a1.length : Nat) : Int).toNat) i j = rowsOf T_api_Value.c T_api_Value.d ((([] : List T_api_Value) ++ a1) ++ a2) i j from (piece_take _ _ o9)) (.c o9 (.c (g_tape_Drill_ok a0 (((([] : List T_api_Value) ++ a1) ++ a2).take ((a1.length : Nat) : Int).toNat) x5 q10) (.c (g_tape_Drill_ok a0 ((([] : List T_api_Value) ++ a1) ++ a2) x6 q11) (.c (g_doormansame_Op_ok x4.fOp x5.fOp x7 q12) (.c h13 (.c h14 (.c h15 (.c h16 (.c h21 (.c h22 (.c h23 (.c (g_doormanlaw38_awake_ok  x10 q24) .n))))))))))))))))))))))))) (by kernel_rfl) rfl
                  · rcases br_some hf with ⟨h25, hf⟩ | ⟨h25, hf⟩
                    · obtain ⟨x11, q26, hf⟩ := bind_some' hf
                      replace hf := Option.some.inj hf
                      subst hf
                      exact toEnd_g allOk 22 [rz, ⟨[(2, aB x1)], [(4, false)], [], [], [], [], []⟩, rA [(2, aG (T_tape_Turn.c x4))], rA [(0, .c ([] : List T_api_Value).length (rowsOf T_api_Value.c T_api_Value.d ([] : List T_api_Value))), (2, .c ((([] : List T_api_Value) ++ a1).length) (rowsOf T_api_Value.c T_api_Value.d (([] : List T_api_Value) ++ a1))), (4, .c (((([] : List T_api_Value) ++ a1) ++ a2).length) (rowsOf T_api_Value.c T_api_Value.d ((([] : List T_api_Value) ++ a1) ++ a2)))], ⟨[(5, aG (T_tape_Turn.c x5))], [], [(4, [28])], [], [], [(4, ((((([] : List T_api_Value) ++ a1) ++ a2).take ((a1.length : Nat) : Int).toNat).length, rowsOf T_api_Value.c T_api_Value.d (((([] : List T_api_Value) ++ a1) ++ a2).take ((a1.length : Nat) : Int).toNat)))], []⟩, rA [(2, aG (T_tape_Turn.c x6))], ⟨[(4, aB x7)], [(6, false), (13, false)], [], [], [], [], []⟩, ⟨[(26, aB x11)], [(3, false), (6, true), (16, true), (20, false), (25, true)], [], [], [], [], []⟩] [false, false] [] [] [] (.c (g_doormanlaw38_light_ok a0 a1 x1 q1) (.c h2 (.c h4 (.c (g_tape_Drill_ok a0 a1 x4 q6) (.c (show ([] : List T_api_Value).length = 0 from rfl) (.c (show ∀ i j, i < 0 → j < 13 → rowsOf T_api_Value.c T_api_Value.d ([] : List T_api_Value) i j = (([] : List T_api_Value).flatMap T_api_Value.c).getD (i * 13 + j) .junk from (fun i j hi hj => rows_flat (sz := 13) (e := T_api_Value.c) (d := T_api_Value.d) (fun _ => rfl) ([] : List T_api_Value) i j hi hj)) (.c (ext_app (sz := 13) (e := T_api_Value.c) (d := T_api_Value.d) ([] : List T_api_Value) a1) (.c o7.1 (.c o7.2 (.c (ext_app (sz := 13) (e := T_api_Value.c) (d := T_api_Value.d) (([] : List T_api_Value) ++ a1) a2) (.c o8.1 (.c o8.2 (.c (show (((([] : List T_api_Value) ++ a1) ++ a2).take ((a1.length : Nat) : Int).toNat).length = ((a1.length : Nat) : Int).toNat ∧ ∀ i j, i < ((a1.length : Nat) : Int).toNat → j < 13 → rowsOf T_api_Value.c T_api_Value.d (((([] : List T_api_Value) ++ a1) ++ a2).take ((a1.length : Nat) : Int).toNat) i j = rowsOf T_api_Value.c T_api_Value.d ((([] : List T_api_Value) ++ a1) ++ a2) i j from (piece_take _ _ o9)) (.c o9 (.c (g_tape_Drill_ok a0 (((([] : List T_api_Value) ++ a1) ++ a2).take ((a1.length : Nat) : Int).toNat) x5 q10) (.c (g_tape_Drill_ok a0 ((([] : List T_api_Value) ++ a1) ++ a2) x6 q11) (.c (g_doormansame_Op_ok x4.fOp x5.fOp x7 q12) (.c h13 (.c h14 (.c h15 (.c h16 (.c h21 (.c h22 (.c h23 (.c h25 (.c (g_doormanlaw38_awake_ok  x11 q26) .n)))))))))))))))))))))))))) (by kernel_rfl) rfl
                    · replace hf := Option.some.inj hf
                      subst hf
                      exact toEnd_g allOk 22 [rz, ⟨[(2, aB x1)], [(4, false)], [], [], [], [], []⟩, rA [(2, aG (T_tape_Turn.c x4))], rA [(0, .c ([] : List T_api_Value).length (rowsOf T_api_Value.c T_api_Value.d ([] : List T_api_Value))), (2, .c ((([] : List T_api_Value) ++ a1).length) (rowsOf T_api_Value.c T_api_Value.d (([] : List T_api_Value) ++ a1))), (4, .c (((([] : List T_api_Value) ++ a1) ++ a2).length) (rowsOf T_api_Value.c T_api_Value.d ((([] : List T_api_Value) ++ a1) ++ a2)))], ⟨[(5, aG (T_tape_Turn.c x5))], [], [(4, [28])], [], [], [(4, ((((([] : List T_api_Value) ++ a1) ++ a2).take ((a1.length : Nat) : Int).toNat).length, rowsOf T_api_Value.c T_api_Value.d (((([] : List T_api_Value) ++ a1) ++ a2).take ((a1.length : Nat) : Int).toNat)))], []⟩, rA [(2, aG (T_tape_Turn.c x6))], ⟨[(4, aB x7)], [(6, false), (13, false)], [], [], [], [], []⟩, rB [(3, false), (6, true), (16, true), (20, false), (25, false)]] [false, false] [] [] [] (.c (g_doormanlaw38_light_ok a0 a1 x1 q1) (.c h2 (.c h4 (.c (g_tape_Drill_ok a0 a1 x4 q6) (.c (show ([] : List T_api_Value).length = 0 from rfl) (.c (show ∀ i j, i < 0 → j < 13 → rowsOf T_api_Value.c T_api_Value.d ([] : List T_api_Value) i j = (([] : List T_api_Value).flatMap T_api_Value.c).getD (i * 13 + j) .junk from (fun i j hi hj => rows_flat (sz := 13) (e := T_api_Value.c) (d := T_api_Value.d) (fun _ => rfl) ([] : List T_api_Value) i j hi hj)) (.c (ext_app (sz := 13) (e := T_api_Value.c) (d := T_api_Value.d) ([] : List T_api_Value) a1) (.c o7.1 (.c o7.2 (.c (ext_app (sz := 13) (e := T_api_Value.c) (d := T_api_Value.d) (([] : List T_api_Value) ++ a1) a2) (.c o8.1 (.c o8.2 (.c (show (((([] : List T_api_Value) ++ a1) ++ a2).take ((a1.length : Nat) : Int).toNat).length = ((a1.length : Nat) : Int).toNat ∧ ∀ i j, i < ((a1.length : Nat) : Int).toNat → j < 13 → rowsOf T_api_Value.c T_api_Value.d (((([] : List T_api_Value) ++ a1) ++ a2).take ((a1.length : Nat) : Int).toNat) i j = rowsOf T_api_Value.c T_api_Value.d ((([] : List T_api_Value) ++ a1) ++ a2) i j from (piece_take _ _ o9)) (.c o9 (.c (g_tape_Drill_ok a0 (((([] : List T_api_Value) ++ a1) ++ a2).take ((a1.length : Nat) : Int).toNat) x5 q10) (.c (g_tape_Drill_ok a0 ((([] : List T_api_Value) ++ a1) ++ a2) x6 q11) (.c (g_doormansame_Op_ok x4.fOp x5.fOp x7 q12) (.c h13 (.c h14 (.c h15 (.c h16 (.c h21 (.c h22 (.c h23 (.c h25 .n))))))))))))))))))))))))) (by kernel_rfl) rfl
                · replace hf := Option.some.inj hf
                  subst hf
                  exact toEnd_g allOk 22 [rz, ⟨[(2, aB x1)], [(4, false)], [], [], [], [], []⟩, rA [(2, aG (T_tape_Turn.c x4))], rA [(0, .c ([] : List T_api_Value).length (rowsOf T_api_Value.c T_api_Value.d ([] : List T_api_Value))), (2, .c ((([] : List T_api_Value) ++ a1).length) (rowsOf T_api_Value.c T_api_Value.d (([] : List T_api_Value) ++ a1))), (4, .c (((([] : List T_api_Value) ++ a1) ++ a2).length) (rowsOf T_api_Value.c T_api_Value.d ((([] : List T_api_Value) ++ a1) ++ a2)))], ⟨[(5, aG (T_tape_Turn.c x5))], [], [(4, [28])], [], [], [(4, ((((([] : List T_api_Value) ++ a1) ++ a2).take ((a1.length : Nat) : Int).toNat).length, rowsOf T_api_Value.c T_api_Value.d (((([] : List T_api_Value) ++ a1) ++ a2).take ((a1.length : Nat) : Int).toNat)))], []⟩, rA [(2, aG (T_tape_Turn.c x6))], ⟨[(4, aB x7)], [(6, false), (13, false)], [], [], [], [], []⟩, rB [(3, false), (6, true), (16, false)]] [false, false] [] [] [] (.c (g_doormanlaw38_light_ok a0 a1 x1 q1) (.c h2 (.c h4 (.c (g_tape_Drill_ok a0 a1 x4 q6) (.c (show ([] : List T_api_Value).length = 0 from rfl) (.c (show ∀ i j, i < 0 → j < 13 → rowsOf T_api_Value.c T_api_Value.d ([] : List T_api_Value) i j = (([] : List T_api_Value).flatMap T_api_Value.c).getD (i * 13 + j) .junk from (fun i j hi hj => rows_flat (sz := 13) (e := T_api_Value.c) (d := T_api_Value.d) (fun _ => rfl) ([] : List T_api_Value) i j hi hj)) (.c (ext_app (sz := 13) (e := T_api_Value.c) (d := T_api_Value.d) ([] : List T_api_Value) a1) (.c o7.1 (.c o7.2 (.c (ext_app (sz := 13) (e := T_api_Value.c) (d := T_api_Value.d) (([] : List T_api_Value) ++ a1) a2) (.c o8.1 (.c o8.2 (.c (show (((([] : List T_api_Value) ++ a1) ++ a2).take ((a1.length : Nat) : Int).toNat).length = ((a1.length : Nat) : Int).toNat ∧ ∀ i j, i < ((a1.length : Nat) : Int).toNat → j < 13 → rowsOf T_api_Value.c T_api_Value.d (((([] : List T_api_Value) ++ a1) ++ a2).take ((a1.length : Nat) : Int).toNat) i j = rowsOf T_api_Value.c T_api_Value.d ((([] : List T_api_Value) ++ a1) ++ a2) i j from (piece_take _ _ o9)) (.c o9 (.c (g_tape_Drill_ok a0 (((([] : List T_api_Value) ++ a1) ++ a2).take ((a1.length : Nat) : Int).toNat) x5 q10) (.c (g_tape_Drill_ok a0 ((([] : List T_api_Value) ++ a1) ++ a2) x6 q11) (.c (g_doormansame_Op_ok x4.fOp x5.fOp x7 q12) (.c h13 (.c h14 (.c h15 (.c h16 (.c h21 (.c h22 .n))))))))))))))))))))))) (by kernel_rfl) rfl
              · replace hf := Option.some.inj hf
                subst hf
                exact toEnd_g allOk 22 [rz, ⟨[(2, aB x1)], [(4, false)], [], [], [], [], []⟩, rA [(2, aG (T_tape_Turn.c x4))], rA [(0, .c ([] : List T_api_Value).length (rowsOf T_api_Value.c T_api_Value.d ([] : List T_api_Value))), (2, .c ((([] : List T_api_Value) ++ a1).length) (rowsOf T_api_Value.c T_api_Value.d (([] : List T_api_Value) ++ a1))), (4, .c (((([] : List T_api_Value) ++ a1) ++ a2).length) (rowsOf T_api_Value.c T_api_Value.d ((([] : List T_api_Value) ++ a1) ++ a2)))], ⟨[(5, aG (T_tape_Turn.c x5))], [], [(4, [28])], [], [], [(4, ((((([] : List T_api_Value) ++ a1) ++ a2).take ((a1.length : Nat) : Int).toNat).length, rowsOf T_api_Value.c T_api_Value.d (((([] : List T_api_Value) ++ a1) ++ a2).take ((a1.length : Nat) : Int).toNat)))], []⟩, rA [(2, aG (T_tape_Turn.c x6))], ⟨[(4, aB x7)], [(6, false), (13, false)], [], [], [], [], []⟩, rB [(3, false), (6, false)]] [false, false] [] [] [] (.c (g_doormanlaw38_light_ok a0 a1 x1 q1) (.c h2 (.c h4 (.c (g_tape_Drill_ok a0 a1 x4 q6) (.c (show ([] : List T_api_Value).length = 0 from rfl) (.c (show ∀ i j, i < 0 → j < 13 → rowsOf T_api_Value.c T_api_Value.d ([] : List T_api_Value) i j = (([] : List T_api_Value).flatMap T_api_Value.c).getD (i * 13 + j) .junk from (fun i j hi hj => rows_flat (sz := 13) (e := T_api_Value.c) (d := T_api_Value.d) (fun _ => rfl) ([] : List T_api_Value) i j hi hj)) (.c (ext_app (sz := 13) (e := T_api_Value.c) (d := T_api_Value.d) ([] : List T_api_Value) a1) (.c o7.1 (.c o7.2 (.c (ext_app (sz := 13) (e := T_api_Value.c) (d := T_api_Value.d) (([] : List T_api_Value) ++ a1) a2) (.c o8.1 (.c o8.2 (.c (show (((([] : List T_api_Value) ++ a1) ++ a2).take ((a1.length : Nat) : Int).toNat).length = ((a1.length : Nat) : Int).toNat ∧ ∀ i j, i < ((a1.length : Nat) : Int).toNat → j < 13 → rowsOf T_api_Value.c T_api_Value.d (((([] : List T_api_Value) ++ a1) ++ a2).take ((a1.length : Nat) : Int).toNat) i j = rowsOf T_api_Value.c T_api_Value.d ((([] : List T_api_Value) ++ a1) ++ a2) i j from (piece_take _ _ o9)) (.c o9 (.c (g_tape_Drill_ok a0 (((([] : List T_api_Value) ++ a1) ++ a2).take ((a1.length : Nat) : Int).toNat) x5 q10) (.c (g_tape_Drill_ok a0 ((([] : List T_api_Value) ++ a1) ++ a2) x6 q11) (.c (g_doormansame_Op_ok x4.fOp x5.fOp x7 q12) (.c h13 (.c h14 (.c h15 (.c h16 (.c h21 .n)))))))))))))))))))))) (by kernel_rfl) rfl

/-- doorman/tape.size -/
def g_tape_size (a0 : Int) : Option T_api_Loc :=
  some (T_api_Loc.mk (5 : Int) a0 (0 : Int))

theorem g_tape_size_ok (a0 : Int) (r : T_api_Loc) (hf : g_tape_size a0 = some r) : SCall Try.prog 72 [.one (.lit (.int .i64 a0))] (.agg (T_api_Loc.c r)) := by
  refine SCall.of Try.func72 rfl rfl rfl rfl fun S0 w0 => ?_
  unfold g_tape_size at hf
  replace hf := Option.some.inj hf
  subst hf
  exact toEnd_g allOk 4 [rz, rz] [] [] [] [] .n (by kernel_rfl) rfl

/-- doorman/tape.slot -/
def g_tape_slot (a0 : Int) (a1 : Int) : Option T_api_Loc :=
  some (T_api_Loc.mk (6 : Int) a0 a1)

theorem g_tape_slot_ok (a0 : Int) (a1 : Int) (r : T_api_Loc) (hf : g_tape_slot a0 a1 = some r) : SCall Try.prog 73 [.one (.lit (.int .i64 a0)), .one (.lit (.int .i64 a1))] (.agg (T_api_Loc.c r)) := by
  refine SCall.of Try.func73 rfl rfl rfl rfl fun S0 w0 => ?_
  unfold g_tape_slot at hf
  replace hf := Option.some.inj hf
  subst hf
  exact toEnd_g allOk 4 [rz, rz] [] [] [] [] .n (by kernel_rfl) rfl

def g_tape_Read_c0 (a1 : Int)  : Nat → Int → Int → (List T_api_Peer) → T_tape_tape → Option (Tout (List T_api_Peer))
  | 0, _, _, _, _ => none
  | fu + 1, v15, v16, w5, b100000 =>
    bif (decide (v16 < v15)) then
      (g_tape_slot a1 v16).bind fun x3 =>
      (g_tape_tape_Load b100000 x3 false).bind fun x4 =>
      (match x4 with
      | .ret x4v x4g =>
        need ((w5 ++ ([x4v.fPeer] : List T_api_Peer)).length * 80 ≤ 140737488355328 ∧ (w5 ++ ([x4v.fPeer] : List T_api_Peer)).length ≤ maxLen) <|
        g_tape_Read_c0 a1  fu v15 (add64 v16 (1 : Int)) (w5 ++ ([x4v.fPeer] : List T_api_Peer)) x4g
      | .pan x4o =>
        some (Tout.pan x4o)
      | .bad x4s =>
        some (Tout.bad x4s))
    else
      some (Tout.ret w5 b100000)

theorem g_tape_Read_c0_ok (S0 : Nat → Prop) (w0 : Start) (a1 : Int)  : ∀ (fu : Nat) (v15 : Int) (v16 : Int) (w5 : (List T_api_Peer)) (b100000 : T_tape_tape) (r : (Tout (List T_api_Peer))), g_tape_Read_c0 a1  fu v15 v16 w5 b100000 = some r → Good Try.prog 33 S0 w0 (bodyPost Try.prog Try.f52 (OPost S0 w0 (oc (fun x => .one (cL 10 T_api_Peer.c T_api_Peer.d x)) r))) (at_ [1, 1, 0, 1, 0] (bodyOf Try.f52)) ⟨[(0, .one (.ifc 105 (.ptr 100000 0))), (1, .one (.lit (.int .i64 a1))), (5, .one (.osl 5 w5.length)), (15, .one (.lit (.int .i64 v15))), (16, .one (.lit (.int .i64 v16)))], [(5, .rows 39 10 w5.length (rowsOf T_api_Peer.c T_api_Peer.d w5)), (100000, .box [cL 13 T_api_Value.c T_api_Value.d b100000.fgot])]⟩ := by
  intro fu
  induction fu with
  | zero =>
    intro v15 v16 w5 b100000 r hf
    simp [g_tape_Read_c0] at hf
  | succ fu ih =>
    intro v15 v16 w5 b100000 r hf
    unfold g_tape_Read_c0 at hf
    rcases br_some hf with ⟨h3, hf⟩ | ⟨h3, hf⟩
    · obtain ⟨x3, q4, hf⟩ := bind_some' hf
      obtain ⟨x4, q5, hf⟩ := bind_some' hf
      cases x4 with
      | ret x4v x4g =>
        dsimp only at hf
        obtain ⟨o6, hf⟩ := need_some hf
        exact toK_g allOk OPost.ends 14 [rz, rz, ⟨[(4, aG (T_api_Loc.c x3)), (8, .id 98), (11, .c ((w5 ++ ([x4v.fPeer] : List T_api_Peer)).length) (rowsOf T_api_Peer.c T_api_Peer.d (w5 ++ ([x4v.fPeer] : List T_api_Peer))))], [], [], [], [], [(10, (([x4v.fPeer] : List T_api_Peer).length, rowsOf T_api_Peer.c T_api_Peer.d ([x4v.fPeer] : List T_api_Peer)))], [(8, ⟨[(100000, 100000)], [], [(100000, .box (T_tape_tape.c x4g))], .agg (T_api_Value.c x4v)⟩)]⟩, rz] [true] ⟨[], [], [], [], [], [0, 1, 5, 15, 16], [30, 100000], [(30, 5)]⟩ (.c h3 (.c (g_tape_slot_ok a1 v16 x3 q4) (.c nilok_Load (.c (g_tape_tape_Load_own b100000 x3 false (.ret x4v x4g) q5) (.c meth_Load (.c (show ([x4v.fPeer] : List T_api_Peer).length = 1 ∧ ∀ i j, i < 1 → j < 10 → rowsOf T_api_Peer.c T_api_Peer.d ([x4v.fPeer] : List T_api_Peer) i j = (([x4v.fPeer] : List T_api_Peer).flatMap T_api_Peer.c).getD (i * 10 + j) .junk from ⟨rfl, fun i j hi hj => rows_flat (sz := 10) (e := T_api_Peer.c) (d := T_api_Peer.d) (fun _ => rfl) ([x4v.fPeer] : List T_api_Peer) i j hi hj⟩) (.c (ext_app (sz := 10) (e := T_api_Peer.c) (d := T_api_Peer.d) w5 ([x4v.fPeer] : List T_api_Peer)) (.c o6.1 (.c o6.2 .n))))))))) (by kernel_rfl) (ih v15 (add64 v16 (1 : Int)) (w5 ++ ([x4v.fPeer] : List T_api_Peer)) x4g r hf)
      | pan x4o =>
        dsimp only at hf
        replace hf := Option.some.inj hf
        subst hf
        exact toPan_good allOk 10 _ _ [rz, rz] [true] (rA [(4, aG (T_api_Loc.c x3)), (8, .id 98)]) 8 ⟨[(100000, 100000)], .one (.ifa 104 21 (fun i => (T_api_Op.c x4o).getD i .junk))⟩ (.c h3 (.c (g_tape_slot_ok a1 v16 x3 q4) (.c nilok_Load (.c (g_tape_tape_Load_own b100000 x3 false (.pan x4o) q5) (.c meth_Load .n))))) (by kernel_rfl)
      | bad x4s =>
        dsimp only at hf
        replace hf := Option.some.inj hf
        subst hf
        exact toPan_good allOk 10 _ _ [rz, rz] [true] (rA [(4, aG (T_api_Loc.c x3)), (8, .id 98)]) 8 ⟨[(100000, 100000)], .one (.ifc 9 (.lit (.string x4s)))⟩ (.c h3 (.c (g_tape_slot_ok a1 v16 x3 q4) (.c nilok_Load (.c (g_tape_tape_Load_own b100000 x3 false (.bad x4s) q5) (.c meth_Load .n))))) (by kernel_rfl)
    · replace hf := Option.some.inj hf
      subst hf
      exact toEndO_g allOk 8 [rz, rz] [false] ⟨[5], [], [], [], [], [4], [100000], []⟩ [100000] (.c h3 .n) (by kernel_rfl)

/-- doorman/tape.Read -/
def g_tape_Read (a0 : T_tape_tape) (a1 : Int) : Option (Tout (List T_api_Peer)) :=
  (g_tape_size a1).bind fun x1 =>
  (g_tape_tape_Load a0 x1 false).bind fun x2 =>
  (match x2 with
  | .ret x2v x2g =>
    g_tape_Read_c0 a1  (((if (0 : Int) > x2v.fN then (0 : Int) else x2v.fN) - (0 : Int)).toNat + 2) (if (0 : Int) > x2v.fN then (0 : Int) else x2v.fN) (0 : Int) ([]) x2g
  | .pan x2o =>
    some (Tout.pan x2o)
  | .bad x2s =>
    some (Tout.bad x2s))

theorem g_tape_Read_own (a0 : T_tape_tape) (a1 : Int) (r : (Tout (List T_api_Peer))) (hf : g_tape_Read a0 a1 = some r) : OCall Try.prog 52 [(100000, .box (T_tape_tape.c a0))] [.one (.ifc 105 (.ptr 100000 0)), .one (.lit (.int .i64 a1))] (oc (fun x => .one (cL 10 T_api_Peer.c T_api_Peer.d x)) r) := by
  refine OCall.of Try.func52 rfl rfl rfl rfl fun S0 w0 => ?_
  unfold g_tape_Read at hf
  obtain ⟨x1, q1, hf⟩ := bind_some' hf
  obtain ⟨x2, q2, hf⟩ := bind_some' hf
  cases x2 with
  | ret x2v x2g =>
    dsimp only at hf
    exact toK_g allOk OPost.ends 8 [rz, rz, rH [(2, aG (T_api_Loc.c x1)), (6, .id 98)] [(6, ⟨[(100000, 100000)], [], [(100000, .box (T_tape_tape.c x2g))], .agg (T_api_Value.c x2v)⟩)]] [] ⟨[], [], [], [], [(5, 5, 39, 10, rowsOf T_api_Peer.c T_api_Peer.d [])], [0, 1, 5, 15, 16], [5, 100000], []⟩ (.c (g_tape_size_ok a1 x1 q1) (.c nilok_Load (.c (g_tape_tape_Load_own a0 x1 false (.ret x2v x2g) q2) (.c meth_Load .n)))) (by kernel_rfl) (g_tape_Read_c0_ok S0 w0 a1   (((if (0 : Int) > x2v.fN then (0 : Int) else x2v.fN) - (0 : Int)).toNat + 2) (if (0 : Int) > x2v.fN then (0 : Int) else x2v.fN) (0 : Int) ([]) x2g r hf)
  | pan x2o =>
    dsimp only at hf
    replace hf := Option.some.inj hf
    subst hf
    exact toPan_good allOk 6 _ _ [rz, rz] [] (rA [(2, aG (T_api_Loc.c x1)), (6, .id 98)]) 6 ⟨[(100000, 100000)], .one (.ifa 104 21 (fun i => (T_api_Op.c x2o).getD i .junk))⟩ (.c (g_tape_size_ok a1 x1 q1) (.c nilok_Load (.c (g_tape_tape_Load_own a0 x1 false (.pan x2o) q2) (.c meth_Load .n)))) (by kernel_rfl)
  | bad x2s =>
    dsimp only at hf
    replace hf := Option.some.inj hf
    subst hf
    exact toPan_good allOk 6 _ _ [rz, rz] [] (rA [(2, aG (T_api_Loc.c x1)), (6, .id 98)]) 6 ⟨[(100000, 100000)], .one (.ifc 9 (.lit (.string x2s)))⟩ (.c (g_tape_size_ok a1 x1 q1) (.c nilok_Load (.c (g_tape_tape_Load_own a0 x1 false (.bad x2s) q2) (.c meth_Load .n)))) (by kernel_rfl)

def g_shard_Writes_c0 (a0 : (List T_api_Peer))  : Nat → (List T_api_Peer) → Int → Int → (List Int) → Option (List Int)
  | 0, _, _, _, _ => none
  | fu + 1, v8, v9, v10, w5 =>
    bif (decide (v10 < v9)) then
      need (0 ≤ v10 ∧ v10 < ((v8.length : Nat) : Int)) <|
      bif (decide (v10 ≥ ((a0.length : Nat) : Int))) then
        need ((w5 ++ ([v10] : List Int)).length * 8 ≤ 140737488355328 ∧ (w5 ++ ([v10] : List Int)).length ≤ maxLen) <|
        g_shard_Writes_c0 a0  fu v8 v9 (add64 v10 (1 : Int)) (w5 ++ ([v10] : List Int))
      else
        need (0 ≤ v10 ∧ v10 < ((a0.length : Nat) : Int)) <|
        bif (!(decide ((a0.getD v10.toNat T_api_Peer.d) = (v8.getD v10.toNat T_api_Peer.d)))) then
          need ((w5 ++ ([v10] : List Int)).length * 8 ≤ 140737488355328 ∧ (w5 ++ ([v10] : List Int)).length ≤ maxLen) <|
          g_shard_Writes_c0 a0  fu v8 v9 (add64 v10 (1 : Int)) (w5 ++ ([v10] : List Int))
        else
          g_shard_Writes_c0 a0  fu v8 v9 (add64 v10 (1 : Int)) w5
    else
      some w5

theorem g_shard_Writes_c0_ok (S0 : Nat → Prop) (w0 : Start) (a0 : (List T_api_Peer))  : ∀ (fu : Nat) (v8 : (List T_api_Peer)) (v9 : Int) (v10 : Int) (w5 : (List Int)) (r : (List Int)), g_shard_Writes_c0 a0  fu v8 v9 v10 w5 = some r → Good Try.prog 33 S0 w0 (bodyPost Try.prog Try.f74 (HPost S0 w0 [(99999, .rows 3 1 r.length (rowsOf (cI .i64) (0 : Int) r))] (.one (.osl 99999 r.length)))) (at_ [1, 1, 0, 1, 0] (bodyOf Try.f74)) ⟨[(0, .one (cL 10 T_api_Peer.c T_api_Peer.d a0)), (5, .one (.osl 5 w5.length)), (8, .one (cL 10 T_api_Peer.c T_api_Peer.d v8)), (9, .one (.lit (.int .i64 v9))), (10, .one (.lit (.int .i64 v10)))], [(5, .rows 3 1 w5.length (rowsOf (cI .i64) (0 : Int) w5))]⟩ := by
  intro fu
  induction fu with
  | zero =>
    intro v8 v9 v10 w5 r hf
    simp [g_shard_Writes_c0] at hf
  | succ fu ih =>
    intro v8 v9 v10 w5 r hf
    unfold g_shard_Writes_c0 at hf
    rcases br_some hf with ⟨h1, hf⟩ | ⟨h1, hf⟩
    · obtain ⟨o2, hf⟩ := need_some hf
      rcases br_some hf with ⟨h3, hf⟩ | ⟨h3, hf⟩
      · obtain ⟨o4, hf⟩ := need_some hf
        exact toK_g allOk HPost.ends 17 [rz, rz, rB [(4, true)], ⟨[(3, .c ((w5 ++ ([v10] : List Int)).length) (rowsOf (cI .i64) (0 : Int) (w5 ++ ([v10] : List Int))))], [], [], [], [], [(2, (([v10] : List Int).length, rowsOf (cI .i64) (0 : Int) ([v10] : List Int)))], []⟩, rz] [true, true] ⟨[], [], [], [], [], [0, 5, 8, 9, 10], [30], [(30, 5)]⟩ (.c h1 (.c o2 (.c h3 (.c (show true = true from rfl) (.c (show ([v10] : List Int).length = 1 ∧ ∀ i j, i < 1 → j < 1 → rowsOf (cI .i64) (0 : Int) ([v10] : List Int) i j = (([v10] : List Int).flatMap (cI .i64)).getD (i * 1 + j) .junk from ⟨rfl, fun i j hi hj => rows_flat (sz := 1) (e := (cI .i64)) (d := (0 : Int)) (fun _ => rfl) ([v10] : List Int) i j hi hj⟩) (.c (ext_app (sz := 1) (e := (cI .i64)) (d := (0 : Int)) w5 ([v10] : List Int)) (.c o4.1 (.c o4.2 .n)))))))) (by kernel_rfl) (ih v8 v9 (add64 v10 (1 : Int)) (w5 ++ ([v10] : List Int)) r hf)
      · obtain ⟨o5, hf⟩ := need_some hf
        rcases br_some hf with ⟨h6, hf⟩ | ⟨h6, hf⟩
        · obtain ⟨o7, hf⟩ := need_some hf
          exact toK_g allOk HPost.ends 17 [rz, rz, ⟨[(10, aB (!(decide ((a0.getD v10.toNat T_api_Peer.d) = (v8.getD v10.toNat T_api_Peer.d)))))], [(4, false)], [], [], [], [], []⟩, ⟨[(3, .c ((w5 ++ ([v10] : List Int)).length) (rowsOf (cI .i64) (0 : Int) (w5 ++ ([v10] : List Int))))], [], [], [], [], [(2, (([v10] : List Int).length, rowsOf (cI .i64) (0 : Int) ([v10] : List Int)))], []⟩, rz] [true, true] ⟨[], [], [], [], [], [0, 5, 8, 9, 10], [30], [(30, 5)]⟩ (.c h1 (.c o2 (.c h3 (.c o5 (.c (neq_T_api_Peer (a0.getD v10.toNat T_api_Peer.d) (v8.getD v10.toNat T_api_Peer.d) (.tmp 23) (.tmp 24)) (.c h6 (.c (show ([v10] : List Int).length = 1 ∧ ∀ i j, i < 1 → j < 1 → rowsOf (cI .i64) (0 : Int) ([v10] : List Int) i j = (([v10] : List Int).flatMap (cI .i64)).getD (i * 1 + j) .junk from ⟨rfl, fun i j hi hj => rows_flat (sz := 1) (e := (cI .i64)) (d := (0 : Int)) (fun _ => rfl) ([v10] : List Int) i j hi hj⟩) (.c (ext_app (sz := 1) (e := (cI .i64)) (d := (0 : Int)) w5 ([v10] : List Int)) (.c o7.1 (.c o7.2 .n)))))))))) (by kernel_rfl) (ih v8 v9 (add64 v10 (1 : Int)) (w5 ++ ([v10] : List Int)) r hf)
        · exact toK_g allOk HPost.ends 17 [rz, rz, ⟨[(10, aB (!(decide ((a0.getD v10.toNat T_api_Peer.d) = (v8.getD v10.toNat T_api_Peer.d)))))], [(4, false)], [], [], [], [], []⟩, rz] [true, false] ⟨[], [], [], [], [], [0, 5, 8, 9, 10], [5], []⟩ (.c h1 (.c o2 (.c h3 (.c o5 (.c (neq_T_api_Peer (a0.getD v10.toNat T_api_Peer.d) (v8.getD v10.toNat T_api_Peer.d) (.tmp 23) (.tmp 24)) (.c h6 .n)))))) (by kernel_rfl) (ih v8 v9 (add64 v10 (1 : Int)) w5 r hf)
    · replace hf := Option.some.inj hf
      subst hf
      exact toEndH_g allOk 8 [rz, rz] [false] ⟨[], [], [], [], [], [4], [5], [(5, 99999)]⟩ (.c h1 .n) (by kernel_rfl)

/-- doorman/shard.Writes -/
def g_shard_Writes (a0 : (List T_api_Peer)) (a1 : (List T_api_Peer)) : Option (List Int) :=
  g_shard_Writes_c0 a0  ((((a1.length : Nat) : Int) - (0 : Int)).toNat + 2) a1 ((a1.length : Nat) : Int) (0 : Int) ([])

theorem g_shard_Writes_own (a0 : (List T_api_Peer)) (a1 : (List T_api_Peer)) (r : (List Int)) (hf : g_shard_Writes a0 a1 = some r) : HCall Try.prog 74 [] [.one (cL 10 T_api_Peer.c T_api_Peer.d a0), .one (cL 10 T_api_Peer.c T_api_Peer.d a1)] [(99999, .rows 3 1 r.length (rowsOf (cI .i64) (0 : Int) r))] (.one (.osl 99999 r.length)) := by
  refine HCall.of Try.func74 rfl rfl rfl rfl fun S0 w0 => ?_
  unfold g_shard_Writes at hf
  exact toK_g allOk HPost.ends 8 [rz, rz, rz] [] ⟨[], [], [], [], [(5, 5, 3, 1, rowsOf (cI .i64) (0 : Int) [])], [0, 5, 8, 9, 10], [5], []⟩ .n (by kernel_rfl) (g_shard_Writes_c0_ok S0 w0 a0   ((((a1.length : Nat) : Int) - (0 : Int)).toNat + 2) a1 ((a1.length : Nat) : Int) (0 : Int) ([]) r hf)

theorem g_shard_Writes_ok (a0 : (List T_api_Peer)) (a1 : (List T_api_Peer)) (r : (List Int)) (hf : g_shard_Writes a0 a1 = some r) : SCall Try.prog 74 [.one (cL 10 T_api_Peer.c T_api_Peer.d a0), .one (cL 10 T_api_Peer.c T_api_Peer.d a1)] (.one (cL 1 (cI .i64) (0 : Int) r)) := (g_shard_Writes_own a0 a1 r hf).pure

def g_tape_Write_c0 (a1 : Int) (a2 : (List T_api_Peer)) (a3 : (List T_api_Peer))  : Nat → (List Int) → Int → Int → T_tape_tape → Option (Tout Unit)
  | 0, _, _, _, _ => none
  | fu + 1, v12, v13, v14, b100000 =>
    bif (decide (v14 < v13)) then
      need (0 ≤ v14 ∧ v14 < ((v12.length : Nat) : Int)) <|
      (g_tape_slot a1 (v12.getD v14.toNat (0 : Int))).bind fun x2 =>
      need (0 ≤ (v12.getD v14.toNat (0 : Int)) ∧ (v12.getD v14.toNat (0 : Int)) < ((a3.length : Nat) : Int)) <|
      (g_tape_tape_Store b100000 x2 (T_api_Value.mk (0 : Int) (a3.getD (v12.getD v14.toNat (0 : Int)).toNat T_api_Peer.d) ([] : (List T_api_Ban)) ([] : (List T_api_Entry))) false).bind fun x3 =>
      (match x3 with
      | .ret x3v x3g =>
        g_tape_Write_c0 a1 a2 a3  fu v12 v13 (add64 v14 (1 : Int)) x3g
      | .pan x3o =>
        some (Tout.pan x3o)
      | .bad x3s =>
        some (Tout.bad x3s))
    else
      bif (((a2.length : Nat) : Int) != ((a3.length : Nat) : Int)) then
        (g_tape_size a1).bind fun x4 =>
        (g_tape_tape_Store b100000 x4 (T_api_Value.mk ((a3.length : Nat) : Int) (T_api_Peer.mk (T_api_End.mk (T_api_Addr.mk false (0 : Int) (0 : Int)) (0 : Int)) false (0 : Int) (T_api_Score.mk (0 : Int) (0 : Int)) (0 : Int) (0 : Int)) ([] : (List T_api_Ban)) ([] : (List T_api_Entry))) false).bind fun x5 =>
        (match x5 with
        | .ret x5v x5g =>
          some (Tout.ret () x5g)
        | .pan x5o =>
          some (Tout.pan x5o)
        | .bad x5s =>
          some (Tout.bad x5s))
      else
        some (Tout.ret () b100000)

theorem g_tape_Write_c0_ok (S0 : Nat → Prop) (w0 : Start) (a1 : Int) (a2 : (List T_api_Peer)) (a3 : (List T_api_Peer))  : ∀ (fu : Nat) (v12 : (List Int)) (v13 : Int) (v14 : Int) (b100000 : T_tape_tape) (r : (Tout Unit)), g_tape_Write_c0 a1 a2 a3  fu v12 v13 v14 b100000 = some r → Good Try.prog 47 S0 w0 (bodyPost Try.prog Try.f53 (OPost S0 w0 (oc (fun x => .tup []) r))) (at_ [0, 1, 0] (bodyOf Try.f53)) ⟨[(0, .one (.ifc 105 (.ptr 100000 0))), (1, .one (.lit (.int .i64 a1))), (2, .one (cL 10 T_api_Peer.c T_api_Peer.d a2)), (3, .one (cL 10 T_api_Peer.c T_api_Peer.d a3)), (12, .one (cL 1 (cI .i64) (0 : Int) v12)), (13, .one (.lit (.int .i64 v13))), (14, .one (.lit (.int .i64 v14)))], [(100000, .box [cL 13 T_api_Value.c T_api_Value.d b100000.fgot])]⟩ := by
  intro fu
  induction fu with
  | zero =>
    intro v12 v13 v14 b100000 r hf
    simp [g_tape_Write_c0] at hf
  | succ fu ih =>
    intro v12 v13 v14 b100000 r hf
    unfold g_tape_Write_c0 at hf
    rcases br_some hf with ⟨h2, hf⟩ | ⟨h2, hf⟩
    · obtain ⟨o3, hf⟩ := need_some hf
      obtain ⟨x2, q4, hf⟩ := bind_some' hf
      obtain ⟨o5, hf⟩ := need_some hf
      obtain ⟨x3, q6, hf⟩ := bind_some' hf
      cases x3 with
      | ret x3v x3g =>
        dsimp only at hf
        exact toK_g allOk OPost.ends 14 [rz, rz, ⟨[(3, aG (T_api_Loc.c x2)), (12, .id 102)], [], [], [], [(8, [(11, cL 5 T_api_Ban.c T_api_Ban.d []), (12, cL 7 T_api_Entry.c T_api_Entry.d [])])], [], [(12, ⟨[(100000, 100000)], [], [(100000, .box (T_tape_tape.c x3g))], .tup []⟩)]⟩, rz] [true] ⟨[], [], [], [], [], [0, 1, 2, 3, 12, 13, 14], [100000], []⟩ (.c h2 (.c o3 (.c (g_tape_slot_ok a1 (v12.getD v14.toNat (0 : Int)) x2 q4) (.c o5 (.c nilok_Store (.c (g_tape_tape_Store_own b100000 x2 (T_api_Value.mk (0 : Int) (a3.getD (v12.getD v14.toNat (0 : Int)).toNat T_api_Peer.d) ([] : (List T_api_Ban)) ([] : (List T_api_Entry))) false (.ret x3v x3g) q6) (.c meth_Store .n))))))) (by kernel_rfl) (ih v12 v13 (add64 v14 (1 : Int)) x3g r hf)
      | pan x3o =>
        dsimp only at hf
        replace hf := Option.some.inj hf
        subst hf
        exact toPan_good allOk 10 _ _ [rz, rz] [true] (⟨[(3, aG (T_api_Loc.c x2)), (12, .id 102)], [], [], [], [(8, [(11, cL 5 T_api_Ban.c T_api_Ban.d []), (12, cL 7 T_api_Entry.c T_api_Entry.d [])])], [], []⟩) 12 ⟨[(100000, 100000)], .one (.ifa 104 21 (fun i => (T_api_Op.c x3o).getD i .junk))⟩ (.c h2 (.c o3 (.c (g_tape_slot_ok a1 (v12.getD v14.toNat (0 : Int)) x2 q4) (.c o5 (.c nilok_Store (.c (g_tape_tape_Store_own b100000 x2 (T_api_Value.mk (0 : Int) (a3.getD (v12.getD v14.toNat (0 : Int)).toNat T_api_Peer.d) ([] : (List T_api_Ban)) ([] : (List T_api_Entry))) false (.pan x3o) q6) (.c meth_Store .n))))))) (by kernel_rfl)
      | bad x3s =>
        dsimp only at hf
        replace hf := Option.some.inj hf
        subst hf
        exact toPan_good allOk 10 _ _ [rz, rz] [true] (⟨[(3, aG (T_api_Loc.c x2)), (12, .id 102)], [], [], [], [(8, [(11, cL 5 T_api_Ban.c T_api_Ban.d []), (12, cL 7 T_api_Entry.c T_api_Entry.d [])])], [], []⟩) 12 ⟨[(100000, 100000)], .one (.ifc 9 (.lit (.string x3s)))⟩ (.c h2 (.c o3 (.c (g_tape_slot_ok a1 (v12.getD v14.toNat (0 : Int)) x2 q4) (.c o5 (.c nilok_Store (.c (g_tape_tape_Store_own b100000 x2 (T_api_Value.mk (0 : Int) (a3.getD (v12.getD v14.toNat (0 : Int)).toNat T_api_Peer.d) ([] : (List T_api_Ban)) ([] : (List T_api_Entry))) false (.bad x3s) q6) (.c meth_Store .n))))))) (by kernel_rfl)
    · rcases br_some hf with ⟨h7, hf⟩ | ⟨h7, hf⟩
      · obtain ⟨x4, q8, hf⟩ := bind_some' hf
        obtain ⟨x5, q9, hf⟩ := bind_some' hf
        cases x5 with
        | ret x5v x5g =>
          dsimp only at hf
          replace hf := Option.some.inj hf
          subst hf
          exact toEndO_g allOk 10 [rz, rz, ⟨[(2, aG (T_api_Loc.c x4)), (9, .id 102)], [], [], [], [(5, [(11, cL 5 T_api_Ban.c T_api_Ban.d []), (12, cL 7 T_api_Entry.c T_api_Entry.d [])])], [], [(9, ⟨[(100000, 100000)], [], [(100000, .box (T_tape_tape.c x5g))], .tup []⟩)]⟩] [false, true] ⟨[], [], [], [], [], [], [100000], []⟩ [100000] (.c h2 (.c h7 (.c (g_tape_size_ok a1 x4 q8) (.c nilok_Store (.c (g_tape_tape_Store_own b100000 x4 (T_api_Value.mk ((a3.length : Nat) : Int) (T_api_Peer.mk (T_api_End.mk (T_api_Addr.mk false (0 : Int) (0 : Int)) (0 : Int)) false (0 : Int) (T_api_Score.mk (0 : Int) (0 : Int)) (0 : Int) (0 : Int)) ([] : (List T_api_Ban)) ([] : (List T_api_Entry))) false (.ret x5v x5g) q9) (.c meth_Store .n)))))) (by kernel_rfl)
        | pan x5o =>
          dsimp only at hf
          replace hf := Option.some.inj hf
          subst hf
          exact toPan_good allOk 9 _ _ [rz, rz] [false, true] (⟨[(2, aG (T_api_Loc.c x4)), (9, .id 102)], [], [], [], [(5, [(11, cL 5 T_api_Ban.c T_api_Ban.d []), (12, cL 7 T_api_Entry.c T_api_Entry.d [])])], [], []⟩) 9 ⟨[(100000, 100000)], .one (.ifa 104 21 (fun i => (T_api_Op.c x5o).getD i .junk))⟩ (.c h2 (.c h7 (.c (g_tape_size_ok a1 x4 q8) (.c nilok_Store (.c (g_tape_tape_Store_own b100000 x4 (T_api_Value.mk ((a3.length : Nat) : Int) (T_api_Peer.mk (T_api_End.mk (T_api_Addr.mk false (0 : Int) (0 : Int)) (0 : Int)) false (0 : Int) (T_api_Score.mk (0 : Int) (0 : Int)) (0 : Int) (0 : Int)) ([] : (List T_api_Ban)) ([] : (List T_api_Entry))) false (.pan x5o) q9) (.c meth_Store .n)))))) (by kernel_rfl)
        | bad x5s =>
          dsimp only at hf
          replace hf := Option.some.inj hf
          subst hf
          exact toPan_good allOk 9 _ _ [rz, rz] [false, true] (⟨[(2, aG (T_api_Loc.c x4)), (9, .id 102)], [], [], [], [(5, [(11, cL 5 T_api_Ban.c T_api_Ban.d []), (12, cL 7 T_api_Entry.c T_api_Entry.d [])])], [], []⟩) 9 ⟨[(100000, 100000)], .one (.ifc 9 (.lit (.string x5s)))⟩ (.c h2 (.c h7 (.c (g_tape_size_ok a1 x4 q8) (.c nilok_Store (.c (g_tape_tape_Store_own b100000 x4 (T_api_Value.mk ((a3.length : Nat) : Int) (T_api_Peer.mk (T_api_End.mk (T_api_Addr.mk false (0 : Int) (0 : Int)) (0 : Int)) false (0 : Int) (T_api_Score.mk (0 : Int) (0 : Int)) (0 : Int) (0 : Int)) ([] : (List T_api_Ban)) ([] : (List T_api_Entry))) false (.bad x5s) q9) (.c meth_Store .n)))))) (by kernel_rfl)
      · replace hf := Option.some.inj hf
        subst hf
        exact toEndO_g allOk 10 [rz, rz] [false, false] ⟨[], [], [], [], [], [], [100000], []⟩ [100000] (.c h2 (.c h7 .n)) (by kernel_rfl)

/-- doorman/tape.Write -/
def g_tape_Write (a0 : T_tape_tape) (a1 : Int) (a2 : (List T_api_Peer)) (a3 : (List T_api_Peer)) : Option (Tout Unit) :=
  (g_shard_Writes a2 a3).bind fun x1 =>
  g_tape_Write_c0 a1 a2 a3  ((((x1.length : Nat) : Int) - (0 : Int)).toNat + 2) x1 ((x1.length : Nat) : Int) (0 : Int) a0

theorem g_tape_Write_own (a0 : T_tape_tape) (a1 : Int) (a2 : (List T_api_Peer)) (a3 : (List T_api_Peer)) (r : (Tout Unit)) (hf : g_tape_Write a0 a1 a2 a3 = some r) : OCall Try.prog 53 [(100000, .box (T_tape_tape.c a0))] [.one (.ifc 105 (.ptr 100000 0)), .one (.lit (.int .i64 a1)), .one (cL 10 T_api_Peer.c T_api_Peer.d a2), .one (cL 10 T_api_Peer.c T_api_Peer.d a3)] (oc (fun x => .tup []) r) := by
  refine OCall.of Try.func53 rfl rfl rfl rfl fun S0 w0 => ?_
  unfold g_tape_Write at hf
  obtain ⟨x1, q1, hf⟩ := bind_some' hf
  exact toK_g allOk OPost.ends 4 [rA [(2, .r (.one (cL 1 (cI .i64) (0 : Int) x1)) [])]] [] ⟨[], [], [], [], [], [0, 1, 2, 3, 12, 13, 14], [100000], []⟩ (.c (g_shard_Writes_ok a2 a3 x1 q1) .n) (by kernel_rfl) (g_tape_Write_c0_ok S0 w0 a1 a2 a3   ((((x1.length : Nat) : Int) - (0 : Int)).toNat + 2) x1 ((x1.length : Nat) : Int) (0 : Int) a0 r hf)

/-- doorman/doormanlaw38.parts -/
def g_doormanlaw38_parts (a0 : T_tape_tape) : Option (Tout T_api_Reply) :=
  (g_tape_Read a0 (1 : Int)).bind fun x1 =>
  (match x1 with
  | .ret x1v x1g =>
    bif (decide (((x1v.length : Nat) : Int) > (0 : Int))) then
      need (0 ≤ (1 : Int) ∧ (1 : Int) ≤ ((x1v.length : Nat) : Int)) <|
      (g_tape_Write x1g (1 : Int) x1v (x1v.drop (1 : Int).toNat)).bind fun x2 =>
      (match x2 with
      | .ret x2v x2g =>
        some (Tout.ret (T_api_Reply.mk (0 : Int) (T_api_End.mk (T_api_Addr.mk false (0 : Int) (0 : Int)) (0 : Int)) ((x1v.length : Nat) : Int) (0 : Int) x1v) x2g)
      | .pan x2o =>
        some (Tout.pan x2o)
      | .bad x2s =>
        some (Tout.bad x2s))
    else
      some (Tout.ret (T_api_Reply.mk (0 : Int) (T_api_End.mk (T_api_Addr.mk false (0 : Int) (0 : Int)) (0 : Int)) ((x1v.length : Nat) : Int) (0 : Int) x1v) x1g)
  | .pan x1o =>
    some (Tout.pan x1o)
  | .bad x1s =>
    some (Tout.bad x1s))

theorem g_doormanlaw38_parts_own (a0 : T_tape_tape) (r : (Tout T_api_Reply)) (hf : g_doormanlaw38_parts a0 = some r) : OCall Try.prog 26 [(100000, .box (T_tape_tape.c a0))] [.one (.ifc 105 (.ptr 100000 0))] (oc (fun x => .agg (T_api_Reply.c x)) r) := by
  refine OCall.of Try.func26 rfl rfl rfl rfl fun S0 w0 => ?_
  unfold g_doormanlaw38_parts at hf
  obtain ⟨x1, q1, hf⟩ := bind_some' hf
  cases x1 with
  | ret x1v x1g =>
    dsimp only at hf
    rcases br_some hf with ⟨h2, hf⟩ | ⟨h2, hf⟩
    · obtain ⟨o3, hf⟩ := need_some hf
      obtain ⟨x2, q4, hf⟩ := bind_some' hf
      cases x2 with
      | ret x2v x2g =>
        dsimp only at hf
        replace hf := Option.some.inj hf
        subst hf
        exact toEndO_g allOk 11 [rz, rH [] [(1, ⟨[(100000, 100000)], [], [(100000, .box (T_tape_tape.c x1g))], .one (cL 10 T_api_Peer.c T_api_Peer.d x1v)⟩)], rz, ⟨[], [], [], [], [], [(3, ((x1v.drop (1 : Int).toNat).length, rowsOf T_api_Peer.c T_api_Peer.d (x1v.drop (1 : Int).toNat)))], [(4, ⟨[(100000, 100000)], [], [(100000, .box (T_tape_tape.c x2g))], .tup []⟩)]⟩, rz] [true] ⟨[], [], [], [], [], [2], [2, 100000], []⟩ [100000] (.c (g_tape_Read_own a0 (1 : Int) (.ret x1v x1g) q1) (.c h2 (.c (show (x1v.drop (1 : Int).toNat).length = x1v.length - (1 : Int).toNat ∧ ∀ i j, i < x1v.length - (1 : Int).toNat → j < 10 → rowsOf T_api_Peer.c T_api_Peer.d (x1v.drop (1 : Int).toNat) i j = rowsOf T_api_Peer.c T_api_Peer.d x1v ((1 : Int).toNat + i) j from (piece_drop _ _)) (.c o3 (.c (g_tape_Write_own x1g (1 : Int) x1v (x1v.drop (1 : Int).toNat) (.ret x2v x2g) q4) .n))))) (by kernel_rfl)
      | pan x2o =>
        dsimp only at hf
        replace hf := Option.some.inj hf
        subst hf
        exact toPan_good allOk 8 _ _ [rz, rH [] [(1, ⟨[(100000, 100000)], [], [(100000, .box (T_tape_tape.c x1g))], .one (cL 10 T_api_Peer.c T_api_Peer.d x1v)⟩)], rz] [true] (⟨[], [], [], [], [], [(3, ((x1v.drop (1 : Int).toNat).length, rowsOf T_api_Peer.c T_api_Peer.d (x1v.drop (1 : Int).toNat)))], []⟩) 4 ⟨[(100000, 100000)], .one (.ifa 104 21 (fun i => (T_api_Op.c x2o).getD i .junk))⟩ (.c (g_tape_Read_own a0 (1 : Int) (.ret x1v x1g) q1) (.c h2 (.c (show (x1v.drop (1 : Int).toNat).length = x1v.length - (1 : Int).toNat ∧ ∀ i j, i < x1v.length - (1 : Int).toNat → j < 10 → rowsOf T_api_Peer.c T_api_Peer.d (x1v.drop (1 : Int).toNat) i j = rowsOf T_api_Peer.c T_api_Peer.d x1v ((1 : Int).toNat + i) j from (piece_drop _ _)) (.c o3 (.c (g_tape_Write_own x1g (1 : Int) x1v (x1v.drop (1 : Int).toNat) (.pan x2o) q4) .n))))) (by kernel_rfl)
      | bad x2s =>
        dsimp only at hf
        replace hf := Option.some.inj hf
        subst hf
        exact toPan_good allOk 8 _ _ [rz, rH [] [(1, ⟨[(100000, 100000)], [], [(100000, .box (T_tape_tape.c x1g))], .one (cL 10 T_api_Peer.c T_api_Peer.d x1v)⟩)], rz] [true] (⟨[], [], [], [], [], [(3, ((x1v.drop (1 : Int).toNat).length, rowsOf T_api_Peer.c T_api_Peer.d (x1v.drop (1 : Int).toNat)))], []⟩) 4 ⟨[(100000, 100000)], .one (.ifc 9 (.lit (.string x2s)))⟩ (.c (g_tape_Read_own a0 (1 : Int) (.ret x1v x1g) q1) (.c h2 (.c (show (x1v.drop (1 : Int).toNat).length = x1v.length - (1 : Int).toNat ∧ ∀ i j, i < x1v.length - (1 : Int).toNat → j < 10 → rowsOf T_api_Peer.c T_api_Peer.d (x1v.drop (1 : Int).toNat) i j = rowsOf T_api_Peer.c T_api_Peer.d x1v ((1 : Int).toNat + i) j from (piece_drop _ _)) (.c o3 (.c (g_tape_Write_own x1g (1 : Int) x1v (x1v.drop (1 : Int).toNat) (.bad x2s) q4) .n))))) (by kernel_rfl)
    · replace hf := Option.some.inj hf
      subst hf
      exact toEndO_g allOk 11 [rz, rH [] [(1, ⟨[(100000, 100000)], [], [(100000, .box (T_tape_tape.c x1g))], .one (cL 10 T_api_Peer.c T_api_Peer.d x1v)⟩)], rz, rz] [false] ⟨[], [], [], [], [], [2], [2, 100000], []⟩ [100000] (.c (g_tape_Read_own a0 (1 : Int) (.ret x1v x1g) q1) (.c h2 .n)) (by kernel_rfl)
  | pan x1o =>
    dsimp only at hf
    replace hf := Option.some.inj hf
    subst hf
    exact toPan_good allOk 3 _ _ [rz] [] (rz) 1 ⟨[(100000, 100000)], .one (.ifa 104 21 (fun i => (T_api_Op.c x1o).getD i .junk))⟩ (.c (g_tape_Read_own a0 (1 : Int) (.pan x1o) q1) .n) (by kernel_rfl)
  | bad x1s =>
    dsimp only at hf
    replace hf := Option.some.inj hf
    subst hf
    exact toPan_good allOk 3 _ _ [rz] [] (rz) 1 ⟨[(100000, 100000)], .one (.ifc 9 (.lit (.string x1s)))⟩ (.c (g_tape_Read_own a0 (1 : Int) (.bad x1s) q1) .n) (by kernel_rfl)

/-- doorman/doormanref38.Ask -/
def g_doormanref38_Ask (a0 : T_doormanref38_Walk) (a1 : T_api_Op) : Option (T_doormanref38_Walk × T_api_Value) :=
  bif a0.fWait then
    some (a0, (T_api_Value.mk (0 : Int) (T_api_Peer.mk (T_api_End.mk (T_api_Addr.mk false (0 : Int) (0 : Int)) (0 : Int)) false (0 : Int) (T_api_Score.mk (0 : Int) (0 : Int)) (0 : Int) (0 : Int)) ([] : (List T_api_Ban)) ([] : (List T_api_Entry))))
  else
    bif (decide (a0.fAt < ((a0.fGot.length : Nat) : Int))) then
      need (0 ≤ (sub64 (add64 a0.fAt (1 : Int)) (1 : Int)) ∧ (sub64 (add64 a0.fAt (1 : Int)) (1 : Int)) < ((a0.fGot.length : Nat) : Int)) <|
      some ((T_doormanref38_Walk.mk a0.fGot (add64 a0.fAt (1 : Int)) a0.fOp a0.fWait), (a0.fGot.getD (sub64 (add64 a0.fAt (1 : Int)) (1 : Int)).toNat T_api_Value.d))
    else
      (g_doormanref36_Clean a1).bind fun x1 =>
      some ((T_doormanref38_Walk.mk a0.fGot a0.fAt x1 true), (T_api_Value.mk (0 : Int) (T_api_Peer.mk (T_api_End.mk (T_api_Addr.mk false (0 : Int) (0 : Int)) (0 : Int)) false (0 : Int) (T_api_Score.mk (0 : Int) (0 : Int)) (0 : Int) (0 : Int)) ([] : (List T_api_Ban)) ([] : (List T_api_Entry))))

theorem g_doormanref38_Ask_ok (a0 : T_doormanref38_Walk) (a1 : T_api_Op) (r : (T_doormanref38_Walk × T_api_Value)) (hf : g_doormanref38_Ask a0 a1 = some r) : SCall Try.prog 75 [.agg (T_doormanref38_Walk.c a0), .agg (T_api_Op.c a1)] (.tup [(true, T_doormanref38_Walk.c r.1), (true, T_api_Value.c r.2)]) := by
  refine SCall.of Try.func75 rfl rfl rfl rfl fun S0 w0 => ?_
  unfold g_doormanref38_Ask at hf
  rcases br_some hf with ⟨h1, hf⟩ | ⟨h1, hf⟩
  · replace hf := Option.some.inj hf
    subst hf
    exact toEnd_g allOk 8 [rz, rz, rz] [true] [] [(5, [(11, cL 5 T_api_Ban.c T_api_Ban.d []), (12, cL 7 T_api_Entry.c T_api_Entry.d [])])] [] (.c h1 .n) (by kernel_rfl) rfl
  · rcases br_some hf with ⟨h2, hf⟩ | ⟨h2, hf⟩
    · obtain ⟨o3, hf⟩ := need_some hf
      replace hf := Option.some.inj hf
      subst hf
      exact toEnd_g allOk 15 [rz, rz, rz, rz, rz] [false, true] [] [] [] (.c h1 (.c h2 (.c o3 .n))) (by kernel_rfl) rfl
    · obtain ⟨x1, q4, hf⟩ := bind_some' hf
      replace hf := Option.some.inj hf
      subst hf
      exact toEnd_g allOk 18 [rz, rz, rz, rA [(1, aG (T_api_Op.c x1))], rz, rz] [false, false] [] [(5, [(11, cL 5 T_api_Ban.c T_api_Ban.d []), (12, cL 7 T_api_Entry.c T_api_Entry.d [])])] [] (.c h1 (.c h2 (.c (g_doormanref36_Clean_ok a1 x1 q4) .n))) (by kernel_rfl) rfl

/-- doorman/doormanref38.Load -/
def g_doormanref38_Load (a0 : T_doormanref38_Walk) (a1 : T_api_Loc) : Option (T_doormanref38_Walk × T_api_Value) :=
  (g_doormanref38_Ask a0 (T_api_Op.mk (5 : Int) (0 : Int) a1 (0 : Int) (0 : Int) (T_api_Value.mk (0 : Int) (T_api_Peer.mk (T_api_End.mk (T_api_Addr.mk false (0 : Int) (0 : Int)) (0 : Int)) false (0 : Int) (T_api_Score.mk (0 : Int) (0 : Int)) (0 : Int) (0 : Int)) ([] : (List T_api_Ban)) ([] : (List T_api_Entry))) false)).bind fun x1 =>
  some (x1.1, x1.2)

theorem g_doormanref38_Load_ok (a0 : T_doormanref38_Walk) (a1 : T_api_Loc) (r : (T_doormanref38_Walk × T_api_Value)) (hf : g_doormanref38_Load a0 a1 = some r) : SCall Try.prog 54 [.agg (T_doormanref38_Walk.c a0), .agg (T_api_Loc.c a1)] (.tup [(true, T_doormanref38_Walk.c r.1), (true, T_api_Value.c r.2)]) := by
  refine SCall.of Try.func54 rfl rfl rfl rfl fun S0 w0 => ?_
  unfold g_doormanref38_Load at hf
  obtain ⟨x1, q1, hf⟩ := bind_some' hf
  replace hf := Option.some.inj hf
  subst hf
  exact toEnd_g allOk 4 [rz, ⟨[(3, .r (.tup [(true, T_doormanref38_Walk.c x1.1), (true, T_api_Value.c x1.2)]) [])], [], [], [], [(2, [(18, cL 5 T_api_Ban.c T_api_Ban.d []), (19, cL 7 T_api_Entry.c T_api_Entry.d [])])], [], []⟩] [] [] [] [] (.c (g_doormanref38_Ask_ok a0 (T_api_Op.mk (5 : Int) (0 : Int) a1 (0 : Int) (0 : Int) (T_api_Value.mk (0 : Int) (T_api_Peer.mk (T_api_End.mk (T_api_Addr.mk false (0 : Int) (0 : Int)) (0 : Int)) false (0 : Int) (T_api_Score.mk (0 : Int) (0 : Int)) (0 : Int) (0 : Int)) ([] : (List T_api_Ban)) ([] : (List T_api_Entry))) false) x1 q1) .n) (by kernel_rfl) rfl

def g_doormanref38_Read_c0 (a1 : Int)  : Nat → Int → (List T_api_Peer) → T_doormanref38_Walk → T_doormanref38_Walk → T_api_Value → Option (T_doormanref38_Walk × (List T_api_Peer))
  | 0, _, _, _, _, _ => none
  | fu + 1, v9, w8, b4, b6, b7 =>
    bif (decide (v9 < b7.fN)) then
      bif (!b6.fWait) then
        (g_doormanref38_Load b6 (T_api_Loc.mk (6 : Int) a1 v9)).bind fun x2 =>
        need ((w8 ++ ([x2.2.fPeer] : List T_api_Peer)).length * 80 ≤ 140737488355328 ∧ (w8 ++ ([x2.2.fPeer] : List T_api_Peer)).length ≤ maxLen) <|
        g_doormanref38_Read_c0 a1  fu (add64 v9 (1 : Int)) (w8 ++ ([x2.2.fPeer] : List T_api_Peer)) b4 x2.1 b7
      else
        some (b6, w8)
    else
      some (b6, w8)

theorem g_doormanref38_Read_c0_ok (S0 : Nat → Prop) (w0 : Start) (a1 : Int)  : ∀ (fu : Nat) (v9 : Int) (w8 : (List T_api_Peer)) (b4 : T_doormanref38_Walk) (b6 : T_doormanref38_Walk) (b7 : T_api_Value) (r : (T_doormanref38_Walk × (List T_api_Peer))), g_doormanref38_Read_c0 a1  fu v9 w8 b4 b6 b7 = some r → Good Try.prog 47 S0 w0 (bodyPost Try.prog Try.f27 (Post S0 w0 (.tup [(true, T_doormanref38_Walk.c r.1), (false, (cLs 10 T_api_Peer.c T_api_Peer.d) r.2)]))) (at_ [1, 1, 1, 0, 1, 0] (bodyOf Try.f27)) ⟨[(1, .one (.lit (.int .i64 a1))), (4, .one (.ptr 4 0)), (6, .one (.ptr 6 0)), (7, .one (.ptr 7 0)), (8, .one (.osl 8 w8.length)), (9, .one (.lit (.int .i64 v9)))], [(8, .rows 39 10 w8.length (rowsOf T_api_Peer.c T_api_Peer.d w8)), (4, .box [cL 13 T_api_Value.c T_api_Value.d b4.fGot, .lit (.int .i64 b4.fAt), .lit (.int .i64 b4.fOp.fKind), .lit (.int .i64 b4.fOp.fLock), .lit (.int .i64 b4.fOp.fLoc.fKind), .lit (.int .i64 b4.fOp.fLoc.fShard), .lit (.int .i64 b4.fOp.fLoc.fSlot), .lit (.int .i64 b4.fOp.fOld), .lit (.int .i64 b4.fOp.fNew), .lit (.int .i64 b4.fOp.fVal.fN), .lit (.bool b4.fOp.fVal.fPeer.fEnd.fAddr.fV6), .lit (.int .u64 b4.fOp.fVal.fPeer.fEnd.fAddr.fHi), .lit (.int .u64 b4.fOp.fVal.fPeer.fEnd.fAddr.fLo), .lit (.int .i64 b4.fOp.fVal.fPeer.fEnd.fPort), .lit (.bool b4.fOp.fVal.fPeer.fIn), .lit (.int .i64 b4.fOp.fVal.fPeer.fSince), .lit (.int .i64 b4.fOp.fVal.fPeer.fScore.fPoints), .lit (.int .i64 b4.fOp.fVal.fPeer.fScore.fAt), .lit (.int .i64 b4.fOp.fVal.fPeer.fPing), .lit (.int .i64 b4.fOp.fVal.fPeer.fWork), cL 5 T_api_Ban.c T_api_Ban.d b4.fOp.fVal.fBans, cL 7 T_api_Entry.c T_api_Entry.d b4.fOp.fVal.fBook, .lit (.bool b4.fOp.fMark), .lit (.bool b4.fWait)]), (6, .box [cL 13 T_api_Value.c T_api_Value.d b6.fGot, .lit (.int .i64 b6.fAt), .lit (.int .i64 b6.fOp.fKind), .lit (.int .i64 b6.fOp.fLock), .lit (.int .i64 b6.fOp.fLoc.fKind), .lit (.int .i64 b6.fOp.fLoc.fShard), .lit (.int .i64 b6.fOp.fLoc.fSlot), .lit (.int .i64 b6.fOp.fOld), .lit (.int .i64 b6.fOp.fNew), .lit (.int .i64 b6.fOp.fVal.fN), .lit (.bool b6.fOp.fVal.fPeer.fEnd.fAddr.fV6), .lit (.int .u64 b6.fOp.fVal.fPeer.fEnd.fAddr.fHi), .lit (.int .u64 b6.fOp.fVal.fPeer.fEnd.fAddr.fLo), .lit (.int .i64 b6.fOp.fVal.fPeer.fEnd.fPort), .lit (.bool b6.fOp.fVal.fPeer.fIn), .lit (.int .i64 b6.fOp.fVal.fPeer.fSince), .lit (.int .i64 b6.fOp.fVal.fPeer.fScore.fPoints), .lit (.int .i64 b6.fOp.fVal.fPeer.fScore.fAt), .lit (.int .i64 b6.fOp.fVal.fPeer.fPing), .lit (.int .i64 b6.fOp.fVal.fPeer.fWork), cL 5 T_api_Ban.c T_api_Ban.d b6.fOp.fVal.fBans, cL 7 T_api_Entry.c T_api_Entry.d b6.fOp.fVal.fBook, .lit (.bool b6.fOp.fMark), .lit (.bool b6.fWait)]), (7, .box [.lit (.int .i64 b7.fN), .lit (.bool b7.fPeer.fEnd.fAddr.fV6), .lit (.int .u64 b7.fPeer.fEnd.fAddr.fHi), .lit (.int .u64 b7.fPeer.fEnd.fAddr.fLo), .lit (.int .i64 b7.fPeer.fEnd.fPort), .lit (.bool b7.fPeer.fIn), .lit (.int .i64 b7.fPeer.fSince), .lit (.int .i64 b7.fPeer.fScore.fPoints), .lit (.int .i64 b7.fPeer.fScore.fAt), .lit (.int .i64 b7.fPeer.fPing), .lit (.int .i64 b7.fPeer.fWork), cL 5 T_api_Ban.c T_api_Ban.d b7.fBans, cL 7 T_api_Entry.c T_api_Entry.d b7.fBook])]⟩ := by
  intro fu
  induction fu with
  | zero =>
    intro v9 w8 b4 b6 b7 r hf
    simp [g_doormanref38_Read_c0] at hf
  | succ fu ih =>
    intro v9 w8 b4 b6 b7 r hf
    unfold g_doormanref38_Read_c0 at hf
    rcases br_some hf with ⟨h2, hf⟩ | ⟨h2, hf⟩
    · rcases br_some hf with ⟨h3, hf⟩ | ⟨h3, hf⟩
      · obtain ⟨x2, q4, hf⟩ := bind_some' hf
        obtain ⟨o5, hf⟩ := need_some hf
        exact toK_g allOk Post.ends 16 [rB [(4, true)], rA [(4, .r (.tup [(true, T_doormanref38_Walk.c x2.1), (true, T_api_Value.c x2.2)]) [])], rz, ⟨[(4, .c ((w8 ++ ([x2.2.fPeer] : List T_api_Peer)).length) (rowsOf T_api_Peer.c T_api_Peer.d (w8 ++ ([x2.2.fPeer] : List T_api_Peer))))], [], [], [], [], [(3, (([x2.2.fPeer] : List T_api_Peer).length, rowsOf T_api_Peer.c T_api_Peer.d ([x2.2.fPeer] : List T_api_Peer)))], []⟩, rz] [true] ⟨[], [], [], [], [], [1, 4, 6, 7, 8, 9], [44, 4, 6, 7], [(44, 8)]⟩ (.c h2 (.c h3 (.c (g_doormanref38_Load_ok b6 (T_api_Loc.mk (6 : Int) a1 v9) x2 q4) (.c (show ([x2.2.fPeer] : List T_api_Peer).length = 1 ∧ ∀ i j, i < 1 → j < 10 → rowsOf T_api_Peer.c T_api_Peer.d ([x2.2.fPeer] : List T_api_Peer) i j = (([x2.2.fPeer] : List T_api_Peer).flatMap T_api_Peer.c).getD (i * 10 + j) .junk from ⟨rfl, fun i j hi hj => rows_flat (sz := 10) (e := T_api_Peer.c) (d := T_api_Peer.d) (fun _ => rfl) ([x2.2.fPeer] : List T_api_Peer) i j hi hj⟩) (.c (ext_app (sz := 10) (e := T_api_Peer.c) (d := T_api_Peer.d) w8 ([x2.2.fPeer] : List T_api_Peer)) (.c o5.1 (.c o5.2 .n))))))) (by kernel_rfl) (ih (add64 v9 (1 : Int)) (w8 ++ ([x2.2.fPeer] : List T_api_Peer)) b4 x2.1 b7 r hf)
      · replace hf := Option.some.inj hf
        subst hf
        exact toEnd_g allOk 8 [rB [(4, true)], rz] [false] [8] [] [] (.c h2 (.c h3 .n)) (by kernel_rfl) rfl
    · replace hf := Option.some.inj hf
      subst hf
      exact toEnd_g allOk 8 [rB [(4, false)], rz] [false] [8] [] [] (.c h2 (.c (show false = false from rfl) .n)) (by kernel_rfl) rfl

/-- doorman/doormanref38.Read -/
def g_doormanref38_Read (a0 : T_doormanref38_Walk) (a1 : Int) : Option (T_doormanref38_Walk × (List T_api_Peer)) :=
  (g_doormanref38_Load a0 (T_api_Loc.mk (5 : Int) a1 (0 : Int))).bind fun x1 =>
  g_doormanref38_Read_c0 a1  1000000 (0 : Int) ([] : List T_api_Peer) (T_doormanref38_Walk.mk ([] : (List T_api_Value)) (0 : Int) (T_api_Op.mk (0 : Int) (0 : Int) (T_api_Loc.mk (0 : Int) (0 : Int) (0 : Int)) (0 : Int) (0 : Int) (T_api_Value.mk (0 : Int) (T_api_Peer.mk (T_api_End.mk (T_api_Addr.mk false (0 : Int) (0 : Int)) (0 : Int)) false (0 : Int) (T_api_Score.mk (0 : Int) (0 : Int)) (0 : Int) (0 : Int)) ([] : (List T_api_Ban)) ([] : (List T_api_Entry))) false) false) x1.1 x1.2

theorem g_doormanref38_Read_ok (a0 : T_doormanref38_Walk) (a1 : Int) (r : (T_doormanref38_Walk × (List T_api_Peer))) (hf : g_doormanref38_Read a0 a1 = some r) : SCall Try.prog 27 [.agg (T_doormanref38_Walk.c a0), .one (.lit (.int .i64 a1))] (.tup [(true, T_doormanref38_Walk.c r.1), (false, (cLs 10 T_api_Peer.c T_api_Peer.d) r.2)]) := by
  refine SCall.of Try.func27 rfl rfl rfl rfl fun S0 w0 => ?_
  unfold g_doormanref38_Read at hf
  obtain ⟨x1, q1, hf⟩ := bind_some' hf
  exact toK_g allOk Post.ends 10 [rz, rA [(3, .r (.tup [(true, T_doormanref38_Walk.c x1.1), (true, T_api_Value.c x1.2)]) [])], rA [(0, .c ([] : List T_api_Peer).length (rowsOf T_api_Peer.c T_api_Peer.d ([] : List T_api_Peer)))], rz] [] ⟨[], [(4, [(0, cL 13 T_api_Value.c T_api_Value.d []), (20, cL 5 T_api_Ban.c T_api_Ban.d []), (21, cL 7 T_api_Entry.c T_api_Entry.d [])])], [], [], [], [1, 4, 6, 7, 8, 9], [19, 4, 6, 7], [(19, 8)]⟩ (.c (g_doormanref38_Load_ok a0 (T_api_Loc.mk (5 : Int) a1 (0 : Int)) x1 q1) (.c (show ([] : List T_api_Peer).length = 0 from rfl) (.c (show ∀ i j, i < 0 → j < 10 → rowsOf T_api_Peer.c T_api_Peer.d ([] : List T_api_Peer) i j = (([] : List T_api_Peer).flatMap T_api_Peer.c).getD (i * 10 + j) .junk from (fun i j hi hj => rows_flat (sz := 10) (e := T_api_Peer.c) (d := T_api_Peer.d) (fun _ => rfl) ([] : List T_api_Peer) i j hi hj)) .n))) (by kernel_rfl) (g_doormanref38_Read_c0_ok S0 w0 a1   1000000 (0 : Int) ([] : List T_api_Peer) (T_doormanref38_Walk.mk ([] : (List T_api_Value)) (0 : Int) (T_api_Op.mk (0 : Int) (0 : Int) (T_api_Loc.mk (0 : Int) (0 : Int) (0 : Int)) (0 : Int) (0 : Int) (T_api_Value.mk (0 : Int) (T_api_Peer.mk (T_api_End.mk (T_api_Addr.mk false (0 : Int) (0 : Int)) (0 : Int)) false (0 : Int) (T_api_Score.mk (0 : Int) (0 : Int)) (0 : Int) (0 : Int)) ([] : (List T_api_Ban)) ([] : (List T_api_Entry))) false) false) x1.1 x1.2 r hf)

def g_doormanref31_Writes_c0 (a0 : (List T_api_Peer)) (a1 : (List T_api_Peer))  : Nat → Int → (List Int) → Option (List Int)
  | 0, _, _ => none
  | fu + 1, v6, w5 =>
    bif (decide (v6 < ((a1.length : Nat) : Int))) then
      bif (decide (v6 ≥ ((a0.length : Nat) : Int))) then
        need ((w5 ++ ([v6] : List Int)).length * 8 ≤ 140737488355328 ∧ (w5 ++ ([v6] : List Int)).length ≤ maxLen) <|
        g_doormanref31_Writes_c0 a0 a1  fu (add64 v6 (1 : Int)) (w5 ++ ([v6] : List Int))
      else
        need (0 ≤ v6 ∧ v6 < ((a0.length : Nat) : Int)) <|
        need (0 ≤ v6 ∧ v6 < ((a1.length : Nat) : Int)) <|
        bif (!(decide ((a0.getD v6.toNat T_api_Peer.d) = (a1.getD v6.toNat T_api_Peer.d)))) then
          need ((w5 ++ ([v6] : List Int)).length * 8 ≤ 140737488355328 ∧ (w5 ++ ([v6] : List Int)).length ≤ maxLen) <|
          g_doormanref31_Writes_c0 a0 a1  fu (add64 v6 (1 : Int)) (w5 ++ ([v6] : List Int))
        else
          g_doormanref31_Writes_c0 a0 a1  fu (add64 v6 (1 : Int)) w5
    else
      some w5

theorem g_doormanref31_Writes_c0_ok (S0 : Nat → Prop) (w0 : Start) (a0 : (List T_api_Peer)) (a1 : (List T_api_Peer))  : ∀ (fu : Nat) (v6 : Int) (w5 : (List Int)) (r : (List Int)), g_doormanref31_Writes_c0 a0 a1  fu v6 w5 = some r → Good Try.prog 34 S0 w0 (bodyPost Try.prog Try.f55 (HPost S0 w0 [(99999, .rows 3 1 r.length (rowsOf (cI .i64) (0 : Int) r))] (.one (.osl 99999 r.length)))) (at_ [1, 1, 0, 1, 0] (bodyOf Try.f55)) ⟨[(0, .one (cL 10 T_api_Peer.c T_api_Peer.d a0)), (1, .one (cL 10 T_api_Peer.c T_api_Peer.d a1)), (5, .one (.osl 5 w5.length)), (6, .one (.lit (.int .i64 v6)))], [(5, .rows 3 1 w5.length (rowsOf (cI .i64) (0 : Int) w5))]⟩ := by
  intro fu
  induction fu with
  | zero =>
    intro v6 w5 r hf
    simp [g_doormanref31_Writes_c0] at hf
  | succ fu ih =>
    intro v6 w5 r hf
    unfold g_doormanref31_Writes_c0 at hf
    rcases br_some hf with ⟨h1, hf⟩ | ⟨h1, hf⟩
    · rcases br_some hf with ⟨h2, hf⟩ | ⟨h2, hf⟩
      · obtain ⟨o3, hf⟩ := need_some hf
        exact toK_g allOk HPost.ends 15 [rz, rB [(4, true)], ⟨[(3, .c ((w5 ++ ([v6] : List Int)).length) (rowsOf (cI .i64) (0 : Int) (w5 ++ ([v6] : List Int))))], [], [], [], [], [(2, (([v6] : List Int).length, rowsOf (cI .i64) (0 : Int) ([v6] : List Int)))], []⟩, rz] [true, true] ⟨[], [], [], [], [], [0, 1, 5, 6], [32], [(32, 5)]⟩ (.c h1 (.c h2 (.c (show true = true from rfl) (.c (show ([v6] : List Int).length = 1 ∧ ∀ i j, i < 1 → j < 1 → rowsOf (cI .i64) (0 : Int) ([v6] : List Int) i j = (([v6] : List Int).flatMap (cI .i64)).getD (i * 1 + j) .junk from ⟨rfl, fun i j hi hj => rows_flat (sz := 1) (e := (cI .i64)) (d := (0 : Int)) (fun _ => rfl) ([v6] : List Int) i j hi hj⟩) (.c (ext_app (sz := 1) (e := (cI .i64)) (d := (0 : Int)) w5 ([v6] : List Int)) (.c o3.1 (.c o3.2 .n))))))) (by kernel_rfl) (ih (add64 v6 (1 : Int)) (w5 ++ ([v6] : List Int)) r hf)
      · obtain ⟨o4, hf⟩ := need_some hf
        obtain ⟨o5, hf⟩ := need_some hf
        rcases br_some hf with ⟨h6, hf⟩ | ⟨h6, hf⟩
        · obtain ⟨o7, hf⟩ := need_some hf
          exact toK_g allOk HPost.ends 15 [rz, ⟨[(13, aB (!(decide ((a0.getD v6.toNat T_api_Peer.d) = (a1.getD v6.toNat T_api_Peer.d)))))], [(4, false)], [], [], [], [], []⟩, ⟨[(3, .c ((w5 ++ ([v6] : List Int)).length) (rowsOf (cI .i64) (0 : Int) (w5 ++ ([v6] : List Int))))], [], [], [], [], [(2, (([v6] : List Int).length, rowsOf (cI .i64) (0 : Int) ([v6] : List Int)))], []⟩, rz] [true, true] ⟨[], [], [], [], [], [0, 1, 5, 6], [32], [(32, 5)]⟩ (.c h1 (.c h2 (.c o4 (.c o5 (.c (neq_T_api_Peer (a0.getD v6.toNat T_api_Peer.d) (a1.getD v6.toNat T_api_Peer.d) (.tmp 22) (.tmp 26)) (.c h6 (.c (show ([v6] : List Int).length = 1 ∧ ∀ i j, i < 1 → j < 1 → rowsOf (cI .i64) (0 : Int) ([v6] : List Int) i j = (([v6] : List Int).flatMap (cI .i64)).getD (i * 1 + j) .junk from ⟨rfl, fun i j hi hj => rows_flat (sz := 1) (e := (cI .i64)) (d := (0 : Int)) (fun _ => rfl) ([v6] : List Int) i j hi hj⟩) (.c (ext_app (sz := 1) (e := (cI .i64)) (d := (0 : Int)) w5 ([v6] : List Int)) (.c o7.1 (.c o7.2 .n)))))))))) (by kernel_rfl) (ih (add64 v6 (1 : Int)) (w5 ++ ([v6] : List Int)) r hf)
        · exact toK_g allOk HPost.ends 15 [rz, ⟨[(13, aB (!(decide ((a0.getD v6.toNat T_api_Peer.d) = (a1.getD v6.toNat T_api_Peer.d)))))], [(4, false)], [], [], [], [], []⟩, rz] [true, false] ⟨[], [], [], [], [], [0, 1, 5, 6], [5], []⟩ (.c h1 (.c h2 (.c o4 (.c o5 (.c (neq_T_api_Peer (a0.getD v6.toNat T_api_Peer.d) (a1.getD v6.toNat T_api_Peer.d) (.tmp 22) (.tmp 26)) (.c h6 .n)))))) (by kernel_rfl) (ih (add64 v6 (1 : Int)) w5 r hf)
    · replace hf := Option.some.inj hf
      subst hf
      exact toEndH_g allOk 8 [rz, rz] [false] ⟨[], [], [], [], [], [4], [5], [(5, 99999)]⟩ (.c h1 .n) (by kernel_rfl)

/-- doorman/doormanref31.Writes -/
def g_doormanref31_Writes (a0 : (List T_api_Peer)) (a1 : (List T_api_Peer)) : Option (List Int) :=
  g_doormanref31_Writes_c0 a0 a1  ((((a1.length : Nat) : Int) - (0 : Int)).toNat + 2) (0 : Int) ([] : List Int)

theorem g_doormanref31_Writes_own (a0 : (List T_api_Peer)) (a1 : (List T_api_Peer)) (r : (List Int)) (hf : g_doormanref31_Writes a0 a1 = some r) : HCall Try.prog 55 [] [.one (cL 10 T_api_Peer.c T_api_Peer.d a0), .one (cL 10 T_api_Peer.c T_api_Peer.d a1)] [(99999, .rows 3 1 r.length (rowsOf (cI .i64) (0 : Int) r))] (.one (.osl 99999 r.length)) := by
  refine HCall.of Try.func55 rfl rfl rfl rfl fun S0 w0 => ?_
  unfold g_doormanref31_Writes at hf
  exact toK_g allOk HPost.ends 8 [rz, rA [(0, .c ([] : List Int).length (rowsOf (cI .i64) (0 : Int) ([] : List Int)))], rz] [] ⟨[], [], [], [], [], [0, 1, 5, 6], [7], [(7, 5)]⟩ (.c (show ([] : List Int).length = 0 from rfl) (.c (show ∀ i j, i < 0 → j < 1 → rowsOf (cI .i64) (0 : Int) ([] : List Int) i j = (([] : List Int).flatMap (cI .i64)).getD (i * 1 + j) .junk from (fun i j hi hj => rows_flat (sz := 1) (e := (cI .i64)) (d := (0 : Int)) (fun _ => rfl) ([] : List Int) i j hi hj)) .n)) (by kernel_rfl) (g_doormanref31_Writes_c0_ok S0 w0 a0 a1   ((((a1.length : Nat) : Int) - (0 : Int)).toNat + 2) (0 : Int) ([] : List Int) r hf)

theorem g_doormanref31_Writes_ok (a0 : (List T_api_Peer)) (a1 : (List T_api_Peer)) (r : (List Int)) (hf : g_doormanref31_Writes a0 a1 = some r) : SCall Try.prog 55 [.one (cL 10 T_api_Peer.c T_api_Peer.d a0), .one (cL 10 T_api_Peer.c T_api_Peer.d a1)] (.one (cL 1 (cI .i64) (0 : Int) r)) := (g_doormanref31_Writes_own a0 a1 r hf).pure

/-- doorman/doormanref38.Store -/
def g_doormanref38_Store (a0 : T_doormanref38_Walk) (a1 : T_api_Loc) (a2 : T_api_Value) (a3 : Bool) : Option T_doormanref38_Walk :=
  (g_doormanref38_Ask a0 (T_api_Op.mk (6 : Int) (0 : Int) a1 (0 : Int) (0 : Int) a2 a3)).bind fun x1 =>
  some x1.1

theorem g_doormanref38_Store_ok (a0 : T_doormanref38_Walk) (a1 : T_api_Loc) (a2 : T_api_Value) (a3 : Bool) (r : T_doormanref38_Walk) (hf : g_doormanref38_Store a0 a1 a2 a3 = some r) : SCall Try.prog 56 [.agg (T_doormanref38_Walk.c a0), .agg (T_api_Loc.c a1), .agg (T_api_Value.c a2), .one (.lit (.bool a3))] (.agg (T_doormanref38_Walk.c r)) := by
  refine SCall.of Try.func56 rfl rfl rfl rfl fun S0 w0 => ?_
  unfold g_doormanref38_Store at hf
  obtain ⟨x1, q1, hf⟩ := bind_some' hf
  replace hf := Option.some.inj hf
  subst hf
  exact toEnd_g allOk 6 [rz, rA [(5, .r (.tup [(true, T_doormanref38_Walk.c x1.1), (true, T_api_Value.c x1.2)]) [])], rz] [] [] [] [] (.c (g_doormanref38_Ask_ok a0 (T_api_Op.mk (6 : Int) (0 : Int) a1 (0 : Int) (0 : Int) a2 a3) x1 q1) .n) (by kernel_rfl) rfl

def g_doormanref38_Write_c0 (a1 : Int) (a2 : (List T_api_Peer)) (a3 : (List T_api_Peer))  : Nat → (List Int) → Int → T_doormanref38_Walk → T_doormanref38_Walk → Option T_doormanref38_Walk
  | 0, _, _, _, _ => none
  | fu + 1, v9, v10, b4, b8 =>
    bif (decide (v10 < ((v9.length : Nat) : Int))) then
      need (0 ≤ v10 ∧ v10 < ((v9.length : Nat) : Int)) <|
      need (0 ≤ (v9.getD v10.toNat (0 : Int)) ∧ (v9.getD v10.toNat (0 : Int)) < ((a3.length : Nat) : Int)) <|
      (g_doormanref38_Store b4 (T_api_Loc.mk (6 : Int) a1 (v9.getD v10.toNat (0 : Int))) (T_api_Value.mk (0 : Int) (a3.getD (v9.getD v10.toNat (0 : Int)).toNat T_api_Peer.d) ([] : (List T_api_Ban)) ([] : (List T_api_Entry))) false).bind fun x2 =>
      g_doormanref38_Write_c0 a1 a2 a3  fu v9 (add64 v10 (1 : Int)) x2 b8
    else
      bif (((a2.length : Nat) : Int) != ((a3.length : Nat) : Int)) then
        (g_doormanref38_Store b4 (T_api_Loc.mk (5 : Int) a1 (0 : Int)) (T_api_Value.mk ((a3.length : Nat) : Int) (T_api_Peer.mk (T_api_End.mk (T_api_Addr.mk false (0 : Int) (0 : Int)) (0 : Int)) false (0 : Int) (T_api_Score.mk (0 : Int) (0 : Int)) (0 : Int) (0 : Int)) ([] : (List T_api_Ban)) ([] : (List T_api_Entry))) false).bind fun x3 =>
        some x3
      else
        some b4

theorem g_doormanref38_Write_c0_ok (S0 : Nat → Prop) (w0 : Start) (a1 : Int) (a2 : (List T_api_Peer)) (a3 : (List T_api_Peer))  : ∀ (fu : Nat) (v9 : (List Int)) (v10 : Int) (b4 : T_doormanref38_Walk) (b8 : T_doormanref38_Walk) (r : T_doormanref38_Walk), g_doormanref38_Write_c0 a1 a2 a3  fu v9 v10 b4 b8 = some r → Good Try.prog 49 S0 w0 (bodyPost Try.prog Try.f28 (Post S0 w0 (.agg (T_doormanref38_Walk.c r)))) (at_ [1, 1, 0, 1, 0] (bodyOf Try.f28)) ⟨[(1, .one (.lit (.int .i64 a1))), (2, .one (cL 10 T_api_Peer.c T_api_Peer.d a2)), (3, .one (cL 10 T_api_Peer.c T_api_Peer.d a3)), (4, .one (.ptr 4 0)), (8, .one (.ptr 8 0)), (9, .one (cL 1 (cI .i64) (0 : Int) v9)), (10, .one (.lit (.int .i64 v10)))], [(4, .box [cL 13 T_api_Value.c T_api_Value.d b4.fGot, .lit (.int .i64 b4.fAt), .lit (.int .i64 b4.fOp.fKind), .lit (.int .i64 b4.fOp.fLock), .lit (.int .i64 b4.fOp.fLoc.fKind), .lit (.int .i64 b4.fOp.fLoc.fShard), .lit (.int .i64 b4.fOp.fLoc.fSlot), .lit (.int .i64 b4.fOp.fOld), .lit (.int .i64 b4.fOp.fNew), .lit (.int .i64 b4.fOp.fVal.fN), .lit (.bool b4.fOp.fVal.fPeer.fEnd.fAddr.fV6), .lit (.int .u64 b4.fOp.fVal.fPeer.fEnd.fAddr.fHi), .lit (.int .u64 b4.fOp.fVal.fPeer.fEnd.fAddr.fLo), .lit (.int .i64 b4.fOp.fVal.fPeer.fEnd.fPort), .lit (.bool b4.fOp.fVal.fPeer.fIn), .lit (.int .i64 b4.fOp.fVal.fPeer.fSince), .lit (.int .i64 b4.fOp.fVal.fPeer.fScore.fPoints), .lit (.int .i64 b4.fOp.fVal.fPeer.fScore.fAt), .lit (.int .i64 b4.fOp.fVal.fPeer.fPing), .lit (.int .i64 b4.fOp.fVal.fPeer.fWork), cL 5 T_api_Ban.c T_api_Ban.d b4.fOp.fVal.fBans, cL 7 T_api_Entry.c T_api_Entry.d b4.fOp.fVal.fBook, .lit (.bool b4.fOp.fMark), .lit (.bool b4.fWait)]), (8, .box [cL 13 T_api_Value.c T_api_Value.d b8.fGot, .lit (.int .i64 b8.fAt), .lit (.int .i64 b8.fOp.fKind), .lit (.int .i64 b8.fOp.fLock), .lit (.int .i64 b8.fOp.fLoc.fKind), .lit (.int .i64 b8.fOp.fLoc.fShard), .lit (.int .i64 b8.fOp.fLoc.fSlot), .lit (.int .i64 b8.fOp.fOld), .lit (.int .i64 b8.fOp.fNew), .lit (.int .i64 b8.fOp.fVal.fN), .lit (.bool b8.fOp.fVal.fPeer.fEnd.fAddr.fV6), .lit (.int .u64 b8.fOp.fVal.fPeer.fEnd.fAddr.fHi), .lit (.int .u64 b8.fOp.fVal.fPeer.fEnd.fAddr.fLo), .lit (.int .i64 b8.fOp.fVal.fPeer.fEnd.fPort), .lit (.bool b8.fOp.fVal.fPeer.fIn), .lit (.int .i64 b8.fOp.fVal.fPeer.fSince), .lit (.int .i64 b8.fOp.fVal.fPeer.fScore.fPoints), .lit (.int .i64 b8.fOp.fVal.fPeer.fScore.fAt), .lit (.int .i64 b8.fOp.fVal.fPeer.fPing), .lit (.int .i64 b8.fOp.fVal.fPeer.fWork), cL 5 T_api_Ban.c T_api_Ban.d b8.fOp.fVal.fBans, cL 7 T_api_Entry.c T_api_Entry.d b8.fOp.fVal.fBook, .lit (.bool b8.fOp.fMark), .lit (.bool b8.fWait)])]⟩ := by
  intro fu
  induction fu with
  | zero =>
    intro v9 v10 b4 b8 r hf
    simp [g_doormanref38_Write_c0] at hf
  | succ fu ih =>
    intro v9 v10 b4 b8 r hf
    unfold g_doormanref38_Write_c0 at hf
    rcases br_some hf with ⟨h2, hf⟩ | ⟨h2, hf⟩
    · obtain ⟨o3, hf⟩ := need_some hf
      obtain ⟨o4, hf⟩ := need_some hf
      obtain ⟨x2, q5, hf⟩ := bind_some' hf
      exact toK_g allOk Post.ends 12 [rz, ⟨[(15, aG (T_doormanref38_Walk.c x2))], [], [], [], [(14, [(11, cL 5 T_api_Ban.c T_api_Ban.d []), (12, cL 7 T_api_Entry.c T_api_Entry.d [])])], [], []⟩, rz] [true] ⟨[], [], [], [], [], [1, 2, 3, 4, 8, 9, 10], [4, 8], []⟩ (.c h2 (.c o3 (.c o3 (.c o4 (.c (g_doormanref38_Store_ok b4 (T_api_Loc.mk (6 : Int) a1 (v9.getD v10.toNat (0 : Int))) (T_api_Value.mk (0 : Int) (a3.getD (v9.getD v10.toNat (0 : Int)).toNat T_api_Peer.d) ([] : (List T_api_Ban)) ([] : (List T_api_Entry))) false x2 q5) .n))))) (by kernel_rfl) (ih v9 (add64 v10 (1 : Int)) x2 b8 r hf)
    · rcases br_some hf with ⟨h6, hf⟩ | ⟨h6, hf⟩
      · obtain ⟨x3, q7, hf⟩ := bind_some' hf
        replace hf := Option.some.inj hf
        subst hf
        exact toEnd_g allOk 13 [rz, rz, ⟨[(6, aG (T_doormanref38_Walk.c x3))], [], [], [], [(5, [(11, cL 5 T_api_Ban.c T_api_Ban.d []), (12, cL 7 T_api_Entry.c T_api_Entry.d [])])], [], []⟩, rz] [false, true] [] [] [] (.c h2 (.c h6 (.c (g_doormanref38_Store_ok b4 (T_api_Loc.mk (5 : Int) a1 (0 : Int)) (T_api_Value.mk ((a3.length : Nat) : Int) (T_api_Peer.mk (T_api_End.mk (T_api_Addr.mk false (0 : Int) (0 : Int)) (0 : Int)) false (0 : Int) (T_api_Score.mk (0 : Int) (0 : Int)) (0 : Int) (0 : Int)) ([] : (List T_api_Ban)) ([] : (List T_api_Entry))) false x3 q7) .n))) (by kernel_rfl) rfl
      · replace hf := Option.some.inj hf
        subst hf
        exact toEnd_g allOk 13 [rz, rz, rz] [false, false] [] [] [] (.c h2 (.c h6 .n)) (by kernel_rfl) rfl

/-- doorman/doormanref38.Write -/
def g_doormanref38_Write (a0 : T_doormanref38_Walk) (a1 : Int) (a2 : (List T_api_Peer)) (a3 : (List T_api_Peer)) : Option T_doormanref38_Walk :=
  (g_doormanref31_Writes a2 a3).bind fun x1 =>
  g_doormanref38_Write_c0 a1 a2 a3  ((((x1.length : Nat) : Int) - (0 : Int)).toNat + 2) x1 (0 : Int) a0 (T_doormanref38_Walk.mk ([] : (List T_api_Value)) (0 : Int) (T_api_Op.mk (0 : Int) (0 : Int) (T_api_Loc.mk (0 : Int) (0 : Int) (0 : Int)) (0 : Int) (0 : Int) (T_api_Value.mk (0 : Int) (T_api_Peer.mk (T_api_End.mk (T_api_Addr.mk false (0 : Int) (0 : Int)) (0 : Int)) false (0 : Int) (T_api_Score.mk (0 : Int) (0 : Int)) (0 : Int) (0 : Int)) ([] : (List T_api_Ban)) ([] : (List T_api_Entry))) false) false)

theorem g_doormanref38_Write_ok (a0 : T_doormanref38_Walk) (a1 : Int) (a2 : (List T_api_Peer)) (a3 : (List T_api_Peer)) (r : T_doormanref38_Walk) (hf : g_doormanref38_Write a0 a1 a2 a3 = some r) : SCall Try.prog 28 [.agg (T_doormanref38_Walk.c a0), .one (.lit (.int .i64 a1)), .one (cL 10 T_api_Peer.c T_api_Peer.d a2), .one (cL 10 T_api_Peer.c T_api_Peer.d a3)] (.agg (T_doormanref38_Walk.c r)) := by
  refine SCall.of Try.func28 rfl rfl rfl rfl fun S0 w0 => ?_
  unfold g_doormanref38_Write at hf
  obtain ⟨x1, q1, hf⟩ := bind_some' hf
  exact toK_g allOk Post.ends 8 [rz, rA [(2, .r (.one (cL 1 (cI .i64) (0 : Int) x1)) [])], rz] [] ⟨[], [(8, [(0, cL 13 T_api_Value.c T_api_Value.d []), (20, cL 5 T_api_Ban.c T_api_Ban.d []), (21, cL 7 T_api_Entry.c T_api_Entry.d [])])], [], [], [], [1, 2, 3, 4, 8, 9, 10], [4, 8], []⟩ (.c (g_doormanref31_Writes_ok a2 a3 x1 q1) .n) (by kernel_rfl) (g_doormanref38_Write_c0_ok S0 w0 a1 a2 a3   ((((x1.length : Nat) : Int) - (0 : Int)).toNat + 2) x1 (0 : Int) a0 (T_doormanref38_Walk.mk ([] : (List T_api_Value)) (0 : Int) (T_api_Op.mk (0 : Int) (0 : Int) (T_api_Loc.mk (0 : Int) (0 : Int) (0 : Int)) (0 : Int) (0 : Int) (T_api_Value.mk (0 : Int) (T_api_Peer.mk (T_api_End.mk (T_api_Addr.mk false (0 : Int) (0 : Int)) (0 : Int)) false (0 : Int) (T_api_Score.mk (0 : Int) (0 : Int)) (0 : Int) (0 : Int)) ([] : (List T_api_Ban)) ([] : (List T_api_Entry))) false) false) r hf)

/-- doorman/tape.Play of doorman/doormanlaw38.parts -/
def g_tape_Play_26 (a1 : List T_api_Value) : Option T_tape_Turn := (g_doormanlaw38_parts ⟨a1⟩).map playT

theorem g_tape_Play_26_ok (a1 : List T_api_Value) (r : T_tape_Turn) (hf : g_tape_Play_26 a1 = some r) : SCall Try.prog 25 [.one (.lit (.func (.func 26) #[] #[])), .one (cL 13 T_api_Value.c T_api_Value.d a1)] (.agg (T_tape_Turn.c r)) := by
  obtain ⟨o, ho, rfl⟩ := Option.map_eq_some_iff.1 hf
  have hinv : ∀ p w, (invoke (.fn (.func 51) #[p]) #[]).run Try.prog w = .ok (.enter 51 #[p]) w := fun p w => by simp [go_sem]
  cases o with
  | ret x g =>
    exact SCall.defR rz rz (rH [] [(5, ⟨[(100000, 9)], [], [(100000, .box (T_tape_tape.c g))], .agg (T_api_Reply.c x)⟩)]) 5 4 51 allOk Try.func25 rfl rfl rfl rfl rfl rfl (fun ρ w p h => by simp [go_sem, h]) (by kernel_rfl) hinv rfl rfl
      (.c (show Try.prog.concrete 105 = true from by kernel_rfl) (.c (g_doormanlaw38_parts_own ⟨a1⟩ (.ret x g) ho) .n)) (by kernel_rfl) (play_idle x g) (by kernel_rfl) (by kernel_rfl) (by kernel_rfl)
  | pan op =>
    exact SCall.defP rz rz rz 5 4 51 5 ⟨[(100000, 9)], .one (.ifa 104 21 (fun i => (T_api_Op.c op).getD i .junk))⟩ allOk Try.func25 rfl rfl rfl rfl rfl rfl (fun ρ w p h => by simp [go_sem, h]) (by kernel_rfl) hinv rfl rfl
      (.c (show Try.prog.concrete 105 = true from by kernel_rfl) (.c (g_doormanlaw38_parts_own ⟨a1⟩ (.pan op) ho) .n)) (by kernel_rfl) (play_pan op) (by kernel_rfl) (by kernel_rfl) (by kernel_rfl)
  | bad s =>
    exact SCall.defP rz rz rz 5 4 51 5 ⟨[(100000, 9)], .one (.ifc 9 (.lit (.string s)))⟩ allOk Try.func25 rfl rfl rfl rfl rfl rfl (fun ρ w p h => by simp [go_sem, h]) (by kernel_rfl) hinv rfl rfl
      (.c (show Try.prog.concrete 105 = true from by kernel_rfl) (.c (g_doormanlaw38_parts_own ⟨a1⟩ (.bad s) ho) .n)) (by kernel_rfl) (play_bad s) (by kernel_rfl) (by kernel_rfl) (by kernel_rfl)

def g_doormanlaw38_TapeParts_c0   (v5 : (List T_api_Peer)) (b3 : T_tape_Turn) (b4 : T_doormanref38_Walk) : Option Bool :=
  bif b4.fWait then
    bif (!b3.fDone) then
      bif (!b3.fBroken) then
        (g_doormansame_Op b3.fOp b4.fOp).bind fun x6 =>
        bif x6 then
          (g_doormansame_Reply b3.fReply (T_api_Reply.mk (0 : Int) (T_api_End.mk (T_api_Addr.mk false (0 : Int) (0 : Int)) (0 : Int)) (0 : Int) (0 : Int) ([] : (List T_api_Peer)))).bind fun x7 =>
          bif x7 then
            (g_doormanlaw38_awake).bind fun x8 =>
            some x8
          else
            some false
        else
          some false
      else
        some false
    else
      some false
  else
    bif b3.fDone then
      bif (!b3.fBroken) then
        (g_doormansame_Op b3.fOp (T_api_Op.mk (0 : Int) (0 : Int) (T_api_Loc.mk (0 : Int) (0 : Int) (0 : Int)) (0 : Int) (0 : Int) (T_api_Value.mk (0 : Int) (T_api_Peer.mk (T_api_End.mk (T_api_Addr.mk false (0 : Int) (0 : Int)) (0 : Int)) false (0 : Int) (T_api_Score.mk (0 : Int) (0 : Int)) (0 : Int) (0 : Int)) ([] : (List T_api_Ban)) ([] : (List T_api_Entry))) false)).bind fun x9 =>
        bif x9 then
          (g_doormansame_Reply b3.fReply (T_api_Reply.mk (0 : Int) (T_api_End.mk (T_api_Addr.mk false (0 : Int) (0 : Int)) (0 : Int)) ((v5.length : Nat) : Int) (0 : Int) v5)).bind fun x10 =>
          bif x10 then
            (g_doormanlaw38_awake).bind fun x11 =>
            some x11
          else
            some false
        else
          some false
      else
        some false
    else
      some false

theorem g_doormanlaw38_TapeParts_c0_ok (S0 : Nat → Prop) (w0 : Start)   (v5 : (List T_api_Peer)) (b3 : T_tape_Turn) (b4 : T_doormanref38_Walk) (r : Bool) (hf : g_doormanlaw38_TapeParts_c0   v5 b3 b4 = some r) : Good Try.prog 77 S0 w0 (bodyPost Try.prog Try.f7 (Post S0 w0 (.one (.lit (.bool r))))) (at_ [1, 1, 1, 1, 1] (bodyOf Try.f7)) ⟨[(3, .one (.ptr 3 0)), (4, .one (.ptr 4 0)), (5, .one (cL 10 T_api_Peer.c T_api_Peer.d v5))], [(3, .box [.lit (.int .i64 b3.fOp.fKind), .lit (.int .i64 b3.fOp.fLock), .lit (.int .i64 b3.fOp.fLoc.fKind), .lit (.int .i64 b3.fOp.fLoc.fShard), .lit (.int .i64 b3.fOp.fLoc.fSlot), .lit (.int .i64 b3.fOp.fOld), .lit (.int .i64 b3.fOp.fNew), .lit (.int .i64 b3.fOp.fVal.fN), .lit (.bool b3.fOp.fVal.fPeer.fEnd.fAddr.fV6), .lit (.int .u64 b3.fOp.fVal.fPeer.fEnd.fAddr.fHi), .lit (.int .u64 b3.fOp.fVal.fPeer.fEnd.fAddr.fLo), .lit (.int .i64 b3.fOp.fVal.fPeer.fEnd.fPort), .lit (.bool b3.fOp.fVal.fPeer.fIn), .lit (.int .i64 b3.fOp.fVal.fPeer.fSince), .lit (.int .i64 b3.fOp.fVal.fPeer.fScore.fPoints), .lit (.int .i64 b3.fOp.fVal.fPeer.fScore.fAt), .lit (.int .i64 b3.fOp.fVal.fPeer.fPing), .lit (.int .i64 b3.fOp.fVal.fPeer.fWork), cL 5 T_api_Ban.c T_api_Ban.d b3.fOp.fVal.fBans, cL 7 T_api_Entry.c T_api_Entry.d b3.fOp.fVal.fBook, .lit (.bool b3.fOp.fMark), .lit (.int .i64 b3.fReply.fCode), .lit (.bool b3.fReply.fEnd.fAddr.fV6), .lit (.int .u64 b3.fReply.fEnd.fAddr.fHi), .lit (.int .u64 b3.fReply.fEnd.fAddr.fLo), .lit (.int .i64 b3.fReply.fEnd.fPort), .lit (.int .i64 b3.fReply.fN), .lit (.int .i64 b3.fReply.fUntil), cL 10 T_api_Peer.c T_api_Peer.d b3.fReply.fPeers, .lit (.bool b3.fDone), .lit (.bool b3.fBroken)]), (4, .box [cL 13 T_api_Value.c T_api_Value.d b4.fGot, .lit (.int .i64 b4.fAt), .lit (.int .i64 b4.fOp.fKind), .lit (.int .i64 b4.fOp.fLock), .lit (.int .i64 b4.fOp.fLoc.fKind), .lit (.int .i64 b4.fOp.fLoc.fShard), .lit (.int .i64 b4.fOp.fLoc.fSlot), .lit (.int .i64 b4.fOp.fOld), .lit (.int .i64 b4.fOp.fNew), .lit (.int .i64 b4.fOp.fVal.fN), .lit (.bool b4.fOp.fVal.fPeer.fEnd.fAddr.fV6), .lit (.int .u64 b4.fOp.fVal.fPeer.fEnd.fAddr.fHi), .lit (.int .u64 b4.fOp.fVal.fPeer.fEnd.fAddr.fLo), .lit (.int .i64 b4.fOp.fVal.fPeer.fEnd.fPort), .lit (.bool b4.fOp.fVal.fPeer.fIn), .lit (.int .i64 b4.fOp.fVal.fPeer.fSince), .lit (.int .i64 b4.fOp.fVal.fPeer.fScore.fPoints), .lit (.int .i64 b4.fOp.fVal.fPeer.fScore.fAt), .lit (.int .i64 b4.fOp.fVal.fPeer.fPing), .lit (.int .i64 b4.fOp.fVal.fPeer.fWork), cL 5 T_api_Ban.c T_api_Ban.d b4.fOp.fVal.fBans, cL 7 T_api_Entry.c T_api_Entry.d b4.fOp.fVal.fBook, .lit (.bool b4.fOp.fMark), .lit (.bool b4.fWait)])]⟩ := by
  unfold g_doormanlaw38_TapeParts_c0 at hf
  rcases br_some hf with ⟨h9, hf⟩ | ⟨h9, hf⟩
  · rcases br_some hf with ⟨h10, hf⟩ | ⟨h10, hf⟩
    · rcases br_some hf with ⟨h11, hf⟩ | ⟨h11, hf⟩
      · obtain ⟨x6, q12, hf⟩ := bind_some' hf
        rcases br_some hf with ⟨h13, hf⟩ | ⟨h13, hf⟩
        · obtain ⟨x7, q14, hf⟩ := bind_some' hf
          rcases br_some hf with ⟨h15, hf⟩ | ⟨h15, hf⟩
          · obtain ⟨x8, q16, hf⟩ := bind_some' hf
            replace hf := Option.some.inj hf
            subst hf
            exact toEnd_g allOk 6 [rz, ⟨[(13, aB x6), (19, aB x7), (22, aB x8)], [(3, true), (8, true), (15, true), (21, true)], [], [], [(18, [(7, cL 10 T_api_Peer.c T_api_Peer.d [])])], [], []⟩] [true] [] [] [] (.c h9 (.c h10 (.c h11 (.c (g_doormansame_Op_ok b3.fOp b4.fOp x6 q12) (.c h13 (.c (g_doormansame_Reply_ok b3.fReply (T_api_Reply.mk (0 : Int) (T_api_End.mk (T_api_Addr.mk false (0 : Int) (0 : Int)) (0 : Int)) (0 : Int) (0 : Int) ([] : (List T_api_Peer))) x7 q14) (.c h15 (.c (g_doormanlaw38_awake_ok  x8 q16) .n)))))))) (by kernel_rfl) rfl
          · replace hf := Option.some.inj hf
            subst hf
            exact toEnd_g allOk 6 [rz, ⟨[(13, aB x6), (19, aB x7)], [(3, true), (8, true), (15, true), (21, false)], [], [], [(18, [(7, cL 10 T_api_Peer.c T_api_Peer.d [])])], [], []⟩] [true] [] [] [] (.c h9 (.c h10 (.c h11 (.c (g_doormansame_Op_ok b3.fOp b4.fOp x6 q12) (.c h13 (.c (g_doormansame_Reply_ok b3.fReply (T_api_Reply.mk (0 : Int) (T_api_End.mk (T_api_Addr.mk false (0 : Int) (0 : Int)) (0 : Int)) (0 : Int) (0 : Int) ([] : (List T_api_Peer))) x7 q14) (.c h15 .n))))))) (by kernel_rfl) rfl
        · replace hf := Option.some.inj hf
          subst hf
          exact toEnd_g allOk 6 [rz, ⟨[(13, aB x6)], [(3, true), (8, true), (15, false)], [], [], [], [], []⟩] [true] [] [] [] (.c h9 (.c h10 (.c h11 (.c (g_doormansame_Op_ok b3.fOp b4.fOp x6 q12) (.c h13 .n))))) (by kernel_rfl) rfl
      · replace hf := Option.some.inj hf
        subst hf
        exact toEnd_g allOk 6 [rz, rB [(3, true), (8, false)]] [true] [] [] [] (.c h9 (.c h10 (.c h11 .n))) (by kernel_rfl) rfl
    · replace hf := Option.some.inj hf
      subst hf
      exact toEnd_g allOk 6 [rz, rB [(3, false)]] [true] [] [] [] (.c h9 (.c h10 .n)) (by kernel_rfl) rfl
  · rcases br_some hf with ⟨h17, hf⟩ | ⟨h17, hf⟩
    · rcases br_some hf with ⟨h18, hf⟩ | ⟨h18, hf⟩
      · obtain ⟨x9, q19, hf⟩ := bind_some' hf
        rcases br_some hf with ⟨h20, hf⟩ | ⟨h20, hf⟩
        · obtain ⟨x10, q21, hf⟩ := bind_some' hf
          rcases br_some hf with ⟨h22, hf⟩ | ⟨h22, hf⟩
          · obtain ⟨x11, q23, hf⟩ := bind_some' hf
            replace hf := Option.some.inj hf
            subst hf
            exact toEnd_g allOk 7 [rz, ⟨[(11, aB x9), (20, aB x10), (23, aB x11)], [(2, true), (7, true), (13, true), (22, true)], [], [], [(10, [(18, cL 5 T_api_Ban.c T_api_Ban.d []), (19, cL 7 T_api_Entry.c T_api_Entry.d [])])], [], []⟩] [false] [] [] [] (.c h9 (.c h17 (.c h18 (.c (g_doormansame_Op_ok b3.fOp (T_api_Op.mk (0 : Int) (0 : Int) (T_api_Loc.mk (0 : Int) (0 : Int) (0 : Int)) (0 : Int) (0 : Int) (T_api_Value.mk (0 : Int) (T_api_Peer.mk (T_api_End.mk (T_api_Addr.mk false (0 : Int) (0 : Int)) (0 : Int)) false (0 : Int) (T_api_Score.mk (0 : Int) (0 : Int)) (0 : Int) (0 : Int)) ([] : (List T_api_Ban)) ([] : (List T_api_Entry))) false) x9 q19) (.c h20 (.c (g_doormansame_Reply_ok b3.fReply (T_api_Reply.mk (0 : Int) (T_api_End.mk (T_api_Addr.mk false (0 : Int) (0 : Int)) (0 : Int)) ((v5.length : Nat) : Int) (0 : Int) v5) x10 q21) (.c h22 (.c (g_doormanlaw38_awake_ok  x11 q23) .n)))))))) (by kernel_rfl) rfl
          · replace hf := Option.some.inj hf
            subst hf
            exact toEnd_g allOk 7 [rz, ⟨[(11, aB x9), (20, aB x10)], [(2, true), (7, true), (13, true), (22, false)], [], [], [(10, [(18, cL 5 T_api_Ban.c T_api_Ban.d []), (19, cL 7 T_api_Entry.c T_api_Entry.d [])])], [], []⟩] [false] [] [] [] (.c h9 (.c h17 (.c h18 (.c (g_doormansame_Op_ok b3.fOp (T_api_Op.mk (0 : Int) (0 : Int) (T_api_Loc.mk (0 : Int) (0 : Int) (0 : Int)) (0 : Int) (0 : Int) (T_api_Value.mk (0 : Int) (T_api_Peer.mk (T_api_End.mk (T_api_Addr.mk false (0 : Int) (0 : Int)) (0 : Int)) false (0 : Int) (T_api_Score.mk (0 : Int) (0 : Int)) (0 : Int) (0 : Int)) ([] : (List T_api_Ban)) ([] : (List T_api_Entry))) false) x9 q19) (.c h20 (.c (g_doormansame_Reply_ok b3.fReply (T_api_Reply.mk (0 : Int) (T_api_End.mk (T_api_Addr.mk false (0 : Int) (0 : Int)) (0 : Int)) ((v5.length : Nat) : Int) (0 : Int) v5) x10 q21) (.c h22 .n))))))) (by kernel_rfl) rfl
        · replace hf := Option.some.inj hf
          subst hf
          exact toEnd_g allOk 7 [rz, ⟨[(11, aB x9)], [(2, true), (7, true), (13, false)], [], [], [(10, [(18, cL 5 T_api_Ban.c T_api_Ban.d []), (19, cL 7 T_api_Entry.c T_api_Entry.d [])])], [], []⟩] [false] [] [] [] (.c h9 (.c h17 (.c h18 (.c (g_doormansame_Op_ok b3.fOp (T_api_Op.mk (0 : Int) (0 : Int) (T_api_Loc.mk (0 : Int) (0 : Int) (0 : Int)) (0 : Int) (0 : Int) (T_api_Value.mk (0 : Int) (T_api_Peer.mk (T_api_End.mk (T_api_Addr.mk false (0 : Int) (0 : Int)) (0 : Int)) false (0 : Int) (T_api_Score.mk (0 : Int) (0 : Int)) (0 : Int) (0 : Int)) ([] : (List T_api_Ban)) ([] : (List T_api_Entry))) false) x9 q19) (.c h20 .n))))) (by kernel_rfl) rfl
      · replace hf := Option.some.inj hf
        subst hf
        exact toEnd_g allOk 7 [rz, rB [(2, true), (7, false)]] [false] [] [] [] (.c h9 (.c h17 (.c h18 .n))) (by kernel_rfl) rfl
    · replace hf := Option.some.inj hf
      subst hf
      exact toEnd_g allOk 7 [rz, rB [(2, false)]] [false] [] [] [] (.c h9 (.c h17 .n)) (by kernel_rfl) rfl

/-- doorman/doormanlaw38.TapeParts -/
def g_doormanlaw38_TapeParts (a0 : (List T_api_Value)) : Option Bool :=
  (g_doormanlaw38_light ([] : (List T_api_Op)) a0).bind fun x1 =>
  bif (!x1) then
    (g_doormanlaw38_awake).bind fun x2 =>
    some x2
  else
    (g_tape_Play_26 a0).bind fun x3 =>
    (g_doormanref38_Read (T_doormanref38_Walk.mk a0 (0 : Int) (T_api_Op.mk (0 : Int) (0 : Int) (T_api_Loc.mk (0 : Int) (0 : Int) (0 : Int)) (0 : Int) (0 : Int) (T_api_Value.mk (0 : Int) (T_api_Peer.mk (T_api_End.mk (T_api_Addr.mk false (0 : Int) (0 : Int)) (0 : Int)) false (0 : Int) (T_api_Score.mk (0 : Int) (0 : Int)) (0 : Int) (0 : Int)) ([] : (List T_api_Ban)) ([] : (List T_api_Entry))) false) false) (1 : Int)).bind fun x4 =>
    bif (decide (((x4.2.length : Nat) : Int) > (0 : Int))) then
      need (0 ≤ (1 : Int) ∧ (1 : Int) ≤ ((x4.2.length : Nat) : Int)) <|
      (g_doormanref38_Write x4.1 (1 : Int) x4.2 (x4.2.drop (1 : Int).toNat)).bind fun x5 =>
      g_doormanlaw38_TapeParts_c0   x4.2 x3 x5
    else
      g_doormanlaw38_TapeParts_c0   x4.2 x3 x4.1

theorem g_doormanlaw38_TapeParts_ok (a0 : (List T_api_Value)) (r : Bool) (hf : g_doormanlaw38_TapeParts a0 = some r) : SCall Try.prog 7 [.one (cL 13 T_api_Value.c T_api_Value.d a0)] (.one (.lit (.bool r))) := by
  refine SCall.of Try.func7 rfl rfl rfl rfl fun S0 w0 => ?_
  unfold g_doormanlaw38_TapeParts at hf
  obtain ⟨x1, q1, hf⟩ := bind_some' hf
  rcases br_some hf with ⟨h2, hf⟩ | ⟨h2, hf⟩
  · obtain ⟨x2, q3, hf⟩ := bind_some' hf
    replace hf := Option.some.inj hf
    subst hf
    exact toEnd_g allOk 8 [rz, rA [(1, aB x1)], rA [(0, aB x2)]] [true] [] [] [] (.c (show SCall Try.prog 19 [.one (.lit (.slice none 0 0)), .one (cL 13 T_api_Value.c T_api_Value.d a0)] (.one (.lit (.bool x1))) from ((g_doormanlaw38_light_ok ([] : (List T_api_Op)) a0 x1 q1).weak (.cons (.one (.nul _ _)) (.cons (.refl _) .nil)))) (.c h2 (.c (g_doormanlaw38_awake_ok  x2 q3) .n))) (by kernel_rfl) rfl
  · obtain ⟨x3, q4, hf⟩ := bind_some' hf
    obtain ⟨x4, q5, hf⟩ := bind_some' hf
    rcases br_some hf with ⟨h6, hf⟩ | ⟨h6, hf⟩
    · obtain ⟨o7, hf⟩ := need_some hf
      obtain ⟨x5, q8, hf⟩ := bind_some' hf
      exact toK_g allOk Post.ends 16 [rz, rA [(1, aB x1)], rA [(1, aG (T_tape_Turn.c x3))], ⟨[(2, .r (.tup [(true, T_doormanref38_Walk.c x4.1), (false, (cLs 10 T_api_Peer.c T_api_Peer.d) x4.2)]) [])], [], [], [], [(1, [(20, cL 5 T_api_Ban.c T_api_Ban.d []), (21, cL 7 T_api_Entry.c T_api_Entry.d [])])], [], []⟩, rz, ⟨[(4, aG (T_doormanref38_Walk.c x5))], [], [], [], [], [(3, ((x4.2.drop (1 : Int).toNat).length, rowsOf T_api_Peer.c T_api_Peer.d (x4.2.drop (1 : Int).toNat)))], []⟩] [false, true] ⟨[], [], [], [], [], [3, 4, 5], [3, 4], []⟩ (.c (show SCall Try.prog 19 [.one (.lit (.slice none 0 0)), .one (cL 13 T_api_Value.c T_api_Value.d a0)] (.one (.lit (.bool x1))) from ((g_doormanlaw38_light_ok ([] : (List T_api_Op)) a0 x1 q1).weak (.cons (.one (.nul _ _)) (.cons (.refl _) .nil)))) (.c h2 (.c (g_tape_Play_26_ok a0 x3 q4) (.c (g_doormanref38_Read_ok (T_doormanref38_Walk.mk a0 (0 : Int) (T_api_Op.mk (0 : Int) (0 : Int) (T_api_Loc.mk (0 : Int) (0 : Int) (0 : Int)) (0 : Int) (0 : Int) (T_api_Value.mk (0 : Int) (T_api_Peer.mk (T_api_End.mk (T_api_Addr.mk false (0 : Int) (0 : Int)) (0 : Int)) false (0 : Int) (T_api_Score.mk (0 : Int) (0 : Int)) (0 : Int) (0 : Int)) ([] : (List T_api_Ban)) ([] : (List T_api_Entry))) false) false) (1 : Int) x4 q5) (.c h6 (.c (show (x4.2.drop (1 : Int).toNat).length = x4.2.length - (1 : Int).toNat ∧ ∀ i j, i < x4.2.length - (1 : Int).toNat → j < 10 → rowsOf T_api_Peer.c T_api_Peer.d (x4.2.drop (1 : Int).toNat) i j = rowsOf T_api_Peer.c T_api_Peer.d x4.2 ((1 : Int).toNat + i) j from (piece_drop _ _)) (.c o7 (.c (g_doormanref38_Write_ok x4.1 (1 : Int) x4.2 (x4.2.drop (1 : Int).toNat) x5 q8) .n)))))))) (by kernel_rfl) (g_doormanlaw38_TapeParts_c0_ok S0 w0    x4.2 x3 x5 r hf)
    · exact toK_g allOk Post.ends 16 [rz, rA [(1, aB x1)], rA [(1, aG (T_tape_Turn.c x3))], ⟨[(2, .r (.tup [(true, T_doormanref38_Walk.c x4.1), (false, (cLs 10 T_api_Peer.c T_api_Peer.d) x4.2)]) [])], [], [], [], [(1, [(20, cL 5 T_api_Ban.c T_api_Ban.d []), (21, cL 7 T_api_Entry.c T_api_Entry.d [])])], [], []⟩, rz] [false, false] ⟨[], [], [], [], [], [3, 4, 5], [3, 4], []⟩ (.c (show SCall Try.prog 19 [.one (.lit (.slice none 0 0)), .one (cL 13 T_api_Value.c T_api_Value.d a0)] (.one (.lit (.bool x1))) from ((g_doormanlaw38_light_ok ([] : (List T_api_Op)) a0 x1 q1).weak (.cons (.one (.nul _ _)) (.cons (.refl _) .nil)))) (.c h2 (.c (g_tape_Play_26_ok a0 x3 q4) (.c (g_doormanref38_Read_ok (T_doormanref38_Walk.mk a0 (0 : Int) (T_api_Op.mk (0 : Int) (0 : Int) (T_api_Loc.mk (0 : Int) (0 : Int) (0 : Int)) (0 : Int) (0 : Int) (T_api_Value.mk (0 : Int) (T_api_Peer.mk (T_api_End.mk (T_api_Addr.mk false (0 : Int) (0 : Int)) (0 : Int)) false (0 : Int) (T_api_Score.mk (0 : Int) (0 : Int)) (0 : Int) (0 : Int)) ([] : (List T_api_Ban)) ([] : (List T_api_Entry))) false) false) (1 : Int) x4 q5) (.c h6 .n))))) (by kernel_rfl) (g_doormanlaw38_TapeParts_c0_ok S0 w0    x4.2 x3 x4.1 r hf)

/-- doorman/tape.count -/
def g_tape_count (a0 : Int) : Option Int :=
  some (if (8 : Int) < (if (1 : Int) > a0 then (1 : Int) else a0) then (8 : Int) else (if (1 : Int) > a0 then (1 : Int) else a0))

theorem g_tape_count_ok (a0 : Int) (r : Int) (hf : g_tape_count a0 = some r) : SCall Try.prog 76 [.one (.lit (.int .i64 a0))] (.one (.lit (.int .i64 r))) := by
  refine SCall.of Try.func76 rfl rfl rfl rfl fun S0 w0 => ?_
  unfold g_tape_count at hf
  replace hf := Option.some.inj hf
  subst hf
  exact toEnd_g allOk 4 [rz, rz] [] [] [] [] .n (by kernel_rfl) rfl

def g_tape_LockAll_c0   : Nat → Int → Int → T_tape_tape → Option (Tout Unit)
  | 0, _, _, _ => none
  | fu + 1, v6, v7, b100000 =>
    bif (decide (v7 < v6)) then
      (g_tape_tape_Lock b100000 (add64 (2 : Int) v7) false).bind fun x2 =>
      (match x2 with
      | .ret x2v x2g =>
        g_tape_LockAll_c0   fu v6 (add64 v7 (1 : Int)) x2g
      | .pan x2o =>
        some (Tout.pan x2o)
      | .bad x2s =>
        some (Tout.bad x2s))
    else
      some (Tout.ret () b100000)

theorem g_tape_LockAll_c0_ok (S0 : Nat → Prop) (w0 : Start)   : ∀ (fu : Nat) (v6 : Int) (v7 : Int) (b100000 : T_tape_tape) (r : (Tout Unit)), g_tape_LockAll_c0   fu v6 v7 b100000 = some r → Good Try.prog 15 S0 w0 (bodyPost Try.prog Try.f57 (OPost S0 w0 (oc (fun x => .tup []) r))) (at_ [1, 0] (bodyOf Try.f57)) ⟨[(0, .one (.ifc 105 (.ptr 100000 0))), (6, .one (.lit (.int .i64 v6))), (7, .one (.lit (.int .i64 v7)))], [(100000, .box [cL 13 T_api_Value.c T_api_Value.d b100000.fgot])]⟩ := by
  intro fu
  induction fu with
  | zero =>
    intro v6 v7 b100000 r hf
    simp [g_tape_LockAll_c0] at hf
  | succ fu ih =>
    intro v6 v7 b100000 r hf
    unfold g_tape_LockAll_c0 at hf
    rcases br_some hf with ⟨h2, hf⟩ | ⟨h2, hf⟩
    · obtain ⟨x2, q3, hf⟩ := bind_some' hf
      cases x2 with
      | ret x2v x2g =>
        dsimp only at hf
        exact toK_g allOk OPost.ends 14 [rz, rz, rH [(3, .id 99)] [(3, ⟨[(100000, 100000)], [], [(100000, .box (T_tape_tape.c x2g))], .tup []⟩)], rz] [true] ⟨[], [], [], [], [], [0, 6, 7], [100000], []⟩ (.c h2 (.c (g_tape_tape_Lock_own b100000 (add64 (2 : Int) v7) false (.ret x2v x2g) q3) (.c meth_Lock .n))) (by kernel_rfl) (ih v6 (add64 v7 (1 : Int)) x2g r hf)
      | pan x2o =>
        dsimp only at hf
        replace hf := Option.some.inj hf
        subst hf
        exact toPan_good allOk 10 _ _ [rz, rz] [true] (rA [(3, .id 99)]) 3 ⟨[(100000, 100000)], .one (.ifa 104 21 (fun i => (T_api_Op.c x2o).getD i .junk))⟩ (.c h2 (.c (g_tape_tape_Lock_own b100000 (add64 (2 : Int) v7) false (.pan x2o) q3) (.c meth_Lock .n))) (by kernel_rfl)
      | bad x2s =>
        dsimp only at hf
        replace hf := Option.some.inj hf
        subst hf
        exact toPan_good allOk 10 _ _ [rz, rz] [true] (rA [(3, .id 99)]) 3 ⟨[(100000, 100000)], .one (.ifc 9 (.lit (.string x2s)))⟩ (.c h2 (.c (g_tape_tape_Lock_own b100000 (add64 (2 : Int) v7) false (.bad x2s) q3) (.c meth_Lock .n))) (by kernel_rfl)
    · replace hf := Option.some.inj hf
      subst hf
      exact toEndO_g allOk 6 [rz] [false] ⟨[], [], [], [], [], [], [100000], []⟩ [100000] (.c h2 .n) (by kernel_rfl)

/-- doorman/tape.LockAll -/
def g_tape_LockAll (a0 : T_tape_tape) (a1 : Int) : Option (Tout Unit) :=
  (g_tape_count a1).bind fun x1 =>
  g_tape_LockAll_c0   ((x1 - (0 : Int)).toNat + 2) x1 (0 : Int) a0

theorem g_tape_LockAll_own (a0 : T_tape_tape) (a1 : Int) (r : (Tout Unit)) (hf : g_tape_LockAll a0 a1 = some r) : OCall Try.prog 57 [(100000, .box (T_tape_tape.c a0))] [.one (.ifc 105 (.ptr 100000 0)), .one (.lit (.int .i64 a1))] (oc (fun x => .tup []) r) := by
  refine OCall.of Try.func57 rfl rfl rfl rfl fun S0 w0 => ?_
  unfold g_tape_LockAll at hf
  obtain ⟨x1, q1, hf⟩ := bind_some' hf
  exact toK_g allOk OPost.ends 3 [rA [(1, aI x1)]] [] ⟨[], [], [], [], [], [0, 6, 7], [100000], []⟩ (.c (g_tape_count_ok a1 x1 q1) .n) (by kernel_rfl) (g_tape_LockAll_c0_ok S0 w0    ((x1 - (0 : Int)).toNat + 2) x1 (0 : Int) a0 r hf)

def g_tape_Reserve_c0 (a1 : Int) (a2 : Bool)  : Nat → T_tape_tape → T_api_Loc → Option (Tout Bool)
  | 0, _, _ => none
  | fu + 1, b100000, b7 =>
    (g_tape_tape_Load b100000 b7 false).bind fun x1 =>
    (match x1 with
    | .ret x1v x1g =>
      bif (decide (x1v.fN ≥ a1)) then
        some (Tout.ret false x1g)
      else
        (g_tape_tape_Swap x1g b7 x1v.fN (add64 x1v.fN (1 : Int)) a2).bind fun x2 =>
        (match x2 with
        | .ret x2v x2g =>
          bif x2v then
            some (Tout.ret true x2g)
          else
            g_tape_Reserve_c0 a1 a2  fu x2g b7
        | .pan x2o =>
          some (Tout.pan x2o)
        | .bad x2s =>
          some (Tout.bad x2s))
    | .pan x1o =>
      some (Tout.pan x1o)
    | .bad x1s =>
      some (Tout.bad x1s))

theorem g_tape_Reserve_c0_ok (S0 : Nat → Prop) (w0 : Start) (a1 : Int) (a2 : Bool)  : ∀ (fu : Nat) (b100000 : T_tape_tape) (b7 : T_api_Loc) (r : (Tout Bool)), g_tape_Reserve_c0 a1 a2  fu b100000 b7 = some r → Good Try.prog 24 S0 w0 (bodyPost Try.prog Try.f58 (OPost S0 w0 (oc (fun x => .one (.lit (.bool x))) r))) (at_ [1, 1, 0] (bodyOf Try.f58)) ⟨[(0, .one (.ifc 105 (.ptr 100000 0))), (1, .one (.lit (.int .i64 a1))), (2, .one (.lit (.bool a2))), (7, .one (.ptr 7 0))], [(100000, .box [cL 13 T_api_Value.c T_api_Value.d b100000.fgot]), (7, .box [.lit (.int .i64 b7.fKind), .lit (.int .i64 b7.fShard), .lit (.int .i64 b7.fSlot)])]⟩ := by
  intro fu
  induction fu with
  | zero =>
    intro b100000 b7 r hf
    simp [g_tape_Reserve_c0] at hf
  | succ fu ih =>
    intro b100000 b7 r hf
    unfold g_tape_Reserve_c0 at hf
    obtain ⟨x1, q1, hf⟩ := bind_some' hf
    cases x1 with
    | ret x1v x1g =>
      dsimp only at hf
      rcases br_some hf with ⟨h2, hf⟩ | ⟨h2, hf⟩
      · replace hf := Option.some.inj hf
        subst hf
        exact toEndO_g allOk 10 [rH [(2, .id 98)] [(2, ⟨[(100000, 100000)], [], [(100000, .box (T_tape_tape.c x1g))], .agg (T_api_Value.c x1v)⟩)], rz, rz] [true] ⟨[], [], [], [], [], [6], [100000], []⟩ [100000] (.c (g_tape_tape_Load_own b100000 b7 false (.ret x1v x1g) q1) (.c meth_Load (.c h2 .n))) (by kernel_rfl)
      · obtain ⟨x2, q3, hf⟩ := bind_some' hf
        cases x2 with
        | ret x2v x2g =>
          dsimp only at hf
          rcases br_some hf with ⟨h4, hf⟩ | ⟨h4, hf⟩
          · replace hf := Option.some.inj hf
            subst hf
            exact toEndO_g allOk 14 [rH [(2, .id 98)] [(2, ⟨[(100000, 100000)], [], [(100000, .box (T_tape_tape.c x1g))], .agg (T_api_Value.c x1v)⟩)], rz, rH [(6, .id 103)] [(6, ⟨[(100000, 100000)], [], [(100000, .box (T_tape_tape.c x2g))], .one (.lit (.bool x2v))⟩)], rz] [false, true] ⟨[], [], [], [], [], [6], [100000], []⟩ [100000] (.c (g_tape_tape_Load_own b100000 b7 false (.ret x1v x1g) q1) (.c meth_Load (.c h2 (.c (g_tape_tape_Swap_own x1g b7 x1v.fN (add64 x1v.fN (1 : Int)) a2 (.ret x2v x2g) q3) (.c meth_Swap (.c h4 .n)))))) (by kernel_rfl)
          · exact toK_g allOk OPost.ends 15 [rH [(2, .id 98)] [(2, ⟨[(100000, 100000)], [], [(100000, .box (T_tape_tape.c x1g))], .agg (T_api_Value.c x1v)⟩)], rz, rH [(6, .id 103)] [(6, ⟨[(100000, 100000)], [], [(100000, .box (T_tape_tape.c x2g))], .one (.lit (.bool x2v))⟩)]] [false, false] ⟨[], [], [], [], [], [0, 1, 2, 7], [100000, 7], []⟩ (.c (g_tape_tape_Load_own b100000 b7 false (.ret x1v x1g) q1) (.c meth_Load (.c h2 (.c (g_tape_tape_Swap_own x1g b7 x1v.fN (add64 x1v.fN (1 : Int)) a2 (.ret x2v x2g) q3) (.c meth_Swap (.c h4 .n)))))) (by kernel_rfl) (ih x2g b7 r hf)
        | pan x2o =>
          dsimp only at hf
          replace hf := Option.some.inj hf
          subst hf
          exact toPan_good allOk 10 _ _ [rH [(2, .id 98)] [(2, ⟨[(100000, 100000)], [], [(100000, .box (T_tape_tape.c x1g))], .agg (T_api_Value.c x1v)⟩)], rz] [false] (rA [(6, .id 103)]) 6 ⟨[(100000, 100000)], .one (.ifa 104 21 (fun i => (T_api_Op.c x2o).getD i .junk))⟩ (.c (g_tape_tape_Load_own b100000 b7 false (.ret x1v x1g) q1) (.c meth_Load (.c h2 (.c (g_tape_tape_Swap_own x1g b7 x1v.fN (add64 x1v.fN (1 : Int)) a2 (.pan x2o) q3) (.c meth_Swap .n))))) (by kernel_rfl)
        | bad x2s =>
          dsimp only at hf
          replace hf := Option.some.inj hf
          subst hf
          exact toPan_good allOk 10 _ _ [rH [(2, .id 98)] [(2, ⟨[(100000, 100000)], [], [(100000, .box (T_tape_tape.c x1g))], .agg (T_api_Value.c x1v)⟩)], rz] [false] (rA [(6, .id 103)]) 6 ⟨[(100000, 100000)], .one (.ifc 9 (.lit (.string x2s)))⟩ (.c (g_tape_tape_Load_own b100000 b7 false (.ret x1v x1g) q1) (.c meth_Load (.c h2 (.c (g_tape_tape_Swap_own x1g b7 x1v.fN (add64 x1v.fN (1 : Int)) a2 (.bad x2s) q3) (.c meth_Swap .n))))) (by kernel_rfl)
    | pan x1o =>
      dsimp only at hf
      replace hf := Option.some.inj hf
      subst hf
      exact toPan_good allOk 3 _ _ [] [] (rA [(2, .id 98)]) 2 ⟨[(100000, 100000)], .one (.ifa 104 21 (fun i => (T_api_Op.c x1o).getD i .junk))⟩ (.c (g_tape_tape_Load_own b100000 b7 false (.pan x1o) q1) (.c meth_Load .n)) (by kernel_rfl)
    | bad x1s =>
      dsimp only at hf
      replace hf := Option.some.inj hf
      subst hf
      exact toPan_good allOk 3 _ _ [] [] (rA [(2, .id 98)]) 2 ⟨[(100000, 100000)], .one (.ifc 9 (.lit (.string x1s)))⟩ (.c (g_tape_tape_Load_own b100000 b7 false (.bad x1s) q1) (.c meth_Load .n)) (by kernel_rfl)

/-- doorman/tape.Reserve -/
def g_tape_Reserve (a0 : T_tape_tape) (a1 : Int) (a2 : Bool) : Option (Tout Bool) :=
  g_tape_Reserve_c0 a1 a2  1000000 a0 (T_api_Loc.mk (1 : Int) (0 : Int) (0 : Int))

theorem g_tape_Reserve_own (a0 : T_tape_tape) (a1 : Int) (a2 : Bool) (r : (Tout Bool)) (hf : g_tape_Reserve a0 a1 a2 = some r) : OCall Try.prog 58 [(100000, .box (T_tape_tape.c a0))] [.one (.ifc 105 (.ptr 100000 0)), .one (.lit (.int .i64 a1)), .one (.lit (.bool a2))] (oc (fun x => .one (.lit (.bool x))) r) := by
  refine OCall.of Try.func58 rfl rfl rfl rfl fun S0 w0 => ?_
  unfold g_tape_Reserve at hf
  exact toK_g allOk OPost.ends 5 [rz, rz] [] ⟨[], [], [], [], [], [0, 1, 2, 7], [100000, 7], []⟩ .n (by kernel_rfl) (g_tape_Reserve_c0_ok S0 w0 a1 a2   1000000 a0 (T_api_Loc.mk (1 : Int) (0 : Int) (0 : Int)) r hf)

def g_tape_Move_c0 (a2 : Int) (a3 : Bool)  : Nat → T_tape_tape → T_api_Loc → Option (Tout Unit)
  | 0, _, _ => none
  | fu + 1, b100000, b8 =>
    (g_tape_tape_Load b100000 b8 false).bind fun x1 =>
    (match x1 with
    | .ret x1v x1g =>
      (g_tape_tape_Swap x1g b8 x1v.fN (add64 x1v.fN a2) a3).bind fun x2 =>
      (match x2 with
      | .ret x2v x2g =>
        bif x2v then
          some (Tout.ret () x2g)
        else
          g_tape_Move_c0 a2 a3  fu x2g b8
      | .pan x2o =>
        some (Tout.pan x2o)
      | .bad x2s =>
        some (Tout.bad x2s))
    | .pan x1o =>
      some (Tout.pan x1o)
    | .bad x1s =>
      some (Tout.bad x1s))

theorem g_tape_Move_c0_ok (S0 : Nat → Prop) (w0 : Start) (a2 : Int) (a3 : Bool)  : ∀ (fu : Nat) (b100000 : T_tape_tape) (b8 : T_api_Loc) (r : (Tout Unit)), g_tape_Move_c0 a2 a3  fu b100000 b8 = some r → Good Try.prog 24 S0 w0 (bodyPost Try.prog Try.f59 (OPost S0 w0 (oc (fun x => .tup []) r))) (at_ [1, 0] (bodyOf Try.f59)) ⟨[(0, .one (.ifc 105 (.ptr 100000 0))), (2, .one (.lit (.int .i64 a2))), (3, .one (.lit (.bool a3))), (8, .one (.ptr 8 0))], [(100000, .box [cL 13 T_api_Value.c T_api_Value.d b100000.fgot]), (8, .box [.lit (.int .i64 b8.fKind), .lit (.int .i64 b8.fShard), .lit (.int .i64 b8.fSlot)])]⟩ := by
  intro fu
  induction fu with
  | zero =>
    intro b100000 b8 r hf
    simp [g_tape_Move_c0] at hf
  | succ fu ih =>
    intro b100000 b8 r hf
    unfold g_tape_Move_c0 at hf
    obtain ⟨x1, q1, hf⟩ := bind_some' hf
    cases x1 with
    | ret x1v x1g =>
      dsimp only at hf
      obtain ⟨x2, q2, hf⟩ := bind_some' hf
      cases x2 with
      | ret x2v x2g =>
        dsimp only at hf
        rcases br_some hf with ⟨h3, hf⟩ | ⟨h3, hf⟩
        · replace hf := Option.some.inj hf
          subst hf
          exact toEndO_g allOk 7 [rH [(2, .id 98)] [(2, ⟨[(100000, 100000)], [], [(100000, .box (T_tape_tape.c x1g))], .agg (T_api_Value.c x1v)⟩)], rH [(7, .id 103)] [(7, ⟨[(100000, 100000)], [], [(100000, .box (T_tape_tape.c x2g))], .one (.lit (.bool x2v))⟩)]] [true] ⟨[], [], [], [], [], [], [100000], []⟩ [100000] (.c (g_tape_tape_Load_own b100000 b8 false (.ret x1v x1g) q1) (.c meth_Load (.c (g_tape_tape_Swap_own x1g b8 x1v.fN (add64 x1v.fN a2) a3 (.ret x2v x2g) q2) (.c meth_Swap (.c h3 .n))))) (by kernel_rfl)
        · exact toK_g allOk OPost.ends 10 [rH [(2, .id 98)] [(2, ⟨[(100000, 100000)], [], [(100000, .box (T_tape_tape.c x1g))], .agg (T_api_Value.c x1v)⟩)], rH [(7, .id 103)] [(7, ⟨[(100000, 100000)], [], [(100000, .box (T_tape_tape.c x2g))], .one (.lit (.bool x2v))⟩)]] [false] ⟨[], [], [], [], [], [0, 2, 3, 8], [100000, 8], []⟩ (.c (g_tape_tape_Load_own b100000 b8 false (.ret x1v x1g) q1) (.c meth_Load (.c (g_tape_tape_Swap_own x1g b8 x1v.fN (add64 x1v.fN a2) a3 (.ret x2v x2g) q2) (.c meth_Swap (.c h3 .n))))) (by kernel_rfl) (ih x2g b8 r hf)
      | pan x2o =>
        dsimp only at hf
        replace hf := Option.some.inj hf
        subst hf
        exact toPan_good allOk 5 _ _ [rH [(2, .id 98)] [(2, ⟨[(100000, 100000)], [], [(100000, .box (T_tape_tape.c x1g))], .agg (T_api_Value.c x1v)⟩)]] [] (rA [(7, .id 103)]) 7 ⟨[(100000, 100000)], .one (.ifa 104 21 (fun i => (T_api_Op.c x2o).getD i .junk))⟩ (.c (g_tape_tape_Load_own b100000 b8 false (.ret x1v x1g) q1) (.c meth_Load (.c (g_tape_tape_Swap_own x1g b8 x1v.fN (add64 x1v.fN a2) a3 (.pan x2o) q2) (.c meth_Swap .n)))) (by kernel_rfl)
      | bad x2s =>
        dsimp only at hf
        replace hf := Option.some.inj hf
        subst hf
        exact toPan_good allOk 5 _ _ [rH [(2, .id 98)] [(2, ⟨[(100000, 100000)], [], [(100000, .box (T_tape_tape.c x1g))], .agg (T_api_Value.c x1v)⟩)]] [] (rA [(7, .id 103)]) 7 ⟨[(100000, 100000)], .one (.ifc 9 (.lit (.string x2s)))⟩ (.c (g_tape_tape_Load_own b100000 b8 false (.ret x1v x1g) q1) (.c meth_Load (.c (g_tape_tape_Swap_own x1g b8 x1v.fN (add64 x1v.fN a2) a3 (.bad x2s) q2) (.c meth_Swap .n)))) (by kernel_rfl)
    | pan x1o =>
      dsimp only at hf
      replace hf := Option.some.inj hf
      subst hf
      exact toPan_good allOk 3 _ _ [] [] (rA [(2, .id 98)]) 2 ⟨[(100000, 100000)], .one (.ifa 104 21 (fun i => (T_api_Op.c x1o).getD i .junk))⟩ (.c (g_tape_tape_Load_own b100000 b8 false (.pan x1o) q1) (.c meth_Load .n)) (by kernel_rfl)
    | bad x1s =>
      dsimp only at hf
      replace hf := Option.some.inj hf
      subst hf
      exact toPan_good allOk 3 _ _ [] [] (rA [(2, .id 98)]) 2 ⟨[(100000, 100000)], .one (.ifc 9 (.lit (.string x1s)))⟩ (.c (g_tape_tape_Load_own b100000 b8 false (.bad x1s) q1) (.c meth_Load .n)) (by kernel_rfl)

/-- doorman/tape.Move -/
def g_tape_Move (a0 : T_tape_tape) (a1 : Int) (a2 : Int) (a3 : Bool) : Option (Tout Unit) :=
  g_tape_Move_c0 a2 a3  1000000 a0 (T_api_Loc.mk a1 (0 : Int) (0 : Int))

theorem g_tape_Move_own (a0 : T_tape_tape) (a1 : Int) (a2 : Int) (a3 : Bool) (r : (Tout Unit)) (hf : g_tape_Move a0 a1 a2 a3 = some r) : OCall Try.prog 59 [(100000, .box (T_tape_tape.c a0))] [.one (.ifc 105 (.ptr 100000 0)), .one (.lit (.int .i64 a1)), .one (.lit (.int .i64 a2)), .one (.lit (.bool a3))] (oc (fun x => .tup []) r) := by
  refine OCall.of Try.func59 rfl rfl rfl rfl fun S0 w0 => ?_
  unfold g_tape_Move at hf
  exact toK_g allOk OPost.ends 3 [rz] [] ⟨[], [], [], [], [], [0, 2, 3, 8], [100000, 8], []⟩ .n (by kernel_rfl) (g_tape_Move_c0_ok S0 w0 a2 a3   1000000 a0 (T_api_Loc.mk a1 (0 : Int) (0 : Int)) r hf)

def g_tape_FreeAll_c0 (a1 : Int) (a2 : Bool)  : Nat → Int → T_tape_tape → Option (Tout Unit)
  | 0, _, _ => none
  | fu + 1, v6, b100000 =>
    bif (decide (v6 ≥ (0 : Int))) then
      bif a2 then
        (g_tape_count a1).bind fun x2 =>
        (g_tape_tape_Free b100000 (add64 (2 : Int) v6) (v6 == (sub64 x2 (1 : Int)))).bind fun x3 =>
        (match x3 with
        | .ret x3v x3g =>
          g_tape_FreeAll_c0 a1 a2  fu (sub64 v6 (1 : Int)) x3g
        | .pan x3o =>
          some (Tout.pan x3o)
        | .bad x3s =>
          some (Tout.bad x3s))
      else
        (g_tape_tape_Free b100000 (add64 (2 : Int) v6) false).bind fun x4 =>
        (match x4 with
        | .ret x4v x4g =>
          g_tape_FreeAll_c0 a1 a2  fu (sub64 v6 (1 : Int)) x4g
        | .pan x4o =>
          some (Tout.pan x4o)
        | .bad x4s =>
          some (Tout.bad x4s))
    else
      some (Tout.ret () b100000)

theorem g_tape_FreeAll_c0_ok (S0 : Nat → Prop) (w0 : Start) (a1 : Int) (a2 : Bool)  : ∀ (fu : Nat) (v6 : Int) (b100000 : T_tape_tape) (r : (Tout Unit)), g_tape_FreeAll_c0 a1 a2  fu v6 b100000 = some r → Good Try.prog 29 S0 w0 (bodyPost Try.prog Try.f60 (OPost S0 w0 (oc (fun x => .tup []) r))) (at_ [1, 0] (bodyOf Try.f60)) ⟨[(0, .one (.ifc 105 (.ptr 100000 0))), (1, .one (.lit (.int .i64 a1))), (2, .one (.lit (.bool a2))), (6, .one (.lit (.int .i64 v6)))], [(100000, .box [cL 13 T_api_Value.c T_api_Value.d b100000.fgot])]⟩ := by
  intro fu
  induction fu with
  | zero =>
    intro v6 b100000 r hf
    simp [g_tape_FreeAll_c0] at hf
  | succ fu ih =>
    intro v6 b100000 r hf
    unfold g_tape_FreeAll_c0 at hf
    rcases br_some hf with ⟨h2, hf⟩ | ⟨h2, hf⟩
    · rcases br_some hf with ⟨h3, hf⟩ | ⟨h3, hf⟩
      · obtain ⟨x2, q4, hf⟩ := bind_some' hf
        obtain ⟨x3, q5, hf⟩ := bind_some' hf
        cases x3 with
        | ret x3v x3g =>
          dsimp only at hf
          exact toK_g allOk OPost.ends 12 [rz, ⟨[(7, aI x2), (14, .id 97)], [(4, true)], [], [], [], [], [(14, ⟨[(100000, 100000)], [], [(100000, .box (T_tape_tape.c x3g))], .tup []⟩)]⟩, rz] [true] ⟨[], [], [], [], [], [0, 1, 2, 6], [100000], []⟩ (.c h2 (.c h3 (.c (g_tape_count_ok a1 x2 q4) (.c nilok_Free (.c (g_tape_tape_Free_own b100000 (add64 (2 : Int) v6) (v6 == (sub64 x2 (1 : Int))) (.ret x3v x3g) q5) (.c meth_Free .n)))))) (by kernel_rfl) (ih (sub64 v6 (1 : Int)) x3g r hf)
        | pan x3o =>
          dsimp only at hf
          replace hf := Option.some.inj hf
          subst hf
          exact toPan_good allOk 8 _ _ [rz] [true] (⟨[(7, aI x2), (14, .id 97)], [(4, true)], [], [], [], [], []⟩) 14 ⟨[(100000, 100000)], .one (.ifa 104 21 (fun i => (T_api_Op.c x3o).getD i .junk))⟩ (.c h2 (.c h3 (.c (g_tape_count_ok a1 x2 q4) (.c nilok_Free (.c (g_tape_tape_Free_own b100000 (add64 (2 : Int) v6) (v6 == (sub64 x2 (1 : Int))) (.pan x3o) q5) (.c meth_Free .n)))))) (by kernel_rfl)
        | bad x3s =>
          dsimp only at hf
          replace hf := Option.some.inj hf
          subst hf
          exact toPan_good allOk 8 _ _ [rz] [true] (⟨[(7, aI x2), (14, .id 97)], [(4, true)], [], [], [], [], []⟩) 14 ⟨[(100000, 100000)], .one (.ifc 9 (.lit (.string x3s)))⟩ (.c h2 (.c h3 (.c (g_tape_count_ok a1 x2 q4) (.c nilok_Free (.c (g_tape_tape_Free_own b100000 (add64 (2 : Int) v6) (v6 == (sub64 x2 (1 : Int))) (.bad x3s) q5) (.c meth_Free .n)))))) (by kernel_rfl)
      · obtain ⟨x4, q6, hf⟩ := bind_some' hf
        cases x4 with
        | ret x4v x4g =>
          dsimp only at hf
          exact toK_g allOk OPost.ends 12 [rz, ⟨[(14, .id 97)], [(4, false)], [], [], [], [], [(14, ⟨[(100000, 100000)], [], [(100000, .box (T_tape_tape.c x4g))], .tup []⟩)]⟩, rz] [true] ⟨[], [], [], [], [], [0, 1, 2, 6], [100000], []⟩ (.c h2 (.c h3 (.c nilok_Free (.c (g_tape_tape_Free_own b100000 (add64 (2 : Int) v6) false (.ret x4v x4g) q6) (.c meth_Free .n))))) (by kernel_rfl) (ih (sub64 v6 (1 : Int)) x4g r hf)
        | pan x4o =>
          dsimp only at hf
          replace hf := Option.some.inj hf
          subst hf
          exact toPan_good allOk 8 _ _ [rz] [true] (⟨[(14, .id 97)], [(4, false)], [], [], [], [], []⟩) 14 ⟨[(100000, 100000)], .one (.ifa 104 21 (fun i => (T_api_Op.c x4o).getD i .junk))⟩ (.c h2 (.c h3 (.c nilok_Free (.c (g_tape_tape_Free_own b100000 (add64 (2 : Int) v6) false (.pan x4o) q6) (.c meth_Free .n))))) (by kernel_rfl)
        | bad x4s =>
          dsimp only at hf
          replace hf := Option.some.inj hf
          subst hf
          exact toPan_good allOk 8 _ _ [rz] [true] (⟨[(14, .id 97)], [(4, false)], [], [], [], [], []⟩) 14 ⟨[(100000, 100000)], .one (.ifc 9 (.lit (.string x4s)))⟩ (.c h2 (.c h3 (.c nilok_Free (.c (g_tape_tape_Free_own b100000 (add64 (2 : Int) v6) false (.bad x4s) q6) (.c meth_Free .n))))) (by kernel_rfl)
    · replace hf := Option.some.inj hf
      subst hf
      exact toEndO_g allOk 6 [rz] [false] ⟨[], [], [], [], [], [], [100000], []⟩ [100000] (.c h2 .n) (by kernel_rfl)

/-- doorman/tape.FreeAll -/
def g_tape_FreeAll (a0 : T_tape_tape) (a1 : Int) (a2 : Bool) : Option (Tout Unit) :=
  (g_tape_count a1).bind fun x1 =>
  g_tape_FreeAll_c0 a1 a2  (((sub64 x1 (1 : Int)) - (0 : Int)).toNat + 2) (sub64 x1 (1 : Int)) a0

theorem g_tape_FreeAll_own (a0 : T_tape_tape) (a1 : Int) (a2 : Bool) (r : (Tout Unit)) (hf : g_tape_FreeAll a0 a1 a2 = some r) : OCall Try.prog 60 [(100000, .box (T_tape_tape.c a0))] [.one (.ifc 105 (.ptr 100000 0)), .one (.lit (.int .i64 a1)), .one (.lit (.bool a2))] (oc (fun x => .tup []) r) := by
  refine OCall.of Try.func60 rfl rfl rfl rfl fun S0 w0 => ?_
  unfold g_tape_FreeAll at hf
  obtain ⟨x1, q1, hf⟩ := bind_some' hf
  exact toK_g allOk OPost.ends 3 [rA [(1, aI x1)]] [] ⟨[], [], [], [], [], [0, 1, 2, 6], [100000], []⟩ (.c (g_tape_count_ok a1 x1 q1) .n) (by kernel_rfl) (g_tape_FreeAll_c0_ok S0 w0 a1 a2   (((sub64 x1 (1 : Int)) - (0 : Int)).toNat + 2) (sub64 x1 (1 : Int)) a0 r hf)

/-- doorman/doormanlaw38.counts -/
def g_doormanlaw38_counts (a0 : T_tape_tape) : Option (Tout T_api_Reply) :=
  (g_tape_LockAll a0 (3 : Int)).bind fun x1 =>
  (match x1 with
  | .ret x1v x1g =>
    (g_tape_Reserve x1g (2 : Int) true).bind fun x2 =>
    (match x2 with
    | .ret x2v x2g =>
      bif x2v then
        (g_tape_Move x2g (2 : Int) (-1 : Int) false).bind fun x3 =>
        (match x3 with
        | .ret x3v x3g =>
          (g_tape_FreeAll x3g (3 : Int) true).bind fun x4 =>
          (match x4 with
          | .ret x4v x4g =>
            some (Tout.ret (T_api_Reply.mk (0 : Int) (T_api_End.mk (T_api_Addr.mk false (0 : Int) (0 : Int)) (0 : Int)) (1 : Int) (0 : Int) ([] : (List T_api_Peer))) x4g)
          | .pan x4o =>
            some (Tout.pan x4o)
          | .bad x4s =>
            some (Tout.bad x4s))
        | .pan x3o =>
          some (Tout.pan x3o)
        | .bad x3s =>
          some (Tout.bad x3s))
      else
        (g_tape_Move x2g (2 : Int) (-1 : Int) false).bind fun x5 =>
        (match x5 with
        | .ret x5v x5g =>
          (g_tape_FreeAll x5g (3 : Int) true).bind fun x6 =>
          (match x6 with
          | .ret x6v x6g =>
            some (Tout.ret (T_api_Reply.mk (0 : Int) (T_api_End.mk (T_api_Addr.mk false (0 : Int) (0 : Int)) (0 : Int)) (0 : Int) (0 : Int) ([] : (List T_api_Peer))) x6g)
          | .pan x6o =>
            some (Tout.pan x6o)
          | .bad x6s =>
            some (Tout.bad x6s))
        | .pan x5o =>
          some (Tout.pan x5o)
        | .bad x5s =>
          some (Tout.bad x5s))
    | .pan x2o =>
      some (Tout.pan x2o)
    | .bad x2s =>
      some (Tout.bad x2s))
  | .pan x1o =>
    some (Tout.pan x1o)
  | .bad x1s =>
    some (Tout.bad x1s))

theorem g_doormanlaw38_counts_own (a0 : T_tape_tape) (r : (Tout T_api_Reply)) (hf : g_doormanlaw38_counts a0 = some r) : OCall Try.prog 29 [(100000, .box (T_tape_tape.c a0))] [.one (.ifc 105 (.ptr 100000 0))] (oc (fun x => .agg (T_api_Reply.c x)) r) := by
  refine OCall.of Try.func29 rfl rfl rfl rfl fun S0 w0 => ?_
  unfold g_doormanlaw38_counts at hf
  obtain ⟨x1, q1, hf⟩ := bind_some' hf
  cases x1 with
  | ret x1v x1g =>
    dsimp only at hf
    obtain ⟨x2, q2, hf⟩ := bind_some' hf
    cases x2 with
    | ret x2v x2g =>
      dsimp only at hf
      rcases br_some hf with ⟨h3, hf⟩ | ⟨h3, hf⟩
      · obtain ⟨x3, q4, hf⟩ := bind_some' hf
        cases x3 with
        | ret x3v x3g =>
          dsimp only at hf
          obtain ⟨x4, q5, hf⟩ := bind_some' hf
          cases x4 with
          | ret x4v x4g =>
            dsimp only at hf
            replace hf := Option.some.inj hf
            subst hf
            exact toEndO_g allOk 17 [rz, rH [] [(1, ⟨[(100000, 100000)], [], [(100000, .box (T_tape_tape.c x1g))], .tup []⟩)], rz, rH [] [(1, ⟨[(100000, 100000)], [], [(100000, .box (T_tape_tape.c x2g))], .one (.lit (.bool x2v))⟩)], rz, rH [] [(1, ⟨[(100000, 100000)], [], [(100000, .box (T_tape_tape.c x3g))], .tup []⟩)], rH [] [(1, ⟨[(100000, 100000)], [], [(100000, .box (T_tape_tape.c x4g))], .tup []⟩)], rz] [true] ⟨[], [(2, [(7, cL 10 T_api_Peer.c T_api_Peer.d [])])], [], [], [], [2], [2, 100000], []⟩ [100000] (.c (g_tape_LockAll_own a0 (3 : Int) (.ret x1v x1g) q1) (.c (g_tape_Reserve_own x1g (2 : Int) true (.ret x2v x2g) q2) (.c h3 (.c (g_tape_Move_own x2g (2 : Int) (-1 : Int) false (.ret x3v x3g) q4) (.c (g_tape_FreeAll_own x3g (3 : Int) true (.ret x4v x4g) q5) .n))))) (by kernel_rfl)
          | pan x4o =>
            dsimp only at hf
            replace hf := Option.some.inj hf
            subst hf
            exact toPan_good allOk 14 _ _ [rz, rH [] [(1, ⟨[(100000, 100000)], [], [(100000, .box (T_tape_tape.c x1g))], .tup []⟩)], rz, rH [] [(1, ⟨[(100000, 100000)], [], [(100000, .box (T_tape_tape.c x2g))], .one (.lit (.bool x2v))⟩)], rz, rH [] [(1, ⟨[(100000, 100000)], [], [(100000, .box (T_tape_tape.c x3g))], .tup []⟩)]] [true] (rz) 1 ⟨[(100000, 100000)], .one (.ifa 104 21 (fun i => (T_api_Op.c x4o).getD i .junk))⟩ (.c (g_tape_LockAll_own a0 (3 : Int) (.ret x1v x1g) q1) (.c (g_tape_Reserve_own x1g (2 : Int) true (.ret x2v x2g) q2) (.c h3 (.c (g_tape_Move_own x2g (2 : Int) (-1 : Int) false (.ret x3v x3g) q4) (.c (g_tape_FreeAll_own x3g (3 : Int) true (.pan x4o) q5) .n))))) (by kernel_rfl)
          | bad x4s =>
            dsimp only at hf
            replace hf := Option.some.inj hf
            subst hf
            exact toPan_good allOk 14 _ _ [rz, rH [] [(1, ⟨[(100000, 100000)], [], [(100000, .box (T_tape_tape.c x1g))], .tup []⟩)], rz, rH [] [(1, ⟨[(100000, 100000)], [], [(100000, .box (T_tape_tape.c x2g))], .one (.lit (.bool x2v))⟩)], rz, rH [] [(1, ⟨[(100000, 100000)], [], [(100000, .box (T_tape_tape.c x3g))], .tup []⟩)]] [true] (rz) 1 ⟨[(100000, 100000)], .one (.ifc 9 (.lit (.string x4s)))⟩ (.c (g_tape_LockAll_own a0 (3 : Int) (.ret x1v x1g) q1) (.c (g_tape_Reserve_own x1g (2 : Int) true (.ret x2v x2g) q2) (.c h3 (.c (g_tape_Move_own x2g (2 : Int) (-1 : Int) false (.ret x3v x3g) q4) (.c (g_tape_FreeAll_own x3g (3 : Int) true (.bad x4s) q5) .n))))) (by kernel_rfl)
        | pan x3o =>
          dsimp only at hf
          replace hf := Option.some.inj hf
          subst hf
          exact toPan_good allOk 12 _ _ [rz, rH [] [(1, ⟨[(100000, 100000)], [], [(100000, .box (T_tape_tape.c x1g))], .tup []⟩)], rz, rH [] [(1, ⟨[(100000, 100000)], [], [(100000, .box (T_tape_tape.c x2g))], .one (.lit (.bool x2v))⟩)], rz] [true] (rz) 1 ⟨[(100000, 100000)], .one (.ifa 104 21 (fun i => (T_api_Op.c x3o).getD i .junk))⟩ (.c (g_tape_LockAll_own a0 (3 : Int) (.ret x1v x1g) q1) (.c (g_tape_Reserve_own x1g (2 : Int) true (.ret x2v x2g) q2) (.c h3 (.c (g_tape_Move_own x2g (2 : Int) (-1 : Int) false (.pan x3o) q4) .n)))) (by kernel_rfl)
        | bad x3s =>
          dsimp only at hf
          replace hf := Option.some.inj hf
          subst hf
          exact toPan_good allOk 12 _ _ [rz, rH [] [(1, ⟨[(100000, 100000)], [], [(100000, .box (T_tape_tape.c x1g))], .tup []⟩)], rz, rH [] [(1, ⟨[(100000, 100000)], [], [(100000, .box (T_tape_tape.c x2g))], .one (.lit (.bool x2v))⟩)], rz] [true] (rz) 1 ⟨[(100000, 100000)], .one (.ifc 9 (.lit (.string x3s)))⟩ (.c (g_tape_LockAll_own a0 (3 : Int) (.ret x1v x1g) q1) (.c (g_tape_Reserve_own x1g (2 : Int) true (.ret x2v x2g) q2) (.c h3 (.c (g_tape_Move_own x2g (2 : Int) (-1 : Int) false (.bad x3s) q4) .n)))) (by kernel_rfl)
      · obtain ⟨x5, q6, hf⟩ := bind_some' hf
        cases x5 with
        | ret x5v x5g =>
          dsimp only at hf
          obtain ⟨x6, q7, hf⟩ := bind_some' hf
          cases x6 with
          | ret x6v x6g =>
            dsimp only at hf
            replace hf := Option.some.inj hf
            subst hf
            exact toEndO_g allOk 17 [rz, rH [] [(1, ⟨[(100000, 100000)], [], [(100000, .box (T_tape_tape.c x1g))], .tup []⟩)], rz, rH [] [(1, ⟨[(100000, 100000)], [], [(100000, .box (T_tape_tape.c x2g))], .one (.lit (.bool x2v))⟩)], rH [] [(1, ⟨[(100000, 100000)], [], [(100000, .box (T_tape_tape.c x5g))], .tup []⟩)], rH [] [(1, ⟨[(100000, 100000)], [], [(100000, .box (T_tape_tape.c x6g))], .tup []⟩)], rz] [false] ⟨[], [(2, [(7, cL 10 T_api_Peer.c T_api_Peer.d [])])], [], [], [], [2], [2, 100000], []⟩ [100000] (.c (g_tape_LockAll_own a0 (3 : Int) (.ret x1v x1g) q1) (.c (g_tape_Reserve_own x1g (2 : Int) true (.ret x2v x2g) q2) (.c h3 (.c (g_tape_Move_own x2g (2 : Int) (-1 : Int) false (.ret x5v x5g) q6) (.c (g_tape_FreeAll_own x5g (3 : Int) true (.ret x6v x6g) q7) .n))))) (by kernel_rfl)
          | pan x6o =>
            dsimp only at hf
            replace hf := Option.some.inj hf
            subst hf
            exact toPan_good allOk 14 _ _ [rz, rH [] [(1, ⟨[(100000, 100000)], [], [(100000, .box (T_tape_tape.c x1g))], .tup []⟩)], rz, rH [] [(1, ⟨[(100000, 100000)], [], [(100000, .box (T_tape_tape.c x2g))], .one (.lit (.bool x2v))⟩)], rH [] [(1, ⟨[(100000, 100000)], [], [(100000, .box (T_tape_tape.c x5g))], .tup []⟩)]] [false] (rz) 1 ⟨[(100000, 100000)], .one (.ifa 104 21 (fun i => (T_api_Op.c x6o).getD i .junk))⟩ (.c (g_tape_LockAll_own a0 (3 : Int) (.ret x1v x1g) q1) (.c (g_tape_Reserve_own x1g (2 : Int) true (.ret x2v x2g) q2) (.c h3 (.c (g_tape_Move_own x2g (2 : Int) (-1 : Int) false (.ret x5v x5g) q6) (.c (g_tape_FreeAll_own x5g (3 : Int) true (.pan x6o) q7) .n))))) (by kernel_rfl)
          | bad x6s =>
            dsimp only at hf
            replace hf := Option.some.inj hf
            subst hf
            exact toPan_good allOk 14 _ _ [rz, rH [] [(1, ⟨[(100000, 100000)], [], [(100000, .box (T_tape_tape.c x1g))], .tup []⟩)], rz, rH [] [(1, ⟨[(100000, 100000)], [], [(100000, .box (T_tape_tape.c x2g))], .one (.lit (.bool x2v))⟩)], rH [] [(1, ⟨[(100000, 100000)], [], [(100000, .box (T_tape_tape.c x5g))], .tup []⟩)]] [false] (rz) 1 ⟨[(100000, 100000)], .one (.ifc 9 (.lit (.string x6s)))⟩ (.c (g_tape_LockAll_own a0 (3 : Int) (.ret x1v x1g) q1) (.c (g_tape_Reserve_own x1g (2 : Int) true (.ret x2v x2g) q2) (.c h3 (.c (g_tape_Move_own x2g (2 : Int) (-1 : Int) false (.ret x5v x5g) q6) (.c (g_tape_FreeAll_own x5g (3 : Int) true (.bad x6s) q7) .n))))) (by kernel_rfl)
        | pan x5o =>
          dsimp only at hf
          replace hf := Option.some.inj hf
          subst hf
          exact toPan_good allOk 12 _ _ [rz, rH [] [(1, ⟨[(100000, 100000)], [], [(100000, .box (T_tape_tape.c x1g))], .tup []⟩)], rz, rH [] [(1, ⟨[(100000, 100000)], [], [(100000, .box (T_tape_tape.c x2g))], .one (.lit (.bool x2v))⟩)]] [false] (rz) 1 ⟨[(100000, 100000)], .one (.ifa 104 21 (fun i => (T_api_Op.c x5o).getD i .junk))⟩ (.c (g_tape_LockAll_own a0 (3 : Int) (.ret x1v x1g) q1) (.c (g_tape_Reserve_own x1g (2 : Int) true (.ret x2v x2g) q2) (.c h3 (.c (g_tape_Move_own x2g (2 : Int) (-1 : Int) false (.pan x5o) q6) .n)))) (by kernel_rfl)
        | bad x5s =>
          dsimp only at hf
          replace hf := Option.some.inj hf
          subst hf
          exact toPan_good allOk 12 _ _ [rz, rH [] [(1, ⟨[(100000, 100000)], [], [(100000, .box (T_tape_tape.c x1g))], .tup []⟩)], rz, rH [] [(1, ⟨[(100000, 100000)], [], [(100000, .box (T_tape_tape.c x2g))], .one (.lit (.bool x2v))⟩)]] [false] (rz) 1 ⟨[(100000, 100000)], .one (.ifc 9 (.lit (.string x5s)))⟩ (.c (g_tape_LockAll_own a0 (3 : Int) (.ret x1v x1g) q1) (.c (g_tape_Reserve_own x1g (2 : Int) true (.ret x2v x2g) q2) (.c h3 (.c (g_tape_Move_own x2g (2 : Int) (-1 : Int) false (.bad x5s) q6) .n)))) (by kernel_rfl)
    | pan x2o =>
      dsimp only at hf
      replace hf := Option.some.inj hf
      subst hf
      exact toPan_good allOk 8 _ _ [rz, rH [] [(1, ⟨[(100000, 100000)], [], [(100000, .box (T_tape_tape.c x1g))], .tup []⟩)], rz] [] (rz) 1 ⟨[(100000, 100000)], .one (.ifa 104 21 (fun i => (T_api_Op.c x2o).getD i .junk))⟩ (.c (g_tape_LockAll_own a0 (3 : Int) (.ret x1v x1g) q1) (.c (g_tape_Reserve_own x1g (2 : Int) true (.pan x2o) q2) .n)) (by kernel_rfl)
    | bad x2s =>
      dsimp only at hf
      replace hf := Option.some.inj hf
      subst hf
      exact toPan_good allOk 8 _ _ [rz, rH [] [(1, ⟨[(100000, 100000)], [], [(100000, .box (T_tape_tape.c x1g))], .tup []⟩)], rz] [] (rz) 1 ⟨[(100000, 100000)], .one (.ifc 9 (.lit (.string x2s)))⟩ (.c (g_tape_LockAll_own a0 (3 : Int) (.ret x1v x1g) q1) (.c (g_tape_Reserve_own x1g (2 : Int) true (.bad x2s) q2) .n)) (by kernel_rfl)
  | pan x1o =>
    dsimp only at hf
    replace hf := Option.some.inj hf
    subst hf
    exact toPan_good allOk 3 _ _ [rz] [] (rz) 1 ⟨[(100000, 100000)], .one (.ifa 104 21 (fun i => (T_api_Op.c x1o).getD i .junk))⟩ (.c (g_tape_LockAll_own a0 (3 : Int) (.pan x1o) q1) .n) (by kernel_rfl)
  | bad x1s =>
    dsimp only at hf
    replace hf := Option.some.inj hf
    subst hf
    exact toPan_good allOk 3 _ _ [rz] [] (rz) 1 ⟨[(100000, 100000)], .one (.ifc 9 (.lit (.string x1s)))⟩ (.c (g_tape_LockAll_own a0 (3 : Int) (.bad x1s) q1) .n) (by kernel_rfl)

/-- doorman/doormanref31.Parts -/
def g_doormanref31_Parts (a0 : Int) : Option Int :=
  bif (decide (a0 < (1 : Int))) then
    some (1 : Int)
  else
    bif (decide (a0 > (8 : Int))) then
      some (8 : Int)
    else
      some a0

theorem g_doormanref31_Parts_ok (a0 : Int) (r : Int) (hf : g_doormanref31_Parts a0 = some r) : SCall Try.prog 62 [.one (.lit (.int .i64 a0))] (.one (.lit (.int .i64 r))) := by
  refine SCall.of Try.func62 rfl rfl rfl rfl fun S0 w0 => ?_
  unfold g_doormanref31_Parts at hf
  rcases br_some hf with ⟨h1, hf⟩ | ⟨h1, hf⟩
  · replace hf := Option.some.inj hf
    subst hf
    exact toEnd_g allOk 8 [rz, rz, rz] [true] [] [] [] (.c h1 .n) (by kernel_rfl) rfl
  · rcases br_some hf with ⟨h2, hf⟩ | ⟨h2, hf⟩
    · replace hf := Option.some.inj hf
      subst hf
      exact toEnd_g allOk 13 [rz, rz, rz, rz] [false, true] [] [] [] (.c h1 (.c h2 .n)) (by kernel_rfl) rfl
    · replace hf := Option.some.inj hf
      subst hf
      exact toEnd_g allOk 14 [rz, rz, rz, rz] [false, false] [] [] [] (.c h1 (.c h2 .n)) (by kernel_rfl) rfl

/-- doorman/doormanref38.Key -/
def g_doormanref38_Key (a0 : T_doormanref38_Walk) (a1 : Int) (a2 : Int) (a3 : Bool) : Option T_doormanref38_Walk :=
  (g_doormanref38_Ask a0 (T_api_Op.mk a1 a2 (T_api_Loc.mk (0 : Int) (0 : Int) (0 : Int)) (0 : Int) (0 : Int) (T_api_Value.mk (0 : Int) (T_api_Peer.mk (T_api_End.mk (T_api_Addr.mk false (0 : Int) (0 : Int)) (0 : Int)) false (0 : Int) (T_api_Score.mk (0 : Int) (0 : Int)) (0 : Int) (0 : Int)) ([] : (List T_api_Ban)) ([] : (List T_api_Entry))) a3)).bind fun x1 =>
  some x1.1

theorem g_doormanref38_Key_ok (a0 : T_doormanref38_Walk) (a1 : Int) (a2 : Int) (a3 : Bool) (r : T_doormanref38_Walk) (hf : g_doormanref38_Key a0 a1 a2 a3 = some r) : SCall Try.prog 63 [.agg (T_doormanref38_Walk.c a0), .one (.lit (.int .i64 a1)), .one (.lit (.int .i64 a2)), .one (.lit (.bool a3))] (.agg (T_doormanref38_Walk.c r)) := by
  refine SCall.of Try.func63 rfl rfl rfl rfl fun S0 w0 => ?_
  unfold g_doormanref38_Key at hf
  obtain ⟨x1, q1, hf⟩ := bind_some' hf
  replace hf := Option.some.inj hf
  subst hf
  exact toEnd_g allOk 6 [rz, ⟨[(5, .r (.tup [(true, T_doormanref38_Walk.c x1.1), (true, T_api_Value.c x1.2)]) [])], [], [], [], [(4, [(18, cL 5 T_api_Ban.c T_api_Ban.d []), (19, cL 7 T_api_Entry.c T_api_Entry.d [])])], [], []⟩, rz] [] [] [] [] (.c (g_doormanref38_Ask_ok a0 (T_api_Op.mk a1 a2 (T_api_Loc.mk (0 : Int) (0 : Int) (0 : Int)) (0 : Int) (0 : Int) (T_api_Value.mk (0 : Int) (T_api_Peer.mk (T_api_End.mk (T_api_Addr.mk false (0 : Int) (0 : Int)) (0 : Int)) false (0 : Int) (T_api_Score.mk (0 : Int) (0 : Int)) (0 : Int) (0 : Int)) ([] : (List T_api_Ban)) ([] : (List T_api_Entry))) a3) x1 q1) .n) (by kernel_rfl) rfl

def g_doormanref38_LockAll_c0 (a1 : Int)  : Nat → Int → T_doormanref38_Walk → T_doormanref38_Walk → Option T_doormanref38_Walk
  | 0, _, _, _ => none
  | fu + 1, v5, b2, b4 =>
    (g_doormanref31_Parts a1).bind fun x1 =>
    bif (decide (v5 < x1)) then
      (g_doormanref38_Key b2 (1 : Int) (add64 (2 : Int) v5) false).bind fun x2 =>
      g_doormanref38_LockAll_c0 a1  fu (add64 v5 (1 : Int)) x2 b4
    else
      some b2

theorem g_doormanref38_LockAll_c0_ok (S0 : Nat → Prop) (w0 : Start) (a1 : Int)  : ∀ (fu : Nat) (v5 : Int) (b2 : T_doormanref38_Walk) (b4 : T_doormanref38_Walk) (r : T_doormanref38_Walk), g_doormanref38_LockAll_c0 a1  fu v5 b2 b4 = some r → Good Try.prog 17 S0 w0 (bodyPost Try.prog Try.f31 (Post S0 w0 (.agg (T_doormanref38_Walk.c r)))) (at_ [1, 0, 1, 0] (bodyOf Try.f31)) ⟨[(1, .one (.lit (.int .i64 a1))), (2, .one (.ptr 2 0)), (4, .one (.ptr 4 0)), (5, .one (.lit (.int .i64 v5)))], [(2, .box [cL 13 T_api_Value.c T_api_Value.d b2.fGot, .lit (.int .i64 b2.fAt), .lit (.int .i64 b2.fOp.fKind), .lit (.int .i64 b2.fOp.fLock), .lit (.int .i64 b2.fOp.fLoc.fKind), .lit (.int .i64 b2.fOp.fLoc.fShard), .lit (.int .i64 b2.fOp.fLoc.fSlot), .lit (.int .i64 b2.fOp.fOld), .lit (.int .i64 b2.fOp.fNew), .lit (.int .i64 b2.fOp.fVal.fN), .lit (.bool b2.fOp.fVal.fPeer.fEnd.fAddr.fV6), .lit (.int .u64 b2.fOp.fVal.fPeer.fEnd.fAddr.fHi), .lit (.int .u64 b2.fOp.fVal.fPeer.fEnd.fAddr.fLo), .lit (.int .i64 b2.fOp.fVal.fPeer.fEnd.fPort), .lit (.bool b2.fOp.fVal.fPeer.fIn), .lit (.int .i64 b2.fOp.fVal.fPeer.fSince), .lit (.int .i64 b2.fOp.fVal.fPeer.fScore.fPoints), .lit (.int .i64 b2.fOp.fVal.fPeer.fScore.fAt), .lit (.int .i64 b2.fOp.fVal.fPeer.fPing), .lit (.int .i64 b2.fOp.fVal.fPeer.fWork), cL 5 T_api_Ban.c T_api_Ban.d b2.fOp.fVal.fBans, cL 7 T_api_Entry.c T_api_Entry.d b2.fOp.fVal.fBook, .lit (.bool b2.fOp.fMark), .lit (.bool b2.fWait)]), (4, .box [cL 13 T_api_Value.c T_api_Value.d b4.fGot, .lit (.int .i64 b4.fAt), .lit (.int .i64 b4.fOp.fKind), .lit (.int .i64 b4.fOp.fLock), .lit (.int .i64 b4.fOp.fLoc.fKind), .lit (.int .i64 b4.fOp.fLoc.fShard), .lit (.int .i64 b4.fOp.fLoc.fSlot), .lit (.int .i64 b4.fOp.fOld), .lit (.int .i64 b4.fOp.fNew), .lit (.int .i64 b4.fOp.fVal.fN), .lit (.bool b4.fOp.fVal.fPeer.fEnd.fAddr.fV6), .lit (.int .u64 b4.fOp.fVal.fPeer.fEnd.fAddr.fHi), .lit (.int .u64 b4.fOp.fVal.fPeer.fEnd.fAddr.fLo), .lit (.int .i64 b4.fOp.fVal.fPeer.fEnd.fPort), .lit (.bool b4.fOp.fVal.fPeer.fIn), .lit (.int .i64 b4.fOp.fVal.fPeer.fSince), .lit (.int .i64 b4.fOp.fVal.fPeer.fScore.fPoints), .lit (.int .i64 b4.fOp.fVal.fPeer.fScore.fAt), .lit (.int .i64 b4.fOp.fVal.fPeer.fPing), .lit (.int .i64 b4.fOp.fVal.fPeer.fWork), cL 5 T_api_Ban.c T_api_Ban.d b4.fOp.fVal.fBans, cL 7 T_api_Entry.c T_api_Entry.d b4.fOp.fVal.fBook, .lit (.bool b4.fOp.fMark), .lit (.bool b4.fWait)])]⟩ := by
  intro fu
  induction fu with
  | zero =>
    intro v5 b2 b4 r hf
    simp [g_doormanref38_LockAll_c0] at hf
  | succ fu ih =>
    intro v5 b2 b4 r hf
    unfold g_doormanref38_LockAll_c0 at hf
    obtain ⟨x1, q1, hf⟩ := bind_some' hf
    rcases br_some hf with ⟨h2, hf⟩ | ⟨h2, hf⟩
    · obtain ⟨x2, q3, hf⟩ := bind_some' hf
      exact toK_g allOk Post.ends 12 [rA [(2, aI x1)], rA [(3, aG (T_doormanref38_Walk.c x2))], rz] [true] ⟨[], [], [], [], [], [1, 2, 4, 5], [2, 4], []⟩ (.c (g_doormanref31_Parts_ok a1 x1 q1) (.c h2 (.c (g_doormanref38_Key_ok b2 (1 : Int) (add64 (2 : Int) v5) false x2 q3) .n))) (by kernel_rfl) (ih (add64 v5 (1 : Int)) x2 b4 r hf)
    · replace hf := Option.some.inj hf
      subst hf
      exact toEnd_g allOk 8 [rA [(2, aI x1)], rz] [false] [] [] [] (.c (g_doormanref31_Parts_ok a1 x1 q1) (.c h2 .n)) (by kernel_rfl) rfl

/-- doorman/doormanref38.LockAll -/
def g_doormanref38_LockAll (a0 : T_doormanref38_Walk) (a1 : Int) : Option T_doormanref38_Walk :=
  g_doormanref38_LockAll_c0 a1  1000000 (0 : Int) a0 (T_doormanref38_Walk.mk ([] : (List T_api_Value)) (0 : Int) (T_api_Op.mk (0 : Int) (0 : Int) (T_api_Loc.mk (0 : Int) (0 : Int) (0 : Int)) (0 : Int) (0 : Int) (T_api_Value.mk (0 : Int) (T_api_Peer.mk (T_api_End.mk (T_api_Addr.mk false (0 : Int) (0 : Int)) (0 : Int)) false (0 : Int) (T_api_Score.mk (0 : Int) (0 : Int)) (0 : Int) (0 : Int)) ([] : (List T_api_Ban)) ([] : (List T_api_Entry))) false) false)

theorem g_doormanref38_LockAll_ok (a0 : T_doormanref38_Walk) (a1 : Int) (r : T_doormanref38_Walk) (hf : g_doormanref38_LockAll a0 a1 = some r) : SCall Try.prog 31 [.agg (T_doormanref38_Walk.c a0), .one (.lit (.int .i64 a1))] (.agg (T_doormanref38_Walk.c r)) := by
  refine SCall.of Try.func31 rfl rfl rfl rfl fun S0 w0 => ?_
  unfold g_doormanref38_LockAll at hf
  exact toK_g allOk Post.ends 6 [rz, rz] [] ⟨[], [(4, [(0, cL 13 T_api_Value.c T_api_Value.d []), (20, cL 5 T_api_Ban.c T_api_Ban.d []), (21, cL 7 T_api_Entry.c T_api_Entry.d [])])], [], [], [], [1, 2, 4, 5], [2, 4], []⟩ .n (by kernel_rfl) (g_doormanref38_LockAll_c0_ok S0 w0 a1   1000000 (0 : Int) a0 (T_doormanref38_Walk.mk ([] : (List T_api_Value)) (0 : Int) (T_api_Op.mk (0 : Int) (0 : Int) (T_api_Loc.mk (0 : Int) (0 : Int) (0 : Int)) (0 : Int) (0 : Int) (T_api_Value.mk (0 : Int) (T_api_Peer.mk (T_api_End.mk (T_api_Addr.mk false (0 : Int) (0 : Int)) (0 : Int)) false (0 : Int) (T_api_Score.mk (0 : Int) (0 : Int)) (0 : Int) (0 : Int)) ([] : (List T_api_Ban)) ([] : (List T_api_Entry))) false) false) r hf)

/-- doorman/doormanref38.Swap -/
def g_doormanref38_Swap (a0 : T_doormanref38_Walk) (a1 : Int) (a2 : Int) (a3 : Int) (a4 : Bool) : Option (T_doormanref38_Walk × Bool) :=
  (g_doormanref38_Ask a0 (T_api_Op.mk (7 : Int) (0 : Int) (T_api_Loc.mk a1 (0 : Int) (0 : Int)) a2 a3 (T_api_Value.mk (0 : Int) (T_api_Peer.mk (T_api_End.mk (T_api_Addr.mk false (0 : Int) (0 : Int)) (0 : Int)) false (0 : Int) (T_api_Score.mk (0 : Int) (0 : Int)) (0 : Int) (0 : Int)) ([] : (List T_api_Ban)) ([] : (List T_api_Entry))) a4)).bind fun x1 =>
  some (x1.1, (x1.2.fN == (1 : Int)))

theorem g_doormanref38_Swap_ok (a0 : T_doormanref38_Walk) (a1 : Int) (a2 : Int) (a3 : Int) (a4 : Bool) (r : (T_doormanref38_Walk × Bool)) (hf : g_doormanref38_Swap a0 a1 a2 a3 a4 = some r) : SCall Try.prog 61 [.agg (T_doormanref38_Walk.c a0), .one (.lit (.int .i64 a1)), .one (.lit (.int .i64 a2)), .one (.lit (.int .i64 a3)), .one (.lit (.bool a4))] (.tup [(true, T_doormanref38_Walk.c r.1), (false, cB r.2)]) := by
  refine SCall.of Try.func61 rfl rfl rfl rfl fun S0 w0 => ?_
  unfold g_doormanref38_Swap at hf
  obtain ⟨x1, q1, hf⟩ := bind_some' hf
  replace hf := Option.some.inj hf
  subst hf
  exact toEnd_g allOk 6 [rz, ⟨[(7, .r (.tup [(true, T_doormanref38_Walk.c x1.1), (true, T_api_Value.c x1.2)]) [])], [], [], [], [(6, [(18, cL 5 T_api_Ban.c T_api_Ban.d []), (19, cL 7 T_api_Entry.c T_api_Entry.d [])])], [], []⟩, rz] [] [] [] [] (.c (g_doormanref38_Ask_ok a0 (T_api_Op.mk (7 : Int) (0 : Int) (T_api_Loc.mk a1 (0 : Int) (0 : Int)) a2 a3 (T_api_Value.mk (0 : Int) (T_api_Peer.mk (T_api_End.mk (T_api_Addr.mk false (0 : Int) (0 : Int)) (0 : Int)) false (0 : Int) (T_api_Score.mk (0 : Int) (0 : Int)) (0 : Int) (0 : Int)) ([] : (List T_api_Ban)) ([] : (List T_api_Entry))) a4) x1 q1) .n) (by kernel_rfl) rfl

def g_doormanref38_Reserve_c0 (a1 : Int) (a2 : Bool)  : Nat → T_doormanref38_Walk → T_doormanref38_Walk → Option (T_doormanref38_Walk × Bool)
  | 0, _, _ => none
  | fu + 1, b3, b6 =>
    bif (!b3.fWait) then
      (g_doormanref38_Load b3 (T_api_Loc.mk (1 : Int) (0 : Int) (0 : Int))).bind fun x1 =>
      bif x1.1.fWait then
        some (x1.1, false)
      else
        bif (decide (x1.2.fN ≥ a1)) then
          some (x1.1, false)
        else
          (g_doormanref38_Swap x1.1 (1 : Int) x1.2.fN (add64 x1.2.fN (1 : Int)) a2).bind fun x2 =>
          bif x2.2 then
            some (x2.1, true)
          else
            g_doormanref38_Reserve_c0 a1 a2  fu x2.1 b6
    else
      some (b3, false)

theorem g_doormanref38_Reserve_c0_ok (S0 : Nat → Prop) (w0 : Start) (a1 : Int) (a2 : Bool)  : ∀ (fu : Nat) (b3 : T_doormanref38_Walk) (b6 : T_doormanref38_Walk) (r : (T_doormanref38_Walk × Bool)), g_doormanref38_Reserve_c0 a1 a2  fu b3 b6 = some r → Good Try.prog 45 S0 w0 (bodyPost Try.prog Try.f30 (Post S0 w0 (.tup [(true, T_doormanref38_Walk.c r.1), (false, cB r.2)]))) (at_ [1, 0, 0] (bodyOf Try.f30)) ⟨[(1, .one (.lit (.int .i64 a1))), (2, .one (.lit (.bool a2))), (3, .one (.ptr 3 0)), (6, .one (.ptr 6 0))], [(3, .box [cL 13 T_api_Value.c T_api_Value.d b3.fGot, .lit (.int .i64 b3.fAt), .lit (.int .i64 b3.fOp.fKind), .lit (.int .i64 b3.fOp.fLock), .lit (.int .i64 b3.fOp.fLoc.fKind), .lit (.int .i64 b3.fOp.fLoc.fShard), .lit (.int .i64 b3.fOp.fLoc.fSlot), .lit (.int .i64 b3.fOp.fOld), .lit (.int .i64 b3.fOp.fNew), .lit (.int .i64 b3.fOp.fVal.fN), .lit (.bool b3.fOp.fVal.fPeer.fEnd.fAddr.fV6), .lit (.int .u64 b3.fOp.fVal.fPeer.fEnd.fAddr.fHi), .lit (.int .u64 b3.fOp.fVal.fPeer.fEnd.fAddr.fLo), .lit (.int .i64 b3.fOp.fVal.fPeer.fEnd.fPort), .lit (.bool b3.fOp.fVal.fPeer.fIn), .lit (.int .i64 b3.fOp.fVal.fPeer.fSince), .lit (.int .i64 b3.fOp.fVal.fPeer.fScore.fPoints), .lit (.int .i64 b3.fOp.fVal.fPeer.fScore.fAt), .lit (.int .i64 b3.fOp.fVal.fPeer.fPing), .lit (.int .i64 b3.fOp.fVal.fPeer.fWork), cL 5 T_api_Ban.c T_api_Ban.d b3.fOp.fVal.fBans, cL 7 T_api_Entry.c T_api_Entry.d b3.fOp.fVal.fBook, .lit (.bool b3.fOp.fMark), .lit (.bool b3.fWait)]), (6, .box [cL 13 T_api_Value.c T_api_Value.d b6.fGot, .lit (.int .i64 b6.fAt), .lit (.int .i64 b6.fOp.fKind), .lit (.int .i64 b6.fOp.fLock), .lit (.int .i64 b6.fOp.fLoc.fKind), .lit (.int .i64 b6.fOp.fLoc.fShard), .lit (.int .i64 b6.fOp.fLoc.fSlot), .lit (.int .i64 b6.fOp.fOld), .lit (.int .i64 b6.fOp.fNew), .lit (.int .i64 b6.fOp.fVal.fN), .lit (.bool b6.fOp.fVal.fPeer.fEnd.fAddr.fV6), .lit (.int .u64 b6.fOp.fVal.fPeer.fEnd.fAddr.fHi), .lit (.int .u64 b6.fOp.fVal.fPeer.fEnd.fAddr.fLo), .lit (.int .i64 b6.fOp.fVal.fPeer.fEnd.fPort), .lit (.bool b6.fOp.fVal.fPeer.fIn), .lit (.int .i64 b6.fOp.fVal.fPeer.fSince), .lit (.int .i64 b6.fOp.fVal.fPeer.fScore.fPoints), .lit (.int .i64 b6.fOp.fVal.fPeer.fScore.fAt), .lit (.int .i64 b6.fOp.fVal.fPeer.fPing), .lit (.int .i64 b6.fOp.fVal.fPeer.fWork), cL 5 T_api_Ban.c T_api_Ban.d b6.fOp.fVal.fBans, cL 7 T_api_Entry.c T_api_Entry.d b6.fOp.fVal.fBook, .lit (.bool b6.fOp.fMark), .lit (.bool b6.fWait)])]⟩ := by
  intro fu
  induction fu with
  | zero =>
    intro b3 b6 r hf
    simp [g_doormanref38_Reserve_c0] at hf
  | succ fu ih =>
    intro b3 b6 r hf
    unfold g_doormanref38_Reserve_c0 at hf
    rcases br_some hf with ⟨h1, hf⟩ | ⟨h1, hf⟩
    · obtain ⟨x1, q2, hf⟩ := bind_some' hf
      rcases br_some hf with ⟨h3, hf⟩ | ⟨h3, hf⟩
      · replace hf := Option.some.inj hf
        subst hf
        exact toEnd_g allOk 15 [rz, rA [(2, .r (.tup [(true, T_doormanref38_Walk.c x1.1), (true, T_api_Value.c x1.2)]) [])], rB [(2, true)], rz] [true, true] [] [] [] (.c h1 (.c (g_doormanref38_Load_ok b3 (T_api_Loc.mk (1 : Int) (0 : Int) (0 : Int)) x1 q2) (.c h3 (.c (show true = true from rfl) .n)))) (by kernel_rfl) rfl
      · rcases br_some hf with ⟨h4, hf⟩ | ⟨h4, hf⟩
        · replace hf := Option.some.inj hf
          subst hf
          exact toEnd_g allOk 15 [rz, rA [(2, .r (.tup [(true, T_doormanref38_Walk.c x1.1), (true, T_api_Value.c x1.2)]) [])], rB [(2, false)], rz] [true, true] [] [] [] (.c h1 (.c (g_doormanref38_Load_ok b3 (T_api_Loc.mk (1 : Int) (0 : Int) (0 : Int)) x1 q2) (.c h3 (.c h4 .n)))) (by kernel_rfl) rfl
        · obtain ⟨x2, q5, hf⟩ := bind_some' hf
          rcases br_some hf with ⟨h6, hf⟩ | ⟨h6, hf⟩
          · replace hf := Option.some.inj hf
            subst hf
            exact toEnd_g allOk 23 [rz, rA [(2, .r (.tup [(true, T_doormanref38_Walk.c x1.1), (true, T_api_Value.c x1.2)]) [])], rB [(2, false)], rA [(7, .r (.tup [(true, T_doormanref38_Walk.c x2.1), (false, cB x2.2)]) [])], rz, rz, rz] [true, false, true] [] [] [] (.c h1 (.c (g_doormanref38_Load_ok b3 (T_api_Loc.mk (1 : Int) (0 : Int) (0 : Int)) x1 q2) (.c h3 (.c h4 (.c (g_doormanref38_Swap_ok x1.1 (1 : Int) x1.2.fN (add64 x1.2.fN (1 : Int)) a2 x2 q5) (.c h6 .n)))))) (by kernel_rfl) rfl
          · exact toK_g allOk Post.ends 24 [rz, rA [(2, .r (.tup [(true, T_doormanref38_Walk.c x1.1), (true, T_api_Value.c x1.2)]) [])], rB [(2, false)], rA [(7, .r (.tup [(true, T_doormanref38_Walk.c x2.1), (false, cB x2.2)]) [])], rz, rz] [true, false, false] ⟨[], [], [], [], [], [1, 2, 3, 6], [3, 6], []⟩ (.c h1 (.c (g_doormanref38_Load_ok b3 (T_api_Loc.mk (1 : Int) (0 : Int) (0 : Int)) x1 q2) (.c h3 (.c h4 (.c (g_doormanref38_Swap_ok x1.1 (1 : Int) x1.2.fN (add64 x1.2.fN (1 : Int)) a2 x2 q5) (.c h6 .n)))))) (by kernel_rfl) (ih x2.1 b6 r hf)
    · replace hf := Option.some.inj hf
      subst hf
      exact toEnd_g allOk 8 [rz, rz] [false] [] [] [] (.c h1 .n) (by kernel_rfl) rfl

/-- doorman/doormanref38.Reserve -/
def g_doormanref38_Reserve (a0 : T_doormanref38_Walk) (a1 : Int) (a2 : Bool) : Option (T_doormanref38_Walk × Bool) :=
  g_doormanref38_Reserve_c0 a1 a2  1000000 a0 (T_doormanref38_Walk.mk ([] : (List T_api_Value)) (0 : Int) (T_api_Op.mk (0 : Int) (0 : Int) (T_api_Loc.mk (0 : Int) (0 : Int) (0 : Int)) (0 : Int) (0 : Int) (T_api_Value.mk (0 : Int) (T_api_Peer.mk (T_api_End.mk (T_api_Addr.mk false (0 : Int) (0 : Int)) (0 : Int)) false (0 : Int) (T_api_Score.mk (0 : Int) (0 : Int)) (0 : Int) (0 : Int)) ([] : (List T_api_Ban)) ([] : (List T_api_Entry))) false) false)

theorem g_doormanref38_Reserve_ok (a0 : T_doormanref38_Walk) (a1 : Int) (a2 : Bool) (r : (T_doormanref38_Walk × Bool)) (hf : g_doormanref38_Reserve a0 a1 a2 = some r) : SCall Try.prog 30 [.agg (T_doormanref38_Walk.c a0), .one (.lit (.int .i64 a1)), .one (.lit (.bool a2))] (.tup [(true, T_doormanref38_Walk.c r.1), (false, cB r.2)]) := by
  refine SCall.of Try.func30 rfl rfl rfl rfl fun S0 w0 => ?_
  unfold g_doormanref38_Reserve at hf
  exact toK_g allOk Post.ends 4 [rz] [] ⟨[], [(6, [(0, cL 13 T_api_Value.c T_api_Value.d []), (20, cL 5 T_api_Ban.c T_api_Ban.d []), (21, cL 7 T_api_Entry.c T_api_Entry.d [])])], [], [], [], [1, 2, 3, 6], [3, 6], []⟩ .n (by kernel_rfl) (g_doormanref38_Reserve_c0_ok S0 w0 a1 a2   1000000 a0 (T_doormanref38_Walk.mk ([] : (List T_api_Value)) (0 : Int) (T_api_Op.mk (0 : Int) (0 : Int) (T_api_Loc.mk (0 : Int) (0 : Int) (0 : Int)) (0 : Int) (0 : Int) (T_api_Value.mk (0 : Int) (T_api_Peer.mk (T_api_End.mk (T_api_Addr.mk false (0 : Int) (0 : Int)) (0 : Int)) false (0 : Int) (T_api_Score.mk (0 : Int) (0 : Int)) (0 : Int) (0 : Int)) ([] : (List T_api_Ban)) ([] : (List T_api_Entry))) false) false) r hf)

def g_doormanref38_Move_c0 (a1 : Int) (a2 : Int) (a3 : Bool)  : Nat → T_doormanref38_Walk → T_doormanref38_Walk → Option T_doormanref38_Walk
  | 0, _, _ => none
  | fu + 1, b4, b8 =>
    bif (!b4.fWait) then
      (g_doormanref38_Load b4 (T_api_Loc.mk a1 (0 : Int) (0 : Int))).bind fun x1 =>
      (g_doormanref38_Swap x1.1 a1 x1.2.fN (add64 x1.2.fN a2) a3).bind fun x2 =>
      bif x2.2 then
        some x2.1
      else
        g_doormanref38_Move_c0 a1 a2 a3  fu x2.1 b8
    else
      some b4

theorem g_doormanref38_Move_c0_ok (S0 : Nat → Prop) (w0 : Start) (a1 : Int) (a2 : Int) (a3 : Bool)  : ∀ (fu : Nat) (b4 : T_doormanref38_Walk) (b8 : T_doormanref38_Walk) (r : T_doormanref38_Walk), g_doormanref38_Move_c0 a1 a2 a3  fu b4 b8 = some r → Good Try.prog 40 S0 w0 (bodyPost Try.prog Try.f33 (Post S0 w0 (.agg (T_doormanref38_Walk.c r)))) (at_ [1, 0, 0] (bodyOf Try.f33)) ⟨[(1, .one (.lit (.int .i64 a1))), (2, .one (.lit (.int .i64 a2))), (3, .one (.lit (.bool a3))), (4, .one (.ptr 4 0)), (8, .one (.ptr 8 0))], [(4, .box [cL 13 T_api_Value.c T_api_Value.d b4.fGot, .lit (.int .i64 b4.fAt), .lit (.int .i64 b4.fOp.fKind), .lit (.int .i64 b4.fOp.fLock), .lit (.int .i64 b4.fOp.fLoc.fKind), .lit (.int .i64 b4.fOp.fLoc.fShard), .lit (.int .i64 b4.fOp.fLoc.fSlot), .lit (.int .i64 b4.fOp.fOld), .lit (.int .i64 b4.fOp.fNew), .lit (.int .i64 b4.fOp.fVal.fN), .lit (.bool b4.fOp.fVal.fPeer.fEnd.fAddr.fV6), .lit (.int .u64 b4.fOp.fVal.fPeer.fEnd.fAddr.fHi), .lit (.int .u64 b4.fOp.fVal.fPeer.fEnd.fAddr.fLo), .lit (.int .i64 b4.fOp.fVal.fPeer.fEnd.fPort), .lit (.bool b4.fOp.fVal.fPeer.fIn), .lit (.int .i64 b4.fOp.fVal.fPeer.fSince), .lit (.int .i64 b4.fOp.fVal.fPeer.fScore.fPoints), .lit (.int .i64 b4.fOp.fVal.fPeer.fScore.fAt), .lit (.int .i64 b4.fOp.fVal.fPeer.fPing), .lit (.int .i64 b4.fOp.fVal.fPeer.fWork), cL 5 T_api_Ban.c T_api_Ban.d b4.fOp.fVal.fBans, cL 7 T_api_Entry.c T_api_Entry.d b4.fOp.fVal.fBook, .lit (.bool b4.fOp.fMark), .lit (.bool b4.fWait)]), (8, .box [cL 13 T_api_Value.c T_api_Value.d b8.fGot, .lit (.int .i64 b8.fAt), .lit (.int .i64 b8.fOp.fKind), .lit (.int .i64 b8.fOp.fLock), .lit (.int .i64 b8.fOp.fLoc.fKind), .lit (.int .i64 b8.fOp.fLoc.fShard), .lit (.int .i64 b8.fOp.fLoc.fSlot), .lit (.int .i64 b8.fOp.fOld), .lit (.int .i64 b8.fOp.fNew), .lit (.int .i64 b8.fOp.fVal.fN), .lit (.bool b8.fOp.fVal.fPeer.fEnd.fAddr.fV6), .lit (.int .u64 b8.fOp.fVal.fPeer.fEnd.fAddr.fHi), .lit (.int .u64 b8.fOp.fVal.fPeer.fEnd.fAddr.fLo), .lit (.int .i64 b8.fOp.fVal.fPeer.fEnd.fPort), .lit (.bool b8.fOp.fVal.fPeer.fIn), .lit (.int .i64 b8.fOp.fVal.fPeer.fSince), .lit (.int .i64 b8.fOp.fVal.fPeer.fScore.fPoints), .lit (.int .i64 b8.fOp.fVal.fPeer.fScore.fAt), .lit (.int .i64 b8.fOp.fVal.fPeer.fPing), .lit (.int .i64 b8.fOp.fVal.fPeer.fWork), cL 5 T_api_Ban.c T_api_Ban.d b8.fOp.fVal.fBans, cL 7 T_api_Entry.c T_api_Entry.d b8.fOp.fVal.fBook, .lit (.bool b8.fOp.fMark), .lit (.bool b8.fWait)])]⟩ := by
  intro fu
  induction fu with
  | zero =>
    intro b4 b8 r hf
    simp [g_doormanref38_Move_c0] at hf
  | succ fu ih =>
    intro b4 b8 r hf
    unfold g_doormanref38_Move_c0 at hf
    rcases br_some hf with ⟨h1, hf⟩ | ⟨h1, hf⟩
    · obtain ⟨x1, q2, hf⟩ := bind_some' hf
      obtain ⟨x2, q3, hf⟩ := bind_some' hf
      rcases br_some hf with ⟨h4, hf⟩ | ⟨h4, hf⟩
      · replace hf := Option.some.inj hf
        subst hf
        exact toEnd_g allOk 18 [rz, rA [(3, .r (.tup [(true, T_doormanref38_Walk.c x1.1), (true, T_api_Value.c x1.2)]) [])], rA [(9, .r (.tup [(true, T_doormanref38_Walk.c x2.1), (false, cB x2.2)]) [])], rz, rz, rz] [true, true] [] [] [] (.c h1 (.c (g_doormanref38_Load_ok b4 (T_api_Loc.mk a1 (0 : Int) (0 : Int)) x1 q2) (.c (g_doormanref38_Swap_ok x1.1 a1 x1.2.fN (add64 x1.2.fN a2) a3 x2 q3) (.c h4 .n)))) (by kernel_rfl) rfl
      · exact toK_g allOk Post.ends 19 [rz, rA [(3, .r (.tup [(true, T_doormanref38_Walk.c x1.1), (true, T_api_Value.c x1.2)]) [])], rA [(9, .r (.tup [(true, T_doormanref38_Walk.c x2.1), (false, cB x2.2)]) [])], rz, rz] [true, false] ⟨[], [], [], [], [], [1, 2, 3, 4, 8], [4, 8], []⟩ (.c h1 (.c (g_doormanref38_Load_ok b4 (T_api_Loc.mk a1 (0 : Int) (0 : Int)) x1 q2) (.c (g_doormanref38_Swap_ok x1.1 a1 x1.2.fN (add64 x1.2.fN a2) a3 x2 q3) (.c h4 .n)))) (by kernel_rfl) (ih x2.1 b8 r hf)
    · replace hf := Option.some.inj hf
      subst hf
      exact toEnd_g allOk 8 [rz, rz] [false] [] [] [] (.c h1 .n) (by kernel_rfl) rfl

/-- doorman/doormanref38.Move -/
def g_doormanref38_Move (a0 : T_doormanref38_Walk) (a1 : Int) (a2 : Int) (a3 : Bool) : Option T_doormanref38_Walk :=
  g_doormanref38_Move_c0 a1 a2 a3  1000000 a0 (T_doormanref38_Walk.mk ([] : (List T_api_Value)) (0 : Int) (T_api_Op.mk (0 : Int) (0 : Int) (T_api_Loc.mk (0 : Int) (0 : Int) (0 : Int)) (0 : Int) (0 : Int) (T_api_Value.mk (0 : Int) (T_api_Peer.mk (T_api_End.mk (T_api_Addr.mk false (0 : Int) (0 : Int)) (0 : Int)) false (0 : Int) (T_api_Score.mk (0 : Int) (0 : Int)) (0 : Int) (0 : Int)) ([] : (List T_api_Ban)) ([] : (List T_api_Entry))) false) false)

theorem g_doormanref38_Move_ok (a0 : T_doormanref38_Walk) (a1 : Int) (a2 : Int) (a3 : Bool) (r : T_doormanref38_Walk) (hf : g_doormanref38_Move a0 a1 a2 a3 = some r) : SCall Try.prog 33 [.agg (T_doormanref38_Walk.c a0), .one (.lit (.int .i64 a1)), .one (.lit (.int .i64 a2)), .one (.lit (.bool a3))] (.agg (T_doormanref38_Walk.c r)) := by
  refine SCall.of Try.func33 rfl rfl rfl rfl fun S0 w0 => ?_
  unfold g_doormanref38_Move at hf
  exact toK_g allOk Post.ends 4 [rz] [] ⟨[], [(8, [(0, cL 13 T_api_Value.c T_api_Value.d []), (20, cL 5 T_api_Ban.c T_api_Ban.d []), (21, cL 7 T_api_Entry.c T_api_Entry.d [])])], [], [], [], [1, 2, 3, 4, 8], [4, 8], []⟩ .n (by kernel_rfl) (g_doormanref38_Move_c0_ok S0 w0 a1 a2 a3   1000000 a0 (T_doormanref38_Walk.mk ([] : (List T_api_Value)) (0 : Int) (T_api_Op.mk (0 : Int) (0 : Int) (T_api_Loc.mk (0 : Int) (0 : Int) (0 : Int)) (0 : Int) (0 : Int) (T_api_Value.mk (0 : Int) (T_api_Peer.mk (T_api_End.mk (T_api_Addr.mk false (0 : Int) (0 : Int)) (0 : Int)) false (0 : Int) (T_api_Score.mk (0 : Int) (0 : Int)) (0 : Int) (0 : Int)) ([] : (List T_api_Ban)) ([] : (List T_api_Entry))) false) false) r hf)

def g_doormanref38_FreeAll_c0   : Nat → Bool → Int → T_doormanref38_Walk → T_doormanref38_Walk → Option T_doormanref38_Walk
  | 0, _, _, _, _ => none
  | fu + 1, v2, v7, b3, b6 =>
    bif (decide (v7 ≥ (0 : Int))) then
      (g_doormanref38_Key b3 (3 : Int) (add64 (2 : Int) v7) v2).bind fun x2 =>
      g_doormanref38_FreeAll_c0   fu false (sub64 v7 (1 : Int)) x2 b6
    else
      some b3

theorem g_doormanref38_FreeAll_c0_ok (S0 : Nat → Prop) (w0 : Start)   : ∀ (fu : Nat) (v2 : Bool) (v7 : Int) (b3 : T_doormanref38_Walk) (b6 : T_doormanref38_Walk) (r : T_doormanref38_Walk), g_doormanref38_FreeAll_c0   fu v2 v7 b3 b6 = some r → Good Try.prog 21 S0 w0 (bodyPost Try.prog Try.f32 (Post S0 w0 (.agg (T_doormanref38_Walk.c r)))) (at_ [1, 0, 1, 0] (bodyOf Try.f32)) ⟨[(2, .one (.lit (.bool v2))), (3, .one (.ptr 3 0)), (6, .one (.ptr 6 0)), (7, .one (.lit (.int .i64 v7)))], [(3, .box [cL 13 T_api_Value.c T_api_Value.d b3.fGot, .lit (.int .i64 b3.fAt), .lit (.int .i64 b3.fOp.fKind), .lit (.int .i64 b3.fOp.fLock), .lit (.int .i64 b3.fOp.fLoc.fKind), .lit (.int .i64 b3.fOp.fLoc.fShard), .lit (.int .i64 b3.fOp.fLoc.fSlot), .lit (.int .i64 b3.fOp.fOld), .lit (.int .i64 b3.fOp.fNew), .lit (.int .i64 b3.fOp.fVal.fN), .lit (.bool b3.fOp.fVal.fPeer.fEnd.fAddr.fV6), .lit (.int .u64 b3.fOp.fVal.fPeer.fEnd.fAddr.fHi), .lit (.int .u64 b3.fOp.fVal.fPeer.fEnd.fAddr.fLo), .lit (.int .i64 b3.fOp.fVal.fPeer.fEnd.fPort), .lit (.bool b3.fOp.fVal.fPeer.fIn), .lit (.int .i64 b3.fOp.fVal.fPeer.fSince), .lit (.int .i64 b3.fOp.fVal.fPeer.fScore.fPoints), .lit (.int .i64 b3.fOp.fVal.fPeer.fScore.fAt), .lit (.int .i64 b3.fOp.fVal.fPeer.fPing), .lit (.int .i64 b3.fOp.fVal.fPeer.fWork), cL 5 T_api_Ban.c T_api_Ban.d b3.fOp.fVal.fBans, cL 7 T_api_Entry.c T_api_Entry.d b3.fOp.fVal.fBook, .lit (.bool b3.fOp.fMark), .lit (.bool b3.fWait)]), (6, .box [cL 13 T_api_Value.c T_api_Value.d b6.fGot, .lit (.int .i64 b6.fAt), .lit (.int .i64 b6.fOp.fKind), .lit (.int .i64 b6.fOp.fLock), .lit (.int .i64 b6.fOp.fLoc.fKind), .lit (.int .i64 b6.fOp.fLoc.fShard), .lit (.int .i64 b6.fOp.fLoc.fSlot), .lit (.int .i64 b6.fOp.fOld), .lit (.int .i64 b6.fOp.fNew), .lit (.int .i64 b6.fOp.fVal.fN), .lit (.bool b6.fOp.fVal.fPeer.fEnd.fAddr.fV6), .lit (.int .u64 b6.fOp.fVal.fPeer.fEnd.fAddr.fHi), .lit (.int .u64 b6.fOp.fVal.fPeer.fEnd.fAddr.fLo), .lit (.int .i64 b6.fOp.fVal.fPeer.fEnd.fPort), .lit (.bool b6.fOp.fVal.fPeer.fIn), .lit (.int .i64 b6.fOp.fVal.fPeer.fSince), .lit (.int .i64 b6.fOp.fVal.fPeer.fScore.fPoints), .lit (.int .i64 b6.fOp.fVal.fPeer.fScore.fAt), .lit (.int .i64 b6.fOp.fVal.fPeer.fPing), .lit (.int .i64 b6.fOp.fVal.fPeer.fWork), cL 5 T_api_Ban.c T_api_Ban.d b6.fOp.fVal.fBans, cL 7 T_api_Entry.c T_api_Entry.d b6.fOp.fVal.fBook, .lit (.bool b6.fOp.fMark), .lit (.bool b6.fWait)])]⟩ := by
  intro fu
  induction fu with
  | zero =>
    intro v2 v7 b3 b6 r hf
    simp [g_doormanref38_FreeAll_c0] at hf
  | succ fu ih =>
    intro v2 v7 b3 b6 r hf
    unfold g_doormanref38_FreeAll_c0 at hf
    rcases br_some hf with ⟨h2, hf⟩ | ⟨h2, hf⟩
    · obtain ⟨x2, q3, hf⟩ := bind_some' hf
      exact toK_g allOk Post.ends 14 [rz, rA [(4, aG (T_doormanref38_Walk.c x2))], rz, rz] [true] ⟨[], [], [], [], [], [2, 3, 6, 7], [3, 6], []⟩ (.c h2 (.c (g_doormanref38_Key_ok b3 (3 : Int) (add64 (2 : Int) v7) v2 x2 q3) .n)) (by kernel_rfl) (ih false (sub64 v7 (1 : Int)) x2 b6 r hf)
    · replace hf := Option.some.inj hf
      subst hf
      exact toEnd_g allOk 8 [rz, rz] [false] [] [] [] (.c h2 .n) (by kernel_rfl) rfl

/-- doorman/doormanref38.FreeAll -/
def g_doormanref38_FreeAll (a0 : T_doormanref38_Walk) (a1 : Int) (a2 : Bool) : Option T_doormanref38_Walk :=
  (g_doormanref31_Parts a1).bind fun x1 =>
  g_doormanref38_FreeAll_c0   (((sub64 x1 (1 : Int)) - (0 : Int)).toNat + 2) a2 (sub64 x1 (1 : Int)) a0 (T_doormanref38_Walk.mk ([] : (List T_api_Value)) (0 : Int) (T_api_Op.mk (0 : Int) (0 : Int) (T_api_Loc.mk (0 : Int) (0 : Int) (0 : Int)) (0 : Int) (0 : Int) (T_api_Value.mk (0 : Int) (T_api_Peer.mk (T_api_End.mk (T_api_Addr.mk false (0 : Int) (0 : Int)) (0 : Int)) false (0 : Int) (T_api_Score.mk (0 : Int) (0 : Int)) (0 : Int) (0 : Int)) ([] : (List T_api_Ban)) ([] : (List T_api_Entry))) false) false)

theorem g_doormanref38_FreeAll_ok (a0 : T_doormanref38_Walk) (a1 : Int) (a2 : Bool) (r : T_doormanref38_Walk) (hf : g_doormanref38_FreeAll a0 a1 a2 = some r) : SCall Try.prog 32 [.agg (T_doormanref38_Walk.c a0), .one (.lit (.int .i64 a1)), .one (.lit (.bool a2))] (.agg (T_doormanref38_Walk.c r)) := by
  refine SCall.of Try.func32 rfl rfl rfl rfl fun S0 w0 => ?_
  unfold g_doormanref38_FreeAll at hf
  obtain ⟨x1, q1, hf⟩ := bind_some' hf
  exact toK_g allOk Post.ends 6 [rz, rA [(1, aI x1)]] [] ⟨[], [(6, [(0, cL 13 T_api_Value.c T_api_Value.d []), (20, cL 5 T_api_Ban.c T_api_Ban.d []), (21, cL 7 T_api_Entry.c T_api_Entry.d [])])], [], [], [], [2, 3, 6, 7], [3, 6], []⟩ (.c (g_doormanref31_Parts_ok a1 x1 q1) .n) (by kernel_rfl) (g_doormanref38_FreeAll_c0_ok S0 w0    (((sub64 x1 (1 : Int)) - (0 : Int)).toNat + 2) a2 (sub64 x1 (1 : Int)) a0 (T_doormanref38_Walk.mk ([] : (List T_api_Value)) (0 : Int) (T_api_Op.mk (0 : Int) (0 : Int) (T_api_Loc.mk (0 : Int) (0 : Int) (0 : Int)) (0 : Int) (0 : Int) (T_api_Value.mk (0 : Int) (T_api_Peer.mk (T_api_End.mk (T_api_Addr.mk false (0 : Int) (0 : Int)) (0 : Int)) false (0 : Int) (T_api_Score.mk (0 : Int) (0 : Int)) (0 : Int) (0 : Int)) ([] : (List T_api_Ban)) ([] : (List T_api_Entry))) false) false) r hf)

/-- doorman/tape.Play of doorman/doormanlaw38.counts -/
def g_tape_Play_29 (a1 : List T_api_Value) : Option T_tape_Turn := (g_doormanlaw38_counts ⟨a1⟩).map playT

theorem g_tape_Play_29_ok (a1 : List T_api_Value) (r : T_tape_Turn) (hf : g_tape_Play_29 a1 = some r) : SCall Try.prog 25 [.one (.lit (.func (.func 29) #[] #[])), .one (cL 13 T_api_Value.c T_api_Value.d a1)] (.agg (T_tape_Turn.c r)) := by
  obtain ⟨o, ho, rfl⟩ := Option.map_eq_some_iff.1 hf
  have hinv : ∀ p w, (invoke (.fn (.func 51) #[p]) #[]).run Try.prog w = .ok (.enter 51 #[p]) w := fun p w => by simp [go_sem]
  cases o with
  | ret x g =>
    exact SCall.defR rz rz (rH [] [(5, ⟨[(100000, 9)], [], [(100000, .box (T_tape_tape.c g))], .agg (T_api_Reply.c x)⟩)]) 5 4 51 allOk Try.func25 rfl rfl rfl rfl rfl rfl (fun ρ w p h => by simp [go_sem, h]) (by kernel_rfl) hinv rfl rfl
      (.c (show Try.prog.concrete 105 = true from by kernel_rfl) (.c (g_doormanlaw38_counts_own ⟨a1⟩ (.ret x g) ho) .n)) (by kernel_rfl) (play_idle x g) (by kernel_rfl) (by kernel_rfl) (by kernel_rfl)
  | pan op =>
    exact SCall.defP rz rz rz 5 4 51 5 ⟨[(100000, 9)], .one (.ifa 104 21 (fun i => (T_api_Op.c op).getD i .junk))⟩ allOk Try.func25 rfl rfl rfl rfl rfl rfl (fun ρ w p h => by simp [go_sem, h]) (by kernel_rfl) hinv rfl rfl
      (.c (show Try.prog.concrete 105 = true from by kernel_rfl) (.c (g_doormanlaw38_counts_own ⟨a1⟩ (.pan op) ho) .n)) (by kernel_rfl) (play_pan op) (by kernel_rfl) (by kernel_rfl) (by kernel_rfl)
  | bad s =>
    exact SCall.defP rz rz rz 5 4 51 5 ⟨[(100000, 9)], .one (.ifc 9 (.lit (.string s)))⟩ allOk Try.func25 rfl rfl rfl rfl rfl rfl (fun ρ w p h => by simp [go_sem, h]) (by kernel_rfl) hinv rfl rfl
      (.c (show Try.prog.concrete 105 = true from by kernel_rfl) (.c (g_doormanlaw38_counts_own ⟨a1⟩ (.bad s) ho) .n)) (by kernel_rfl) (play_bad s) (by kernel_rfl) (by kernel_rfl) (by kernel_rfl)

def g_doormanlaw38_TapeCounts_c0   (v6 : Int) (b3 : T_tape_Turn) (b4 : T_doormanref38_Walk) : Option Bool :=
  bif b4.fWait then
    bif (!b3.fDone) then
      bif (!b3.fBroken) then
        (g_doormansame_Op b3.fOp b4.fOp).bind fun x8 =>
        bif x8 then
          (g_doormanlaw38_awake).bind fun x9 =>
          some x9
        else
          some false
      else
        some false
    else
      some false
  else
    bif b3.fDone then
      (g_doormansame_Op b3.fOp (T_api_Op.mk (0 : Int) (0 : Int) (T_api_Loc.mk (0 : Int) (0 : Int) (0 : Int)) (0 : Int) (0 : Int) (T_api_Value.mk (0 : Int) (T_api_Peer.mk (T_api_End.mk (T_api_Addr.mk false (0 : Int) (0 : Int)) (0 : Int)) false (0 : Int) (T_api_Score.mk (0 : Int) (0 : Int)) (0 : Int) (0 : Int)) ([] : (List T_api_Ban)) ([] : (List T_api_Entry))) false)).bind fun x10 =>
      bif x10 then
        (g_doormansame_Reply b3.fReply (T_api_Reply.mk (0 : Int) (T_api_End.mk (T_api_Addr.mk false (0 : Int) (0 : Int)) (0 : Int)) v6 (0 : Int) ([] : (List T_api_Peer)))).bind fun x11 =>
        bif x11 then
          (g_doormanlaw38_awake).bind fun x12 =>
          some x12
        else
          some false
      else
        some false
    else
      some false

theorem g_doormanlaw38_TapeCounts_c0_ok (S0 : Nat → Prop) (w0 : Start)   (v6 : Int) (b3 : T_tape_Turn) (b4 : T_doormanref38_Walk) (r : Bool) (hf : g_doormanlaw38_TapeCounts_c0   v6 b3 b4 = some r) : Good Try.prog 62 S0 w0 (bodyPost Try.prog Try.f8 (Post S0 w0 (.one (.lit (.bool r))))) (at_ [1, 1, 1, 1, 1, 1, 1] (bodyOf Try.f8)) ⟨[(3, .one (.ptr 3 0)), (4, .one (.ptr 4 0)), (6, .one (.lit (.int .i64 v6)))], [(3, .box [.lit (.int .i64 b3.fOp.fKind), .lit (.int .i64 b3.fOp.fLock), .lit (.int .i64 b3.fOp.fLoc.fKind), .lit (.int .i64 b3.fOp.fLoc.fShard), .lit (.int .i64 b3.fOp.fLoc.fSlot), .lit (.int .i64 b3.fOp.fOld), .lit (.int .i64 b3.fOp.fNew), .lit (.int .i64 b3.fOp.fVal.fN), .lit (.bool b3.fOp.fVal.fPeer.fEnd.fAddr.fV6), .lit (.int .u64 b3.fOp.fVal.fPeer.fEnd.fAddr.fHi), .lit (.int .u64 b3.fOp.fVal.fPeer.fEnd.fAddr.fLo), .lit (.int .i64 b3.fOp.fVal.fPeer.fEnd.fPort), .lit (.bool b3.fOp.fVal.fPeer.fIn), .lit (.int .i64 b3.fOp.fVal.fPeer.fSince), .lit (.int .i64 b3.fOp.fVal.fPeer.fScore.fPoints), .lit (.int .i64 b3.fOp.fVal.fPeer.fScore.fAt), .lit (.int .i64 b3.fOp.fVal.fPeer.fPing), .lit (.int .i64 b3.fOp.fVal.fPeer.fWork), cL 5 T_api_Ban.c T_api_Ban.d b3.fOp.fVal.fBans, cL 7 T_api_Entry.c T_api_Entry.d b3.fOp.fVal.fBook, .lit (.bool b3.fOp.fMark), .lit (.int .i64 b3.fReply.fCode), .lit (.bool b3.fReply.fEnd.fAddr.fV6), .lit (.int .u64 b3.fReply.fEnd.fAddr.fHi), .lit (.int .u64 b3.fReply.fEnd.fAddr.fLo), .lit (.int .i64 b3.fReply.fEnd.fPort), .lit (.int .i64 b3.fReply.fN), .lit (.int .i64 b3.fReply.fUntil), cL 10 T_api_Peer.c T_api_Peer.d b3.fReply.fPeers, .lit (.bool b3.fDone), .lit (.bool b3.fBroken)]), (4, .box [cL 13 T_api_Value.c T_api_Value.d b4.fGot, .lit (.int .i64 b4.fAt), .lit (.int .i64 b4.fOp.fKind), .lit (.int .i64 b4.fOp.fLock), .lit (.int .i64 b4.fOp.fLoc.fKind), .lit (.int .i64 b4.fOp.fLoc.fShard), .lit (.int .i64 b4.fOp.fLoc.fSlot), .lit (.int .i64 b4.fOp.fOld), .lit (.int .i64 b4.fOp.fNew), .lit (.int .i64 b4.fOp.fVal.fN), .lit (.bool b4.fOp.fVal.fPeer.fEnd.fAddr.fV6), .lit (.int .u64 b4.fOp.fVal.fPeer.fEnd.fAddr.fHi), .lit (.int .u64 b4.fOp.fVal.fPeer.fEnd.fAddr.fLo), .lit (.int .i64 b4.fOp.fVal.fPeer.fEnd.fPort), .lit (.bool b4.fOp.fVal.fPeer.fIn), .lit (.int .i64 b4.fOp.fVal.fPeer.fSince), .lit (.int .i64 b4.fOp.fVal.fPeer.fScore.fPoints), .lit (.int .i64 b4.fOp.fVal.fPeer.fScore.fAt), .lit (.int .i64 b4.fOp.fVal.fPeer.fPing), .lit (.int .i64 b4.fOp.fVal.fPeer.fWork), cL 5 T_api_Ban.c T_api_Ban.d b4.fOp.fVal.fBans, cL 7 T_api_Entry.c T_api_Entry.d b4.fOp.fVal.fBook, .lit (.bool b4.fOp.fMark), .lit (.bool b4.fWait)])]⟩ := by
  unfold g_doormanlaw38_TapeCounts_c0 at hf
  rcases br_some hf with ⟨h10, hf⟩ | ⟨h10, hf⟩
  · rcases br_some hf with ⟨h11, hf⟩ | ⟨h11, hf⟩
    · rcases br_some hf with ⟨h12, hf⟩ | ⟨h12, hf⟩
      · obtain ⟨x8, q13, hf⟩ := bind_some' hf
        rcases br_some hf with ⟨h14, hf⟩ | ⟨h14, hf⟩
        · obtain ⟨x9, q15, hf⟩ := bind_some' hf
          replace hf := Option.some.inj hf
          subst hf
          exact toEnd_g allOk 6 [rz, ⟨[(13, aB x8), (16, aB x9)], [(3, true), (8, true), (15, true)], [], [], [], [], []⟩] [true] [] [] [] (.c h10 (.c h11 (.c h12 (.c (g_doormansame_Op_ok b3.fOp b4.fOp x8 q13) (.c h14 (.c (g_doormanlaw38_awake_ok  x9 q15) .n)))))) (by kernel_rfl) rfl
        · replace hf := Option.some.inj hf
          subst hf
          exact toEnd_g allOk 6 [rz, ⟨[(13, aB x8)], [(3, true), (8, true), (15, false)], [], [], [], [], []⟩] [true] [] [] [] (.c h10 (.c h11 (.c h12 (.c (g_doormansame_Op_ok b3.fOp b4.fOp x8 q13) (.c h14 .n))))) (by kernel_rfl) rfl
      · replace hf := Option.some.inj hf
        subst hf
        exact toEnd_g allOk 6 [rz, rB [(3, true), (8, false)]] [true] [] [] [] (.c h10 (.c h11 (.c h12 .n))) (by kernel_rfl) rfl
    · replace hf := Option.some.inj hf
      subst hf
      exact toEnd_g allOk 6 [rz, rB [(3, false)]] [true] [] [] [] (.c h10 (.c h11 .n)) (by kernel_rfl) rfl
  · rcases br_some hf with ⟨h16, hf⟩ | ⟨h16, hf⟩
    · obtain ⟨x10, q17, hf⟩ := bind_some' hf
      rcases br_some hf with ⟨h18, hf⟩ | ⟨h18, hf⟩
      · obtain ⟨x11, q19, hf⟩ := bind_some' hf
        rcases br_some hf with ⟨h20, hf⟩ | ⟨h20, hf⟩
        · obtain ⟨x12, q21, hf⟩ := bind_some' hf
          replace hf := Option.some.inj hf
          subst hf
          exact toEnd_g allOk 7 [rz, ⟨[(6, aB x10), (13, aB x11), (16, aB x12)], [(2, true), (8, true), (15, true)], [], [], [(5, [(18, cL 5 T_api_Ban.c T_api_Ban.d []), (19, cL 7 T_api_Entry.c T_api_Entry.d [])]), (12, [(7, cL 10 T_api_Peer.c T_api_Peer.d [])])], [], []⟩] [false] [] [] [] (.c h10 (.c h16 (.c (g_doormansame_Op_ok b3.fOp (T_api_Op.mk (0 : Int) (0 : Int) (T_api_Loc.mk (0 : Int) (0 : Int) (0 : Int)) (0 : Int) (0 : Int) (T_api_Value.mk (0 : Int) (T_api_Peer.mk (T_api_End.mk (T_api_Addr.mk false (0 : Int) (0 : Int)) (0 : Int)) false (0 : Int) (T_api_Score.mk (0 : Int) (0 : Int)) (0 : Int) (0 : Int)) ([] : (List T_api_Ban)) ([] : (List T_api_Entry))) false) x10 q17) (.c h18 (.c (g_doormansame_Reply_ok b3.fReply (T_api_Reply.mk (0 : Int) (T_api_End.mk (T_api_Addr.mk false (0 : Int) (0 : Int)) (0 : Int)) v6 (0 : Int) ([] : (List T_api_Peer))) x11 q19) (.c h20 (.c (g_doormanlaw38_awake_ok  x12 q21) .n))))))) (by kernel_rfl) rfl
        · replace hf := Option.some.inj hf
          subst hf
          exact toEnd_g allOk 7 [rz, ⟨[(6, aB x10), (13, aB x11)], [(2, true), (8, true), (15, false)], [], [], [(5, [(18, cL 5 T_api_Ban.c T_api_Ban.d []), (19, cL 7 T_api_Entry.c T_api_Entry.d [])]), (12, [(7, cL 10 T_api_Peer.c T_api_Peer.d [])])], [], []⟩] [false] [] [] [] (.c h10 (.c h16 (.c (g_doormansame_Op_ok b3.fOp (T_api_Op.mk (0 : Int) (0 : Int) (T_api_Loc.mk (0 : Int) (0 : Int) (0 : Int)) (0 : Int) (0 : Int) (T_api_Value.mk (0 : Int) (T_api_Peer.mk (T_api_End.mk (T_api_Addr.mk false (0 : Int) (0 : Int)) (0 : Int)) false (0 : Int) (T_api_Score.mk (0 : Int) (0 : Int)) (0 : Int) (0 : Int)) ([] : (List T_api_Ban)) ([] : (List T_api_Entry))) false) x10 q17) (.c h18 (.c (g_doormansame_Reply_ok b3.fReply (T_api_Reply.mk (0 : Int) (T_api_End.mk (T_api_Addr.mk false (0 : Int) (0 : Int)) (0 : Int)) v6 (0 : Int) ([] : (List T_api_Peer))) x11 q19) (.c h20 .n)))))) (by kernel_rfl) rfl
      · replace hf := Option.some.inj hf
        subst hf
        exact toEnd_g allOk 7 [rz, ⟨[(6, aB x10)], [(2, true), (8, false)], [], [], [(5, [(18, cL 5 T_api_Ban.c T_api_Ban.d []), (19, cL 7 T_api_Entry.c T_api_Entry.d [])])], [], []⟩] [false] [] [] [] (.c h10 (.c h16 (.c (g_doormansame_Op_ok b3.fOp (T_api_Op.mk (0 : Int) (0 : Int) (T_api_Loc.mk (0 : Int) (0 : Int) (0 : Int)) (0 : Int) (0 : Int) (T_api_Value.mk (0 : Int) (T_api_Peer.mk (T_api_End.mk (T_api_Addr.mk false (0 : Int) (0 : Int)) (0 : Int)) false (0 : Int) (T_api_Score.mk (0 : Int) (0 : Int)) (0 : Int) (0 : Int)) ([] : (List T_api_Ban)) ([] : (List T_api_Entry))) false) x10 q17) (.c h18 .n)))) (by kernel_rfl) rfl
    · replace hf := Option.some.inj hf
      subst hf
      exact toEnd_g allOk 7 [rz, rB [(2, false)]] [false] [] [] [] (.c h10 (.c h16 .n)) (by kernel_rfl) rfl

/-- doorman/doormanlaw38.TapeCounts -/
def g_doormanlaw38_TapeCounts (a0 : (List T_api_Value)) : Option Bool :=
  (g_doormanlaw38_light ([] : (List T_api_Op)) a0).bind fun x1 =>
  bif (!x1) then
    (g_doormanlaw38_awake).bind fun x2 =>
    some x2
  else
    (g_tape_Play_29 a0).bind fun x3 =>
    (g_doormanref38_LockAll (T_doormanref38_Walk.mk a0 (0 : Int) (T_api_Op.mk (0 : Int) (0 : Int) (T_api_Loc.mk (0 : Int) (0 : Int) (0 : Int)) (0 : Int) (0 : Int) (T_api_Value.mk (0 : Int) (T_api_Peer.mk (T_api_End.mk (T_api_Addr.mk false (0 : Int) (0 : Int)) (0 : Int)) false (0 : Int) (T_api_Score.mk (0 : Int) (0 : Int)) (0 : Int) (0 : Int)) ([] : (List T_api_Ban)) ([] : (List T_api_Entry))) false) false) (3 : Int)).bind fun x4 =>
    (g_doormanref38_Reserve x4 (2 : Int) true).bind fun x5 =>
    (g_doormanref38_Move x5.1 (2 : Int) (-1 : Int) false).bind fun x6 =>
    (g_doormanref38_FreeAll x6 (3 : Int) true).bind fun x7 =>
    bif x5.2 then
      g_doormanlaw38_TapeCounts_c0   (1 : Int) x3 x7
    else
      g_doormanlaw38_TapeCounts_c0   (0 : Int) x3 x7

theorem g_doormanlaw38_TapeCounts_ok (a0 : (List T_api_Value)) (r : Bool) (hf : g_doormanlaw38_TapeCounts a0 = some r) : SCall Try.prog 8 [.one (cL 13 T_api_Value.c T_api_Value.d a0)] (.one (.lit (.bool r))) := by
  refine SCall.of Try.func8 rfl rfl rfl rfl fun S0 w0 => ?_
  unfold g_doormanlaw38_TapeCounts at hf
  obtain ⟨x1, q1, hf⟩ := bind_some' hf
  rcases br_some hf with ⟨h2, hf⟩ | ⟨h2, hf⟩
  · obtain ⟨x2, q3, hf⟩ := bind_some' hf
    replace hf := Option.some.inj hf
    subst hf
    exact toEnd_g allOk 8 [rz, rA [(1, aB x1)], rA [(0, aB x2)]] [true] [] [] [] (.c (show SCall Try.prog 19 [.one (.lit (.slice none 0 0)), .one (cL 13 T_api_Value.c T_api_Value.d a0)] (.one (.lit (.bool x1))) from ((g_doormanlaw38_light_ok ([] : (List T_api_Op)) a0 x1 q1).weak (.cons (.one (.nul _ _)) (.cons (.refl _) .nil)))) (.c h2 (.c (g_doormanlaw38_awake_ok  x2 q3) .n))) (by kernel_rfl) rfl
  · obtain ⟨x3, q4, hf⟩ := bind_some' hf
    obtain ⟨x4, q5, hf⟩ := bind_some' hf
    obtain ⟨x5, q6, hf⟩ := bind_some' hf
    obtain ⟨x6, q7, hf⟩ := bind_some' hf
    obtain ⟨x7, q8, hf⟩ := bind_some' hf
    rcases br_some hf with ⟨h9, hf⟩ | ⟨h9, hf⟩
    · exact toK_g allOk Post.ends 20 [rz, rA [(1, aB x1)], rA [(1, aG (T_tape_Turn.c x3))], ⟨[(2, aG (T_doormanref38_Walk.c x4)), (3, .r (.tup [(true, T_doormanref38_Walk.c x5.1), (false, cB x5.2)]) [])], [], [], [], [(1, [(20, cL 5 T_api_Ban.c T_api_Ban.d []), (21, cL 7 T_api_Entry.c T_api_Entry.d [])])], [], []⟩, rA [(1, aG (T_doormanref38_Walk.c x6)), (2, aG (T_doormanref38_Walk.c x7))], rz, rz, rz] [false, true] ⟨[], [], [], [], [], [3, 4, 6], [3, 4], []⟩ (.c (show SCall Try.prog 19 [.one (.lit (.slice none 0 0)), .one (cL 13 T_api_Value.c T_api_Value.d a0)] (.one (.lit (.bool x1))) from ((g_doormanlaw38_light_ok ([] : (List T_api_Op)) a0 x1 q1).weak (.cons (.one (.nul _ _)) (.cons (.refl _) .nil)))) (.c h2 (.c (g_tape_Play_29_ok a0 x3 q4) (.c (g_doormanref38_LockAll_ok (T_doormanref38_Walk.mk a0 (0 : Int) (T_api_Op.mk (0 : Int) (0 : Int) (T_api_Loc.mk (0 : Int) (0 : Int) (0 : Int)) (0 : Int) (0 : Int) (T_api_Value.mk (0 : Int) (T_api_Peer.mk (T_api_End.mk (T_api_Addr.mk false (0 : Int) (0 : Int)) (0 : Int)) false (0 : Int) (T_api_Score.mk (0 : Int) (0 : Int)) (0 : Int) (0 : Int)) ([] : (List T_api_Ban)) ([] : (List T_api_Entry))) false) false) (3 : Int) x4 q5) (.c (g_doormanref38_Reserve_ok x4 (2 : Int) true x5 q6) (.c (g_doormanref38_Move_ok x5.1 (2 : Int) (-1 : Int) false x6 q7) (.c (g_doormanref38_FreeAll_ok x6 (3 : Int) true x7 q8) (.c h9 .n)))))))) (by kernel_rfl) (g_doormanlaw38_TapeCounts_c0_ok S0 w0    (1 : Int) x3 x7 r hf)
    · exact toK_g allOk Post.ends 20 [rz, rA [(1, aB x1)], rA [(1, aG (T_tape_Turn.c x3))], ⟨[(2, aG (T_doormanref38_Walk.c x4)), (3, .r (.tup [(true, T_doormanref38_Walk.c x5.1), (false, cB x5.2)]) [])], [], [], [], [(1, [(20, cL 5 T_api_Ban.c T_api_Ban.d []), (21, cL 7 T_api_Entry.c T_api_Entry.d [])])], [], []⟩, rA [(1, aG (T_doormanref38_Walk.c x6)), (2, aG (T_doormanref38_Walk.c x7))], rz, rz] [false, false] ⟨[], [], [], [], [], [3, 4, 6], [3, 4], []⟩ (.c (show SCall Try.prog 19 [.one (.lit (.slice none 0 0)), .one (cL 13 T_api_Value.c T_api_Value.d a0)] (.one (.lit (.bool x1))) from ((g_doormanlaw38_light_ok ([] : (List T_api_Op)) a0 x1 q1).weak (.cons (.one (.nul _ _)) (.cons (.refl _) .nil)))) (.c h2 (.c (g_tape_Play_29_ok a0 x3 q4) (.c (g_doormanref38_LockAll_ok (T_doormanref38_Walk.mk a0 (0 : Int) (T_api_Op.mk (0 : Int) (0 : Int) (T_api_Loc.mk (0 : Int) (0 : Int) (0 : Int)) (0 : Int) (0 : Int) (T_api_Value.mk (0 : Int) (T_api_Peer.mk (T_api_End.mk (T_api_Addr.mk false (0 : Int) (0 : Int)) (0 : Int)) false (0 : Int) (T_api_Score.mk (0 : Int) (0 : Int)) (0 : Int) (0 : Int)) ([] : (List T_api_Ban)) ([] : (List T_api_Entry))) false) false) (3 : Int) x4 q5) (.c (g_doormanref38_Reserve_ok x4 (2 : Int) true x5 q6) (.c (g_doormanref38_Move_ok x5.1 (2 : Int) (-1 : Int) false x6 q7) (.c (g_doormanref38_FreeAll_ok x6 (3 : Int) true x7 q8) (.c h9 .n)))))))) (by kernel_rfl) (g_doormanlaw38_TapeCounts_c0_ok S0 w0    (0 : Int) x3 x7 r hf)
end Go.Proofs.Ytnbkjjoodmmneaa
