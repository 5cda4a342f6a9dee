import Derived.Test.YtdjfoojllbfcgaaGreatJAmU
import Derived.Lib.LazyBuf
namespace Go.Proofs.YtdjfoojllbfcgaaGreat
open Go.RowKit
set_option linter.unusedSimpArgs false
set_option linter.unusedVariables false
theorem ZrY{P:Program}{f:FuncId}{sz n:Nat}{c:Nat->Nat->C}{h1:List (Nat×B)}{res:V}(hf:FnOk P f)
  (iD:n=0->∀cap,Zdi P f [] [.one (.lit (.slice none 0 cap))] h1 res) (lH:n=0->∀x cap,Zdi P f [] [.one (.lit (.slice (some x) 0 cap))] h1 res) (jT:0<n->Zdi P f [] [.one (.sl sz n c)] h1 res) :
  Zdi P f [] [.one (.sl sz n c)] h1 res:=by
 rcases Nat.eq_zero_or_pos n with h0|h0
 .refine⟨hf,fun no S m w vs hS aT hrep hra=>?_⟩;obtain⟨hl,hra⟩:=hra;obtain⟨v,hv,hr⟩:=hra 0 _ rfl;have bM:vs=[v]:=by
   match vs,hl with
   | [y],_=>simpa using hv
  subst bM;cases hr with
  |sl b off vals hcap ha hc h1' hr=>
   rename_i a cap;subst h0;cases a with
   |some x0=>exact(lH rfl x0 cap).2 no S m w _ hS aT hrep ⟨rfl,fun j v hj=>by
     match j,hj with
     | 0,hj=>cases hj;exact⟨_,rfl,RepC.lit⟩⟩
   |none=>exact(iD rfl cap).2 no S m w _ hS aT hrep ⟨rfl,fun j v hj=>by
     match j,hj with
     | 0,hj=>cases hj;exact⟨_,rfl,RepC.lit⟩⟩
 .exact jT h0
end Go.Proofs.YtdjfoojllbfcgaaGreat
