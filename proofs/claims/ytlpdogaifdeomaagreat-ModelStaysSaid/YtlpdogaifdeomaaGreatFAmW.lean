import Derived.Test.YtlpdogaifdeomaaGreatFAmU
import Derived.Lib.LazyBuf
namespace Go.Proofs.YtlpdogaifdeomaaGreat
open Go.RowKit
set_option linter.unusedSimpArgs false
set_option linter.unusedVariables false
theorem ZpW{P:Program}{f:FuncId}{sz n:Nat}{c:Nat->Nat->C}{h1:List (Nat×B)}{res:V}(hf:FnOk P f)
  (eY:n=0->∀cap,Zdh P f [] [.one (.lit (.slice none 0 cap))] h1 res) (lY:n=0->∀x cap,Zdh P f [] [.one (.lit (.slice (some x) 0 cap))] h1 res) (j0:0<n->Zdh P f [] [.one (.sl sz n c)] h1 res) :
  Zdh P f [] [.one (.sl sz n c)] h1 res:=by
 rcases Nat.eq_zero_or_pos n with h0|h0
 .refine⟨hf,fun no S m w vs hS bu hrep hra=>?_⟩;obtain⟨hl,hra⟩:=hra;obtain⟨v,hv,hr⟩:=hra 0 _ rfl;have bW:vs=[v]:=by
   match vs,hl with
   | [y],_=>simpa using hv
  subst bW;cases hr with
  |sl b off vals hcap ha hc h1' hr=>
   rename_i a cap;subst h0;cases a with
   |some x0=>exact(lY rfl x0 cap).2 no S m w _ hS bu hrep ⟨rfl,fun j v hj=>by
     match j,hj with
     | 0,hj=>cases hj;exact⟨_,rfl,RepC.lit⟩⟩
   |none=>exact(eY rfl cap).2 no S m w _ hS bu hrep ⟨rfl,fun j v hj=>by
     match j,hj with
     | 0,hj=>cases hj;exact⟨_,rfl,RepC.lit⟩⟩
 .exact j0 h0
end Go.Proofs.YtlpdogaifdeomaaGreat
