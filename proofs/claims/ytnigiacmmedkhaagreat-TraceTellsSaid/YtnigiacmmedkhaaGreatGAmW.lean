import Derived.Test.YtnigiacmmedkhaaGreatGAmU
import Derived.Lib.LazyBuf
namespace Go.Proofs.YtnigiacmmedkhaaGreat
open Go.RowKit
set_option linter.unusedSimpArgs false
set_option linter.unusedVariables false
inductive WkC:C->C->Prop
 |refl (c:C):WkC c c
 |nul (sz:Nat) (cell:Nat->Nat->C):WkC (.sl sz 0 cell) (.lit (.slice none 0 0))
inductive WkL:List C->List C->Prop
 |nil:WkL [] []
 |cons {c c':C} {l l':List C}:WkC c c'->WkL l l'->WkL (c :: l) (c' :: l')
inductive WkV:V->V->Prop
 |refl (v:V):WkV v v
 |one {c c':C}:WkC c c'->WkV (.one c) (.one c')
 |agg {l l':List C}:WkL l l'->WkV (.agg l) (.agg l')
inductive WkA:List V->List V->Prop
 |nil:WkA [] []
 |cons {v v':V} {l l':List V}:WkV v v'->WkA l l'->WkA (v :: l) (v' :: l')
theorem WkC.rep{c c':C}(h:WkC c c'){S:Nat->Prop}{w:World}{m:Mp}{x:Value}(hx:RepC S w m c' x):RepC S w m c x:=by
 cases h with
 |refl=>exact hx
 |nul sz cell=>
  cases hx;exact .sl 0 0 (fun _ _=>undef) (Nat.le_refl _) (fun h=>absurd h (by simp)) (fun i j h=>absurd h (by simp)) (fun i j h=>absurd h (by simp)) (fun i j h=>absurd h (by simp))
theorem WkL.len{l l':List C}(h:WkL l l'):l.length=l'.length:=by
 induction h with
 |nil=>rfl
 |cons _ _ ih=>simp[ih]
theorem WkL.get{l l':List C}(h:WkL l l'):∀(j:Nat)(c:C),l[j]?=some c->∃c',l'[j]?=some c'/\WkC c c':=by
 induction h with
 |nil=>intro j c h;simp at h
 |cons hc _ ih=>
  intro j c h;cases j with
  |zero=>cases h;exact⟨_,rfl,hc⟩
  |succ j=>simpa using ih j c (by simpa using h)
theorem WkV.rep{v v':V}(h:WkV v v'){S:Nat->Prop}{w:World}{m:Mp}{x:Value}(hx:RepV S w m v' x):RepV S w m v x:=by
 cases h with
 |refl=>exact hx
 |one hc=>exact hc.rep (show RepC S w m _ x from hx)
 |agg hl=>
  obtain⟨xs,rfl,h1,h2,h3⟩:=hx;refine⟨xs,rfl,by rw[h1,hl.len],fun j c hc=>?_,h3⟩;obtain⟨c',hc',hw⟩:=hl.get j c hc;obtain⟨y,hy,hr⟩:=h2 j c' hc';exact⟨y,hy,hw.rep hr⟩
theorem WkA.len{l l':List V}(h:WkA l l'):l.length=l'.length:=by
 induction h with
 |nil=>rfl
 |cons _ _ ih=>simp[ih]
theorem WkA.get{l l':List V}(h:WkA l l'):∀(j:Nat)(c:V),l[j]?=some c->∃c',l'[j]?=some c'/\WkV c c':=by
 induction h with
 |nil=>intro j c h;simp at h
 |cons hc _ ih=>
  intro j c h;cases j with
  |zero=>cases h;exact⟨_,rfl,hc⟩
  |succ j=>simpa using ih j c (by simpa using h)
theorem Zgo.weak{P:Program}{f:FuncId}{args dG:List V}{res:V}(h:Zgo P f args res)(hw:WkA args dG):Zgo P f dG res:=
 ⟨h.1,fun S w vs hS hr=>h.2 S w vs hS ⟨by rw[hr.1,hw.len],fun j v hj=>by
  obtain⟨v',h1,h2⟩:=hw.get j v hj
  obtain⟨x,h3,h4⟩:=hr.2 j v' h1
  exact⟨x,h3,h2.rep h4⟩⟩⟩
theorem Zix.weak{P:Program}{f:FuncId}{h0 h1:List (Nat×B)}{args dG:List V}{res:V}(h:Zix P f h0 args h1 res)(hw:WkA args dG):Zix P f h0 dG h1 res:=
 ⟨h.1,fun no S m w vs hS bt hrep hr=>h.2 no S m w vs hS bt hrep ⟨by rw[hr.1,hw.len],fun j v hj=>by
  obtain⟨v',h1,h2⟩:=hw.get j v hj
  obtain⟨x,h3,h4⟩:=hr.2 j v' h1
  exact⟨x,h3,h2.rep h4⟩⟩⟩
end Go.Proofs.YtnigiacmmedkhaaGreat
