import Derived.Test.YtmnloegcpaahcaaGreatBAmY
import Derived.Lib.AppendZerosOnto
import Derived.Lib.Overlaps
import Derived.Laws.IdiomCopy
import Derived.Laws.Externs
import Derived.WalkKit
namespace Go.Proofs.YtmnloegcpaahcaaGreat
open Go.RowKit Go.Lib
set_option linter.unusedSimpArgs false
set_option linter.unusedVariables false
def ZrE{α:Type}(S:Nat->Prop)(w:World)(K:Nat)(enc:α->List C)(d:α)(l:List α)(xs:List Value):Prop:=xs.length=l.length*K/\(∀i j,i<l.length->j<K->∃x,xs[i*K+j]?=some x/\RepC S w ZcV (Zam enc d l i j) x)/\∀x∈xs,x.oneCell'=true
theorem ZrE.drop{α:Type}{S:Nat->Prop}{w:World}{K:Nat}{enc:α->List C}{d:α}{l:List α}{xs:List Value}(h:ZrE S w K enc d l xs){n:Nat}(hn:n<=l.length):ZrE S w K enc d (l.drop n) (xs.drop (n*K)):=by
 obtain⟨a,b,c⟩:=h;refine⟨by simp[a,Nat.sub_mul],fun i j hi hj=>?_,fun x hx=>c x (List.mem_of_mem_drop hx)⟩;simp only[List.length_drop]at hi;obtain⟨x,h1,h2⟩:=b (n+i) j (by omega) hj;refine⟨x,by rw[List.getElem?_drop,<-h1];congr 1;rw[Nat.add_mul];omega,?_⟩;simp only[Zam]at h2 ⊢;rw[show (l.drop n).getD i d=l.getD (n+i) d by simp only[List.getD_eq_getElem?_getD];rw[List.getElem?_drop]];exact h2
theorem ZrE.keep{α:Type}{S:Nat->Prop}{w w':World}{K:Nat}{enc:α->List C}{d:α}{l:List α}{xs:List Value}(h:ZrE S w K enc d l xs)(hw:Zgp S w w'):ZrE S w' K enc d l xs:=
 ⟨h.1,fun i j hi hj=>by obtain⟨x,h1,h2⟩:=h.2.1 i j hi hj;exact⟨x,h1,h2.keep hw fun _ h=>h⟩,h.2.2⟩
theorem ZrE.of{α:Type}{S:Nat->Prop}{w:World}{m:Mp}{mb:Value}{E:TypeId}{K:Nat}{enc:α->List C}{d:α}{l:List α}(h:RepB S w m mb (.rows E K l.length (Zam enc d l))) :
  ∃xs,w.ownsRow 0 E K mb l.length xs/\ZrE S w K enc d l xs:=by
 obtain⟨xs,h1,h2,h3⟩:=h;exact⟨xs,h1,h1.1,h2,h3⟩
theorem Zxq{α:Type}{no S:Nat->Prop}{m:Mp}{w w':World}{E:TypeId}{K:Nat}{enc:α->List C}{d:α}{l:List α}{xs:List Value}{v:Value}(hS:∀b,S b->b<w.heap.size)(bh:∀k,no k->k<w.heap.size)
  (bf:w'.ownsRow 0 E K v l.length xs) (c5:ZrE S w K enc d l xs) (hb:Bel no w w') (cZ:Zgp S w w') (jL:∀k,v.ownBlock=some k->¬S k/\¬no k/\k<w'.heap.size) (hL:∀b,m.L b->no b) :
  ∃x S' m',Ending.returned v=.returned x/\Goes no S S' w w'/\(∀b,S' b->b<w'.heap.size)/\Zke no S' m' [(99999,.rows E K l.length (Zam enc d l))] w'/\RepV S' w' m' (.one (.osl 99999 l.length)) x/\Pins m' m:=by
 have hget:∀{b:B}{id:Nat},hget [(99999,B.rows E K l.length (Zam enc d l))] id=some b->id=99999/\b=.rows E K l.length (Zam enc d l):=by
  intro b id h;rw[Zbh]at h;split at h
  .rename_i e;cases h;exact⟨e.symm,rfl⟩
  .cases h
 obtain⟨fd,av,cv,rfl,hle⟩:=ZBw bf;have f5:l.length=0\/∃b,av=some ⟨b,0,none⟩:=by
  rcases bf.2 with⟨h3,h4⟩|⟨g,gk,cur,h3,_⟩
  .exact .inl h4
  .cases h3;exact .inr ⟨g,rfl⟩
 refine⟨_,S,⟨fun id=>if id=99999 then .slice av l.length cv else m id,m.L⟩,rfl,⟨hb,fun _ h=>h,fun _ h=>.inl h⟩,fun b h=>Nat.lt_of_lt_of_le (hS b h) hb.size,⟨fun id b' h=>?_,fun id b' h k hk=>?_,fun i j b1 b2 hne h1 h2=>?_,hL⟩,RepC.osl (by simp) f5 hle,fun id dM=>by simp only[Zjp]at dM;show (if id=99999 then _ else _)=_;rw[if_neg (by omega)],rfl⟩
 .obtain⟨rfl,rfl⟩:=hget h;exact⟨xs,bf,fun i j hi hj=>(c5.keep cZ).2.1 i j hi hj,c5.2.2⟩
 .obtain⟨rfl,rfl⟩:=hget h;exact jL k (by rw[fd];exact hk)
 .exact absurd ((hget h1).1.trans (hget h2).1.symm) hne
theorem ZGI{α:Type}{P:Program}{F:FuncId}{E:TypeId}{K:Nat}(hf:FnOk P F)(n:Nat)
  (lz:n=0->∀w,Calls P F #[.slice none 0 0,.int .i64 (n:Int)] w fun e w'=>e=.returned (.slice none 0 0)/\w'=w)
  (grow:0<n->∀w,Calls P F #[.slice none 0 0,.int .i64 (n:Int)] w fun e w'=>∃(G:Nat)(cs:Array Value),e=.returned (.slice (some ⟨w.heap.size,0,none⟩) 0 G)/\w'=w.drew.alloc (.cells cs E)/\cs.size=G*K/\G<=maxLen)
  {enc:α->List C} {d:α}:ZcC P F [] [.one (.lit (.slice none 0 0)),.one (.lit (.int .i64 (n:Int)))] [(99999,.rows E K ([]:List α).length (Zam enc d ([]:List α)))] (.one (.osl 99999 ([]:List α).length)):=by
 refine⟨hf,fun no S' m w vs hS bh hrep a6=>?_⟩;obtain⟨hl,a6⟩:=a6;obtain⟨x0,ij,hr0⟩:=a6 0 _ rfl;obtain⟨x1,iZ,hr1⟩:=a6 1 _ rfl;have cQ:vs=[x0,x1]:=by
  match vs,hl with
  | [a,b],_=>cases ij;cases iZ;rfl
 subst cQ;cases hr0;cases hr1;have hz:∀w,ZrE S' w K enc d ([]:List α) []:=fun w=>⟨by simp,fun i j hi=>absurd hi (by simp),by simp⟩;rcases Nat.eq_zero_or_pos n with h0|h0
 .refine(lz h0 w).mono ?_;rintro e w' ⟨rfl,rfl⟩;exact Zxq (hL:=hrep.lno) hS bh ⟨by simp,.inl ⟨rfl,rfl⟩⟩ (hz _) ⟨rfl,rfl,rfl,Nat.le_refl _,fun _ _=>rfl,Nat.le_refl _⟩ (fun _ _=>rfl) (fun k hk=>by cases hk)
 .refine(grow h0 w).mono ?_;rintro e w' ⟨G,cs,rfl,rfl,h1,h2⟩;have cK:∀k,k<w.heap.size->(w.drew.alloc (.cells cs E)).heap[k]?=w.heap[k]?:=fun k hk=>by
   show (w.heap.push (.cells cs E))[k]?=w.heap[k]?;rw[Array.getElem?_push,if_neg (by omega)]
  have cC:(w.drew.alloc (.cells cs E)).heap[w.heap.size]?=some (.cells cs E):=by
   show (w.heap.push (.cells cs E))[w.heap.size]?=_;simp
  refine Zxq (hL:=hrep.lno) hS bh (xs:=[]) ⟨by simp,.inr ⟨w.heap.size,G,cs,rfl,Nat.zero_le _,cC,Nat.zero_le _,h2,h1,by simp⟩⟩ (hz _) ⟨rfl,rfl,rfl,by show w.heap.size<=(w.heap.push _).size;simp,fun k hk=>cK k (bh k hk),Nat.le_succ _⟩ (fun k hk=>cK k (hS k hk)) ?_;intro k hk;obtain rfl:w.heap.size=k:=Option.some.inj hk;exact⟨fun hs=>Nat.lt_irrefl _ (hS _ hs),fun hs=>Nat.lt_irrefl _ (bh _ hs),(Array.getElem?_eq_some_iff.1 cC).1⟩
end Go.Proofs.YtmnloegcpaahcaaGreat
