import Derived.Test.YtmcnjofonpkfmaaGreatHAmW
import Derived.OpenShut
import Derived.Deep.Slices
import Derived.WideShapes
import Derived.Lib.AppendZerosOnto
import Derived.Lib.Overlaps
import Derived.Laws.IdiomCopy
import Derived.Laws.Externs
import Derived.Shelf.Spec.SlicesInsertGrow
import Derived.Lib.Hide
import Derived.Shelf.SlSortCmp.NoneTotal
import Derived.Test.YtmcnjofonpkfmaaGreatProg
import Derived.Shelf.Spec.SlicesGrow
import Derived.Recover
open Array renaming getElem?_toList->Tv,replicate->VH,getD_eq_getD_getElem?->T',getElem?_eq_some_iff->V5,getElem?_append_left->VI,getElem?_eq_getElem->Wz,getElem?_eq_none->WB,getElem?_modify->WC
open Bool renaming true->Tl,false->Tm,and_eq_true->VQ
open Go.Builtin renaming copy_->Wr,append_->Tu,firstCells->Uk,zeroCells->UU,lenOf->Ux
open Go.Ending renaming returned->Wt
open Go.Proofs renaming ltOf->Wo
open Go.IntKind renaming wrap_i64->Wv,i64->TZ
open List renaming getElem?_eq_getElem->Va,length_append->TL,mem_append->T9,length_take->TQ,getElem?_append_right->TM,getD_eq_getElem?_getD->Ty,getElem?_eq_none->Wp,getElem?_take->Ur,getElem?_append_left->Ud,length_drop->Uv,size_toArray->Wq,ext_getElem?->UW,append_assoc->Vl,getElem?_map->TN,flatten_cons->Ww,map_cons->UG,getElem?_take_of_lt->WA,take_append_drop->WE,mem_cons_of_mem->U1,mem_cons_self->U0,getElem?_drop->Us,take_take->UD,mem_map->Uf,length->S7
open Nat renaming mul_le_mul_right->Tf,lt_of_lt_of_le->TC,le_of_ble_eq_true->Td,sub_mul->Ws,add_mul->TJ,blt->T6,le_trans->Uh,ble->TB,beq->Tg,zero_le->UK,mul_comm->Ug,not_lt_zero->Wy,min->WD,min_def->WG,le_succ->UN,le_refl->Tq,div_lt_of_lt_mul->WH,div_add_mod->WT,zero_add->TX,mod_lt->Ub
open Go.Oper renaming upon->Wx,wp->Vj
open Option renaming some->S8,none->S_,getD_some->T4
open Go.Region renaming wanted->VF
open Go.Result renaming andThen_ok->Tj
open Go.Sort renaming ahead->Wu
open Go.Proofs.Tryz renaming underlying9->WI,underlying4->WJ,underlying3->WK,underlying0->WL,zeroValue9->WO,zeroValue4->WQ,zeroValue3->WR,zeroValue0->WS,sizeOf9->WV,sizeOf4->WW,sizeOf3->WX,sizeOf0->WY,isAgg9->WZ,isAgg4->W0,isAgg3->W5,isAgg0->W6,prog->W8
namespace Go.Proofs.YtmcnjofonpkfmaaGreat
open Go.RowKit Go.Lib Go.Shelf Go.Sort
set_option linter.unusedSectionVars false
set_option linter.unusedSimpArgs false
set_option linter.unusedVariables false
section
inductive Ev where
 |i (f:Nat) (p:Prop)
 |c (p:Prop) (v:V)
 |h (p:Prop) (h1:List (Nat×B)) (v:V)
 |b (x v:Bool)
 |f (p:Prop)
 |x (k:Nat) (ra:RA)
@[reducible] def Ev.one:Ev->Prop
 | .c q _=>q
 | .h q _ _=>q
 | .b y z=>y=z
 | .f q=>q
 | .i _ q=>q
 | .x _ _=>True
def vl:S5 Ev->S5 Prop->S5 Prop | [],l=>l | .c p _ :: r,l=>vl r (p :: l) | .h p _ _ :: r,l=>vl r (p :: l) | .b x v :: r,l=>vl r ((x=v) :: l) | .f p :: r,l=>vl r (p :: l) | .i _ p :: r,l=>vl r (p :: l) | .x _ _ :: r,l=>vl r l
def Bq:S5 Ev->S5 Ev->S5 Ev | [],l=>l | .x _ _ :: r,l=>Bq r l|e :: r,l=>Bq r (e :: l)
def ade(a b:RA):RA:=⟨a.an++b.an,a.bl++b.bl,a.fz++b.fz,a.ct++b.ct,a.dn++b.dn,a.rl++b.rl,a.hc++b.hc⟩
def Q9(k:Nat):S5 Ev->RA
 | []=>rz
 | .x j ra :: r=>match Tg j k with
  |true=>ade (Q9 k r) ra
  |false=>Q9 k r
 |_ :: r=>Q9 k r
def Nu:S5 Ev->S6 (Ev×S5 Ev) | .c p v :: r=>S8 (.c p v,r) | .h p h1 v :: r=>S8 (.h p h1 v,r) | .f _ :: r=>Nu r|_=>S_
def ZMO:S6 Nat->Nat->S6 Nat|some k,_=>S8 k|none,i=>S8 i
def Nt:S5 Ev->S6 (Nat×S5 Ev) | .i f _ :: r=>S8 (f,r) | .f _ :: r=>Nt r|_=>S_
def Nv:S5 Ev->S6 (Bool×S5 Ev) | .b _ v :: r=>S8 (v,r) | .f _ :: r=>Nv r|_=>S_
def alL(o:Oper):Bool:=match o.op with
 | .call { callee:=.value _,.. }=>Tl
 |_=>Tm
def adj(o:Oper):Bool:=match o.op with
 | .call { callee:=.invoke _ _,.. }=>Tl
 |_=>Tm
def ZPZ(x:RA)(i:Nat):S5 (Nat×Nat):=match rD x.hc i with
 |some ha=>ha.qD
 |none=>[(100000,100000)]
def acy(x:RA)(i:Nat):S5 (Nat×Nat):=match rD x.hc i with
 |some ha=>ha.new
 |none=>[]
def ZOD(i:Nat):S5 Oper->Bool
 | []=>Tm
 |o :: r=>match o.guard with
  |some (j,_)=>match Tg j i with
   |true=>Tl
   |false=>ZOD i r
  |none=>ZOD i r
def adc(bl:S5 (Nat×Bool))(sk:S5 Nat)(o:Oper):Bool:=match o.guard with
 |none=>Tm
 |some (j,w)=>match vu j sk with
  |true=>Tl
  |false=>match rD bl j,w with
   |some Tl,Tm=>Tl
   |some Tm,Tl=>Tl
   |_,_=>Tm
def QZ(x:RA):Nat->S5 Oper->S5 Ev->S5 (Nat×sF)->S5 (Nat×Bool)->S5 (Nat×HA)->S5 Nat->S6 Nat->RA×S5 Ev×S6 Nat
 |_,[],ev,an,bl,hc,_,q=>(⟨x.an++an,x.bl++bl,x.fz,x.ct,x.dn,x.rl,hc++x.hc⟩,ev,q)
 |i,o :: r,ev,an,bl,hc,sk,q=>match adc bl sk o with
  |true=>QZ x (i+1) r ev an bl hc (i :: sk) q
  |false=>match (match alL o with
    |true=>match Nu ev with
     |some (.c _ v,zn)=>((i,.r v []) :: an,hc,zn,q)
     |some (.h _ h1 v,zn)=>(an,(i,⟨ZPZ x i,acy x i,h1,v⟩) :: hc,zn,q)
     |_=>(an,hc,ev,ZMO q i)
    |false=>match adj o with
     |true=>match Nu ev with
      |some (.h _ h1 v,zn)=>match Nt zn with
       |some (f,Rj)=>((i,.id f) :: an,(i,⟨ZPZ x i,acy x i,h1,v⟩) :: hc,Rj,q)
       |none=>(an,hc,zn,q)
      |_=>match Nt ev with
       |some (f,Rj)=>((i,.id f) :: an,hc,Rj,ZMO q i)
       |none=>(an,hc,ev,ZMO q i)
     |false=>(an,hc,ev,q))with
   | (an',D_,zn,q')=>match ZOD i r with
    |true=>match Nv zn with
     |some (b,Rj)=>QZ x (i+1) r Rj an' ((i,b) :: bl) D_ sk q'
     |none=>QZ x (i+1) r zn an' bl D_ sk q'
    |false=>QZ x (i+1) r zn an' bl D_ sk q'
def ZYU(pF:S5 It)(k:Nat)(ev all:S5 Ev):S5 RA×S5 Bool×Nat×S5 Ev:=match pF with
 | .code (.region _ ops _) :: _=>match QZ (Q9 k all) 0 ops.toList ev [] [] [] [] S_ with
  | (ra,zn,_)=>([ra],[],k+1,zn)
 | .code (.cond _ _ _) :: _=>match Nv ev with
  |some (b,zn)=>([],[b],k,zn)
  |none=>([],[],k,ev)
 |_=>([],[],k,ev)
def QN:S5 It->Bool | []=>Tl | .code .ret :: _=>Tl|_=>Tm
def wD(P:Program)(N:Nat)(T:qP)(all:S5 Ev):Nat->Nat->S5 It->St->S5 Ev->S6 (S5 It×St×S5 Prop)
 | 0,_,pF,st,_=>S8 (pF,st,[])
 |n+1,k,pF,st,ev=>match QN pF with
  |true=>S8 (pF,st,[])
  |false=>match ZYU pF k ev all with
   | (sf,bs,k',zn)=>match ZTy P N T pF st sf bs with
    |none=>S_
    |some (Jo,st1,_,_,o1)=>match wD P N T all n k' Jo st1 zn with
     |none=>S_
     |some (Rb,st2,o2)=>S8 (Rb,st2,o1++o2)
class Tb (P:Program) (T:outParam qP):Prop where
 ok:zG P T
structure Zw where
 S:Nat->Prop
 w:t_
def rQ(P:Program)(N:Nat)(z:Zw){R:Type}(Q:R->Exit->Act->World->Prop)(pF:S5 It)(st:St)(acc:S5 Ev)(o:S6 R):Prop:=yG (vl acc [])->∀r,o=S8 r->Good P N z.S z.w (Q r) pF st
class o0 {ρ:Type} (o:Option ρ) (ev:outParam (ρ->Ev)):Prop where
 ok:∀{x},o=S8 x->(ev x).one
class pC {ρ:Type} (o:Option ρ) (ev:outParam (ρ->Ev)):Prop where
 ok:∀{x},o=S8 x->(ev x).one
theorem Ei:∀(acc:S5 Ev)(l:S5 Prop),yG (vl acc l)↔yG (vl acc [])/\yG l
 | [],l=>by simp[vl,yG]
 | .c p v :: r,l=>by simp only[vl];rw[Ei r,Ei r [p]];simp only[yG];grind
 | .h p h1 v :: r,l=>by simp only[vl];rw[Ei r,Ei r [p]];simp only[yG];grind
 | .b x v :: r,l=>by simp only[vl];rw[Ei r,Ei r [x=v]];simp only[yG];grind
 | .f p :: r,l=>by simp only[vl];rw[Ei r,Ei r [p]];simp only[yG];grind
 | .i _ p :: r,l=>by simp only[vl];rw[Ei r,Ei r [p]];simp only[yG];grind
 | .x k ra :: r,l=>by exact Ei r l
theorem wi{acc:S5 Ev}{e:Ev}(h:yG (vl acc []))(he:e.one):yG (vl (e :: acc) []):=by
 cases e<;>simp only[vl]<;>simp only[Ev.one]at he<;>first|exact h | (rw[Ei];exact⟨h,he,trivial⟩)
section
variable {P:Program} {N:Nat} {z:Zw} {R:Type} {Q:R->Exit->Act->World->Prop} {pF:S5 It} {st:St} {acc:S5 Ev}
variable{o:S6 R}{ρ α:Type}{k:ρ->S6 R}{ev:ρ->Ev}{p:Prop}{n:Int}
theorem kC{o:S6 ρ}[q:o0 o ev](h:∀x,rQ P N z Q pF st (ev x :: acc) (k x)):rQ P N z Q pF st acc (o.bind k):=λha r hr=>by
 obtain⟨x,h1,h2⟩:=vC hr
 exact h x (wi ha (q.ok h1)) r h2
theorem f'{o:S6 ρ}[q:o0 o ev](h:∀{x},rQ P N z Q pF st (ev x :: acc) (k x)):rQ P N z Q pF st acc (o.bind k):=kC λ_=>h
theorem kCq{o:S6 ρ}[q:o0 o ev](h:∀x,o=S8 x->rQ P N z Q pF st (ev x :: acc) (k x)):rQ P N z Q pF st acc (o.bind k):=λha r hr=>by
 obtain⟨x,h1,h2⟩:=vC hr
 exact h x h1 (wi ha (q.ok h1)) r h2
theorem kDq{o:S6 ρ}[q:pC o ev](n i:Nat)(qD new:S5 (Nat×Nat))(h:∀x,o=S8 x->rQ P N z Q pF st (.x n ⟨[],[],[],[],[],[],[(i,⟨qD,new,[],.one .oF⟩)]⟩ :: ev x :: acc) (k x)):rQ P N z Q pF st acc (o.bind k):=λha r hr=>by
 obtain⟨x,h1,h2⟩:=vC hr
 exact h x h1 (wi (e:=.x _ _) (wi ha (q.ok h1)) trivial) r h2
theorem kD{o:S6 ρ}[q:pC o ev](n i:Nat)(qD new:S5 (Nat×Nat))(h:∀x,rQ P N z Q pF st (.x n ⟨[],[],[],[],[],[],[(i,⟨qD,new,[],.one .oF⟩)]⟩ :: ev x :: acc) (k x)):rQ P N z Q pF st acc (o.bind k):=kDq n i qD new λx _=>h x
theorem kE{o:S6 ρ}(h:∀x,o=S8 x->rQ P N z Q pF st acc (k x)):rQ P N z Q pF st acc (o.bind k):=λha r hr=>by
 obtain⟨x,h1,h2⟩:=vC hr
 exact h x h1 ha r h2
theorem kB{c:Bool}{a b:S6 R}(h1:rQ P N z Q pF st (.b c Tl :: acc) a)(h2:rQ P N z Q pF st (.b c Tm :: acc) b):rQ P N z Q pF st acc (bif c then a else b):=λha r hr=>by
 rcases Dk hr with⟨h,hr⟩|⟨h,hr⟩
 .exact h1 (wi (e:=.b _ _) ha h) r hr
 .exact h2 (wi (e:=.b _ _) ha h) r hr
theorem kN[Decidable p]{k:S6 R}(h:rQ P N z Q pF st (.f p :: acc) k):rQ P N z Q pF st acc (f_ p k):=λha r hr=>by
 obtain⟨h1,hr⟩:=yg hr
 exact h (wi (e:=.f _) ha h1) r hr
theorem sB[Decidable p]{k:S6 R}(h:p->rQ P N z Q pF st (.f p :: acc) k):rQ P N z Q pF st acc (f_ p k):=λha r hr=>by
 obtain⟨h1,hr⟩:=yg hr
 exact h h1 (wi (e:=.f _) ha h1) r hr
theorem uU[Decidable p]{k:S6 R}(h:p->rQ P N z Q pF st acc k):rQ P N z Q pF st acc (f_ p k):=λha r hr=>by
 obtain⟨h1,hr⟩:=yg hr
 exact h h1 ha r hr
theorem kQ(n i:Nat){f:Sem Value}{v:Bool}(hp:∀w,f.run P w=.ok (.bool v) w)(h:rQ P N z Q pF st (.x n (rA [(i,aB v)]) :: .f (∀w,f.run P w=.ok (.bool v) w) :: acc) o):rQ P N z Q pF st acc o:=λha r hr=>h (wi (e:=.x _ _) (wi (e:=.f _) ha hp) trivial) r hr
theorem kI{k:Int}{a b:S6 R}(h1:n=k->rQ P N z Q pF st acc a)(h2:n≠k->rQ P N z Q pF st acc b):rQ P N z Q pF st acc (BH n k a b):=λha r hr=>by
 rcases ZZp hr with⟨h,hr⟩|⟨h,hr⟩
 .exact h1 h ha r hr
 .exact h2 h ha r hr
theorem D8{a b:S6 R}(h:0<=n/\n<((2:Nat):Int))(h1:n=0->rQ P N z Q pF st acc a)(h2:n=1->rQ P N z Q pF st acc b):rQ P N z Q pF st acc (vZ n a b):=λha r hr=>by
 rcases ZZo h hr with⟨h,hr⟩|⟨h,hr⟩
 .exact h1 h ha r hr
 .exact h2 h ha r hr
theorem kH(hp:p)(h:rQ P N z Q pF st (.f p :: acc) o):rQ P N z Q pF st acc o:=λha r hr=>h (wi (e:=.f _) ha hp) r hr
theorem uP(a:Int)(n:Nat)(h:rQ P N z Q pF st (.f (0<=a/\a<(n:Int))::acc) o)(q:0<=a/\a<(n:Int):=by decide):rQ P N z Q pF st acc o:=kH q h
theorem zl{a:Int}{n:Nat}{k:S6 R}(h:rQ P N z Q pF st (.f (a.toNat<n)::.f (0<=a/\a<(n:Int))::acc) k):rQ P N z Q pF st acc (f_ (0<=a/\a<(n:Int)) k):=sB λq=>kH (by omega) h
theorem kU(h1:S5 (Nat×B))(v:V)(hp:p)(h:rQ P N z Q pF st (.h p h1 v :: acc) o):rQ P N z Q pF st acc o:=λha r hr=>h (wi (e:=.h p h1 v) ha hp) r hr
theorem kJ{o':S6 ρ}[q:o0 o' ev]{x:ρ}(hp:o'=S8 x)(h:rQ P N z Q pF st (ev x :: acc) o):rQ P N z Q pF st acc o:=λha r hr=>h (wi ha (q.ok hp)) r hr
theorem kK(b:Bool)(h:rQ P N z Q pF st (.b b b :: acc) o):rQ P N z Q pF st acc o:=λha r hr=>h (wi (e:=.b b b) ha rfl) r hr
theorem kX(k:Nat)(ra:RA)(h:rQ P N z Q pF st (.x k ra :: acc) o):rQ P N z Q pF st acc o:=λha r hr=>h (wi (e:=.x k ra) ha trivial) r hr
structure Ec (α:Type) where
 sz:Nat
 e:α->List C
 d:α
def Ec.c{α:Type}(E:Ec α)(l:S5 α):C:=cL E.sz E.e E.d l
def Ec.cs{α:Type}(E:Ec α)(l:S5 α):S5 C:=[cL E.sz E.e E.d l]
def Ec.v{α:Type}(E:Ec α)(l:S5 α):V:=.one (cL E.sz E.e E.d l)
def Ec.r{α:Type}(E:Ec α)(t:Nat)(l:S5 α):B:=.rows t E.sz l.length (pw E.e E.d l)
def eI(k:IntKind):Ec Int:=⟨1,cI k,0⟩
def eB:Ec Bool:=⟨1,cB,Tm⟩
theorem kW(k i:Nat)(E:Ec α)(l:S5 α)(ix:Nat)(x:α)(hx:ix<S7 l)(h:rQ P N z Q pF st (.x k (rA [(i,.c (l.set ix x).length (pw E.e E.d (l.set ix x)))]) :: .f (zj E.sz l.length (pw E.e E.d l) ix 0 (E.e x) (pw E.e E.d (l.set ix x))) :: .f (ix<S7 l) :: .f ((l.set ix x).length=S7 l) :: acc) o)
  (he:(E.e x).length=E.sz:=by exact rfl):rQ P N z Q pF st acc o:=λha r hr=>
 h (wi (e:=.x _ _) (wi (e:=.f _) (wi (e:=.f _) (wi (e:=.f _) ha List.length_set) hx) (ZGB l ix x he)) trivial) r hr
theorem kM(k i:Nat)(E:Ec α)(l:S5 α)(h:rQ P N z Q pF st (.x k ⟨[],[],[],[],[],[(i,(S7 l,pw E.e E.d l))],[]⟩ :: .f (S7 l=S7 l/\∀i j,i<S7 l->j<E.sz->pw E.e E.d l i j=(l.flatMap E.e).getD (i*E.sz+j) .oF) :: acc) o)
  (he:∀x,(E.e x).length=E.sz:=by exact λ_=>rfl):rQ P N z Q pF st acc o:=λha r hr=>
 h (wi (e:=.x _ _) (wi (e:=.f _) ha ⟨rfl,vJ he l⟩) trivial) r hr
theorem kA{l m:S5 α}{b q:Nat}[Decidable ((l++m).length*b<=q/\(l++m).length<=maxLen)]{t:S6 R}(k i:Nat)(E:Ec α)(h:rQ P N z Q pF st (.x k (rA [(i,.c (l++m).length (pw E.e E.d (l++m)))]) :: .f ((l++m).length<=maxLen) :: .f ((l++m).length*b<=q) :: .f (Ext E.sz l.length m.length (pw E.e E.d l) (pw E.e E.d m) (l++m).length (pw E.e E.d (l++m))) :: acc) t) :
  rQ P N z Q pF st acc (f_ ((l++m).length*b<=q/\(l++m).length<=maxLen) t):=λha r hr=>by
 obtain⟨h1,hr⟩:=yg hr
 exact h (wi (e:=.x _ _) (wi (e:=.f _) (wi (e:=.f _) (wi (e:=.f _) ha (ZCJ l m)) h1.1) h1.2) trivial) r hr
theorem kZ:rQ P N z Q pF st acc S_:=λ_ _ h=>by cases h
theorem R7{S0:Nat->Prop}{w0:t_}{T:qP}{Q:Exit->Act->World->Prop}(hT:zG P T)(hE:Ends Q){all:S5 Ev}:∀{n k:Nat}{pF cr:S5 It}{st pH:St}{ev:S5 Ev}{o_:S5 Prop},wD P N T all n k pF st ev=S8 (cr,pH,o_)->(∀q∈o_,q)->Good P N S0 w0 Q cr pH->Good P N S0 w0 Q pF st
 | 0,k,pF,cr,st,pH,ev,o_,h,ho,hk=>by cases h;exact hk
 |n+1,k,pF,cr,st,pH,ev,o_,h,ho,hk=>by
  simp only[wD]at h
  split at h
  .cases h;exact hk
  generalize ZYU pF k ev all=z at h
  obtain⟨sf,bs,k',zn⟩:=z
  simp only at h
  split at h
  .cases h
  rename_i Jo st1 I5 K3 o1 h1
  split at h
  .cases h
  rename_i Rb st2 o2 h2
  cases h
  exact ZzD hT hE h1 (λq hq=>ho q (T9.2 (.inl hq))) (R7 hT hE h2 (λq hq=>ho q (T9.2 (.inr hq))) hk)
end
def qS{R:Type}(P:Program)(fn:Func)(z:Zw)(vr:R->V):R->Exit->Act->World->Prop:=λr=>bodyPost P fn (uB z.S z.w (vr r))
def qH{R:Type}(P:Program)(fn:Func)(z:Zw)(h1:R->S5 (Nat×B))(vr:R->V):R->Exit->Act->World->Prop:=λr=>bodyPost P fn (wb z.S z.w (h1 r) (vr r))
def NF(N:Nat)(T:qP)(r:S6 (S5 It×St×S5 Prop))(fz:S5 Nat)(dh dn:S5 (Nat×S5 (Nat×C)))(rs:S5 ResultVar):S6 (V×S5 Prop):=match r with
 |some (it,st1,o_)=>match QN it,tidy N fz dh dn st1 with
  |true,S8 st2=>match Ag T st2 rs with
   |some v=>match v.pure with
    |true=>S8 (v,o_)
    |false=>S_
   |none=>S_
  |_,_=>S_
 |none=>S_
def ack(st:St):S6 (S5 Nat)->S6 (S5 (Nat×B))|some l=>KA st l|none=>S8 st.heap
variable{st:St}
theorem ZYW{l:S6 (S5 Nat)}{h:S5 (Nat×B)}(e:ack st l=S8 h)(id:Nat)(b:B)(hb:oP h id=S8 b):oP st.heap id=S8 b:=by
 cases l with
 |none=>cases e;exact hb
 |some l=>exact OI _ e _ b hb
def acn(N:Nat)(T:qP)(r:S6 (S5 It×St×S5 Prop))(na:NA)(cz:S6 (S5 Nat))(rs:S5 ResultVar):S6 (V×S5 (Nat×B)×S5 Prop):=match r with
 |some (it,st1,o_)=>match QN it,norm N na st1 with
  |true,S8 (st2,o2)=>match Ag T st2 rs,ack st2 cz with
   |some v,S8 h=>S8 (v,h,o_++o2)
   |_,_=>S_
  |_,_=>S_
 |none=>S_
def FO(N:Nat)(r:S6 (S5 It×St×S5 Prop))(na:NA):S6 (S5 It×St×S5 Prop):=match r with
 |some (it,st1,o_)=>match norm N na st1 with
  |some (st2,o2)=>S8 (it,st2,o_++o2)
  |none=>S_
 |none=>S_
theorem ZGy{P:Program}{N:Nat}{S0:Nat->Prop}{w0:t_}{fn:Func}{E:Ending->World->Prop}{it:S5 It}(he:QN it=Tl)(h:∀a w,qZ N S0 w0 st a w->bodyPost P fn E .normal a w/\bodyPost P fn E .ret a w):Good P N S0 w0 (bodyPost P fn E) it st:=by
 unfold QN at he;split at he
 .exact λa w hs=>(h a w hs).1
 .exact λa w hs=>wp_ret (Lr (h a w hs).2 _)
 .cases he
section
variable {P:Program} {z:Zw} {R:Type} {T:qP} [tb:Tb P T] {pF:S5 It} {st:St} {acc:S5 Ev}
variable{N:Nat}{Q:R->Exit->Act->World->Prop}{cr:S5 It}{pH:St}{o:S6 R}{fn:Func}{vr:R->V}
theorem kR{v:R}(fz:S5 Nat)(dh dn:S5 (Nat×S5 (Nat×C)))
  (h:NF fn.ntmps T (wD P fn.ntmps T acc 100000 0 pF st (Bq acc [])) fz dh dn fn.results.toList=S8 (vr v,vl acc []):=by kernel_rfl):rQ P fn.ntmps z (qS P fn z vr) pF st acc (S8 v):=λha r hr=>by
 cases hr
 unfold NF at h
 split at h
 rotate_left
 .cases h
 rename_i it st1 o_ h1
 split at h
 rotate_left
 .cases h
 rename_i st2 e1 e2
 split at h
 rotate_left
 .cases h
 rename_i v' e3
 split at h
 rotate_left
 .cases h
 rename_i hp
 obtain⟨rfl,rfl⟩:=h
 exact R7 tb.ok uB.ends h1 (wh ha) (ZGy e1 λa w hs=>⟨ZCf tb.ok.1 (hs.xd e2) e3 hp,ZCf tb.ok.1 (hs.xd e2) e3 hp⟩)
theorem i_{v:R}
  (h:NF fn.ntmps T (wD P fn.ntmps T acc 100000 0 pF st (Bq acc [])) [] [] [] fn.results.toList=S8 (vr v,vl acc []):=by kernel_rfl):rQ P fn.ntmps z (qS P fn z vr) pF st acc (S8 v):=kR [] [] [] h
theorem r7{h1:R->S5 (Nat×B)}{v:R}(na:NA)(cz:S6 (S5 Nat))
  (h:acn fn.ntmps T (wD P fn.ntmps T acc 100000 0 pF st (Bq acc [])) na cz fn.results.toList=S8 (vr v,h1 v,vl acc []):=by kernel_rfl):rQ P fn.ntmps z (qH P fn z h1 vr) pF st acc (S8 v):=λha r hr=>by
 cases hr
 unfold acn at h
 split at h
 rotate_left
 .cases h
 rename_i it st1 o_ e0
 split at h
 rotate_left
 .cases h
 rename_i st2 o2 e1 e2
 split at h
 rotate_left
 .cases h
 rename_i v' hh e3 e4
 simp at h
 obtain⟨rfl,rfl,hl⟩:=h
 rw[<-hl]at ha
 have hg:=ZYW e4
 exact R7 tb.ok wb.ends e0 (λq hq=>wh ha q (T9.2 (.inl hq))) (ZGy e1 λa w hs=>
  have:=Ou tb.ok.1 (hs.norm e2 λq hq=>wh ha q (T9.2 (.inr hq))) e3 hg
  ⟨this,this⟩)
class MK {R:Type} (Q:R->Exit->Act->World->Prop):Prop where
 ends : ∀ r, Ends (Q r)
instance ank {fn:Func} {vr:R->V}:MK (qS P fn z vr):=⟨λ_=>uB.ends⟩
instance anm {fn:Func} {h1:R->S5 (Nat×B)} {vr:R->V}:MK (qH P fn z h1 vr):=⟨λ_=>wb.ends⟩
def acI:S5 (Nat×Nat)->Nat->Nat
 | [],k=>k
 | (o,n) :: r,k=>match Tg n k with
  |true=>o
  |false=>acI r k
def naK(pH:St)(fz:S5 Nat)(dh dn:S5 (Nat×S5 (Nat×C)))(rl:S5 (Nat×Nat))(Rm:S5 (Nat×Nat×Nat×Nat×(Nat->Nat->C)))(sS:S5 (Nat×Nat)):NA:=⟨fz,dh,dn,rl,Rm,pH.env.map (·.1),pH.heap.map λp=>acI sS p.1,sS⟩
theorem kLn[e:MK Q](n:Nat)(na:NA)(hk:rQ P N z Q cr pH [] o)
  (h:FO N (wD P N T acc n 0 pF st (Bq acc [])) na=S8 (cr,pH,vl acc []):=by kernel_rfl):rQ P N z Q pF st acc o:=λha r hr=>by
 unfold FO at h
 split at h
 rotate_left
 .cases h
 rename_i it st1 o_ e0
 split at h
 rotate_left
 .cases h
 rename_i st2 o2 e1
 simp at h
 obtain⟨rfl,rfl,hl⟩:=h
 rw[<-hl]at ha
 exact R7 tb.ok (e.ends r) e0 (λq hq=>wh ha q (T9.2 (.inl hq))) (ZKg e1 (λq hq=>wh ha q (T9.2 (.inr hq))) (hk trivial r hr))
theorem kL[e:MK Q](n:Nat)(hk:rQ P N z Q cr pH [] o)
  (h:FO N (wD P N T acc n 0 pF st (Bq acc [])) (naK pH [] [] [] [] [] [])=S8 (cr,pH,vl acc []):=by kernel_rfl):rQ P N z Q pF st acc o:=kLn n _ hk h
theorem tA[e:MK Q](n:Nat)(sS:S5 (Nat×Nat))(hk:rQ P N z Q cr pH [] o)
  (h:FO N (wD P N T acc n 0 pF st (Bq acc [])) (naK pH [] [] [] [] [] sS)=S8 (cr,pH,vl acc []):=by kernel_rfl):rQ P N z Q pF st acc o:=kLn n _ hk h
theorem rj[e:MK Q](n:Nat)(fz:S5 Nat)(dh dn:S5 (Nat×S5 (Nat×C)))(rl:S5 (Nat×Nat))(Rm:S5 (Nat×Nat×Nat×Nat×(Nat->Nat->C)))(sS:S5 (Nat×Nat))(hk:rQ P N z Q cr pH [] o)
  (h:FO N (wD P N T acc n 0 pF st (Bq acc [])) (naK pH fz dh dn rl Rm sS)=S8 (cr,pH,vl acc []):=by kernel_rfl):rQ P N z Q pF st acc o:=kLn n _ hk h
end
def DY(fn:Func)(n:Nat):Bool:=match fn.body with
 | some _ => match fn.name == "runtime.NumGoroutine" with
  |false=>TB n fn.ntmps
  |true=>Tm
 |none=>Tm
variable{P:Program}{fn:Func}{R:Type}{o:S6 R}{args:S5 V}{vr:R->V}{h0:S5 (Nat×B)}{h1:R->S5 (Nat×B)}
theorem ZyY  {n : Nat} (h : DY fn n = Tl) : fn.body = S8 (Ed fn) /\ (fn.name == "runtime.NumGoroutine") = Tm /\ TB n fn.ntmps = Tl := by
 grind[DY,Ed]
theorem kS{f:FuncId}(hf:P.funcs[f]?=S8 fn)(h:∀{z:Zw},rQ P fn.ntmps z (qS P fn z vr) [.code (Ed fn)] (St.init args) [] o)(hb:DY fn args.length=Tl:=by kernel_rfl) :
  o0 o λr=>.c (yh P f args (vr r)) (vr r):=
 ⟨λ{r} hr=>show yh P f args (vr r)from by obtain⟨b1,b2,b3⟩:=ZyY hb;exact yh.of hf b1 b2 rfl b3 λS0 w0=>h (z:=⟨S0,_⟩) trivial r hr⟩
theorem sE{f:FuncId}(hf:P.funcs[f]?=S8 fn)(h:∀{z:Zw},rQ P fn.ntmps z (qH P fn z h1 vr) [.code (Ed fn)] (St.tS args h0) [] o)(hb:DY fn args.length=Tl:=by kernel_rfl) :
  pC o λr=>.h (rX P f h0 args (h1 r) (vr r)) (h1 r) (vr r):=
 ⟨λ{r} hr=>show rX P f h0 args (h1 r) (vr r)from by obtain⟨b1,b2,b3⟩:=ZyY hb;exact rX.of hf b1 b2 rfl b3 λS0 w0=>h (z:=⟨S0,_⟩) trivial r hr⟩
theorem o0.of{f:FuncId}(h:∀r,o=S8 r->yh P f args (vr r)):o0 o λr=>.c (yh P f args (vr r)) (vr r):=⟨λ{r} hr=>show yh _ _ _ _ from h r hr⟩
theorem pC.of{f:FuncId}(h:∀r,o=S8 r->rX P f h0 args (h1 r) (vr r)):pC o λr=>.h (rX P f h0 args (h1 r) (vr r)) (h1 r) (vr r):=⟨λ{r} hr=>show rX _ _ _ _ _ _ from h r hr⟩
def wK.KN:wK->Bool | .ret _ _=>Tl | .uF _=>Tm
def wK.rh:wK->S5 (Nat×B) | .ret h _=>h | .uF _=>[]
def wK.rv:wK->V | .ret _ v=>v | .uF v=>v
def qO{R:Type}(P:Program)(fn:Func)(z:Zw)(F:R->wK):R->Exit->Act->World->Prop:=λr=>bodyPost P fn (MU z.S z.w (F r))
instance anl {P:Program} {z:Zw} {R:Type} {fn:Func} {F:R->wK}:MK (qO P fn z F):=⟨λ_=>MU.ends⟩
def FN(N:Nat)(T:qP)(r:S6 (S5 It×St×S5 Prop))(fz:S5 Nat)(dh dn:S5 (Nat×S5 (Nat×C)))(cz:S5 Nat)(rs:S5 ResultVar):S6 (V×S5 (Nat×B)×S5 Prop):=match r with
 |some (it,st1,o_)=>match QN it,tidy N fz dh dn st1 with
  |true,S8 st2=>match Ag T st2 rs,KA st2 cz with
   |some v,S8 h=>S8 (v,h,o_)
   |_,_=>S_
  |_,_=>S_
 |none=>S_
theorem ZKl{z:Zw}{T:qP}[tb:Tb P T]{pF:S5 It}{acc:S5 Ev}{fz:S5 Nat}{dh dn:S5 (Nat×S5 (Nat×C))}{cz:S5 Nat}{v:V}{h1:S5 (Nat×B)}
  (h:FN fn.ntmps T (wD P fn.ntmps T acc 100000 0 pF st (Bq acc [])) fz dh dn cz fn.results.toList=S8 (v,h1,vl acc [])) (ha:yG (vl acc [])):Good P fn.ntmps z.S z.w (bodyPost P fn (wb z.S z.w h1 v)) pF st:=by
 unfold FN at h;split at h;rotate_left
 .cases h
 rename_i it st1 o_ e0;split at h;rotate_left
 .cases h
 rename_i st2 e1 e2;split at h;rotate_left
 .cases h
 rename_i v' hh e3 e4;simp at h;obtain⟨rfl,rfl,rfl⟩:=h;have hg:∀id b,oP hh id=S8 b->oP st2.heap id=S8 b:=λid b hb=>OI st2 e4 id b hb;exact R7 tb.ok wb.ends e0 (wh ha) (ZGy e1 λa w hs=>
  have:=Ou tb.ok.1 (hs.xd e2) e3 hg
  ⟨this,this⟩)
section
variable {P:Program} {z:Zw} {R:Type} {T:qP} [tb:Tb P T] {pF:S5 It} {st:St} {acc:S5 Ev}
theorem yD{vr:R->V}{h1:R->S5 (Nat×B)}{v:R}(fz:S5 Nat)(dh dn:S5 (Nat×S5 (Nat×C)))(cz:S5 Nat)
  (h:FN fn.ntmps T (wD P fn.ntmps T acc 100000 0 pF st (Bq acc [])) fz dh dn cz fn.results.toList=S8 (vr v,h1 v,vl acc []):=by kernel_rfl):rQ P fn.ntmps z (qH P fn z h1 vr) pF st acc (S8 v):=λha r hr=>by
 cases hr
 exact ZKl h ha
variable{F:R->wK}
theorem ya{v:R}(fz:S5 Nat)(dh dn:S5 (Nat×S5 (Nat×C)))(hr:(F v).KN=Tl:=by rfl)
  (h:FN fn.ntmps T (wD P fn.ntmps T acc 100000 0 pF st (Bq acc [])) fz dh dn [100000] fn.results.toList=S8 ((F v).rv,(F v).rh,vl acc []):=by kernel_rfl):rQ P fn.ntmps z (qO P fn z F) pF st acc (S8 v):=λha r fH=>by
 cases fH
 have:=ZKl (z:=z) h ha
 unfold qO
 cases hF:F v with
 |ret h1 w=>rw[hF]at this;exact this
 |uF w=>rw[hF]at hr;cases hr
theorem qy{v:R}(hr:(F v).KN=Tl:=by rfl)
  (h:FN fn.ntmps T (wD P fn.ntmps T acc 100000 0 pF st (Bq acc [])) [] [] [] [100000] fn.results.toList=S8 ((F v).rv,(F v).rh,vl acc []):=by kernel_rfl):rQ P fn.ntmps z (qO P fn z F) pF st acc (S8 v):=ya [] [] [] hr h
end
def Jj(i:Nat):S5 (Nat×HA)->S5 (Nat×HA)
 | []=>[]
 | (j,h) :: r=>match Tg j i with
  |true=>Jj i r
  |false=>(j,h) :: Jj i r
def NR(pF:S5 It)(k:Nat)(ev all:S5 Ev):S6 (Array Oper×Bool×RA×Nat):=match pF with
 | .code (.region _ ops d) :: _=>match QZ (Q9 k all) 0 ops.toList ev [] [] [] [] S_ with
  | (ra,_,S8 i)=>S8 (ops,d,ra,i)
  |_=>S_
 |_=>S_
theorem ZML{pF:S5 It}{k:Nat}{ev all:S5 Ev}{ops:Array Oper}{d:Bool}{ra:RA}{i:Nat}(h:NR pF k ev all=S8 (ops,d,ra,i)):∃id r,pF=.code (.region id ops d) :: r:=by
 unfold NR at h
 grind
def acP(P:Program)(N:Nat)(T:qP)(ops:Array Oper)(d:Bool)(ra:RA)(i:Nat)(pv:V)(st:St):S6 (V×S5 Prop):=match d with
 |false=>ZIy P N T ops { ra with hc:=Jj i ra.hc } i ⟨ZPZ ra i,pv⟩ 0 ops.toList st
 |true=>match FQ { ra with hc:=Jj i ra.hc } st with
  |some (xR,st2)=>match ZFS ops i with
   |true=>ZFL P N T ops xR (Jb ops xR) i ⟨ZPZ ra i,pv⟩ st2
   |false=>S_
  |none=>S_
def DW(P:Program)(N:Nat)(T:qP)(all:S5 Ev)(pv:V):Nat->Nat->S5 It->St->S5 Ev->S6 (V×S5 Prop)
 | 0,_,_,_,_=>S_
 |n+1,k,pF,st,ev=>match NR pF k ev all with
  |some (ops,d,ra,i)=>acP P N T ops d ra i pv st
  |none=>match ZYU pF k ev all with
   | (sf,bs,k',zn)=>match ZTy P N T pF st sf bs with
    |none=>S_
    |some (Jo,st1,_,_,o1)=>match DW P N T all pv n k' Jo st1 zn with
     |none=>S_
     |some (v,o2)=>S8 (v,o1++o2)
theorem ZIz{P:Program}{N:Nat}{T:qP}{S0:Nat->Prop}{w0:t_}{fn:Func}(hT:zG P T){all:S5 Ev}{pv:V}:∀{n k:Nat}{pF:S5 It}{st:St}{ev:S5 Ev}{v:V}{o_:S5 Prop},DW P N T all pv n k pF st ev=S8 (v,o_)->(∀q∈o_,q)->Good P N S0 w0 (bodyPost P fn (Bs S0 w0 v)) pF st
 | 0,k,pF,st,ev,v,o_,h,ho=>by cases h
 |n+1,k,pF,st,ev,v,o_,h,ho=>by
  have hQ:∀k,D5 S0 w0 v (zH P (bodyPost P fn (Bs S0 w0 v)) k):=λk a x w' S' h1 h2 h3 h4=>Ss (show bodyPost P fn (Bs S0 w0 v) _ a w' from⟨h1,x,S',rfl,h2,h3,h4⟩) k
  simp[DW]at h
  split at h
  .rename_i ops d ra i hp
   obtain⟨id,r,rfl⟩:=ZML hp
   unfold acP at h
   split at h
   .exact λa w hs=>wp_region_list (ZCg hT.1 hs h ho (hQ r))
   .split at h
    rotate_left
    .cases h
    rename_i xR st2 hf
    split at h
    rotate_left
    .cases h
    rename_i hn
    refine λa w hs=>ZEe hT.1 hT.2 (hs.FV hf) (λo x fi hx=>?_) h ho (hQ r)
    unfold ZFS at hn
    simp_all
  .generalize ZYU pF k ev all=z at h
   obtain⟨sf,bs,k',zn⟩:=z
   split at h
   .cases h
   rename_i Jo st1 I5 K3 o1 h1
   split at h
   .cases h
   rename_i v2 o2 h2
   cases h
   exact ZzD hT Bs.ends h1 (λq hq=>ho q (T9.2 (.inl hq))) (ZIz hT h2 (λq hq=>ho q (T9.2 (.inr hq))))
def acZ(n:Nat)(b:Bool)(an:S5 (Nat×sF)):S5 RA:=[rz,⟨[(1,.r (.one (.lit (.bool b))) [])],[],[],[],[],[],[]⟩,⟨an,[],[],[],[],[],[]⟩]
def als(P:Program)(S:Nat)(a:S6 Addr)(cap:Nat)(b:Bool):Prop:=∀w,(do eqGuard .eql S (.tmp 3) (.const (.slice S_ 0 0)) (.slice a 0 cap) (.slice S_ 0 0);binOp .eql S (.slice a 0 cap) (.slice S_ 0 0):Sem Value).run P w=.ok (.bool b) w
def alu(P:Program)(S sz bt:Nat)(x:Addr)(cap:Nat)(c:Nat->Nat->C):S5 Prop:=[∀w,(do eqGuard .eql S (.tmp 3) (.const (.slice S_ 0 0)) (.slice (S8 x) 0 cap) (.slice S_ 0 0);binOp .eql S (.slice (S8 x) 0 cap) (.slice S_ 0 0):Sem Value).run P w=.ok (.bool Tm) w,Tm=Tm,0=0,∀i j,i<0->j<sz->c i j=([]:S5 C).getD (i*sz+j) .oF,Ext sz 0 0 c (λ_ _=>.oF) 0 c,0*bt<=140737488355328,0<=maxLen]
def alt(P:Program)(S cap:Nat):S5 Prop:=[∀w,(do eqGuard .eql S (.tmp 3) (.const (.slice S_ 0 0)) (.slice S_ 0 cap) (.slice S_ 0 0);binOp .eql S (.slice S_ 0 cap) (.slice S_ 0 0):Sem Value).run P w=.ok (.bool Tl) w,Tl=Tl]
theorem ZQH{S eT:Nat}(hu:P.underlying S=S8 (.slice eT))(a:S6 Addr)(cap:Nat):als P S a cap a.isNone:=λw=>by
 have hg:(eqGuard .eql S (.tmp 3) (.const (.slice S_ 0 0)) (.slice a 0 cap) (.slice S_ 0 0)).run P w=.ok () w:=by simp[eqGuard]
 grind[Sem.run_bind,Tj,Go.run_eql_slice_nil]
theorem Lp{α:Type}{T:qP}[tb:Tb P T]{f:FuncId}{S eT sz bt:Nat}{e:α->S5 C}{d:α}{gn:S5 α->S6 (S5 α)}(hf:P.funcs[f]?=S8 fn)(hb:DY fn 1=Tl)(hu:P.underlying S=S8 (.slice eT))
  (gB:∀(x:Addr)(cap:Nat)(c:Nat->Nat->C),ZHT P fn.ntmps T 9 [.code (Ed fn)] (St.tS [.one (.lit (.slice (S8 x) 0 cap))] []) (acZ 0 Tm [(0,.c 0 c),(2,.c 0 c)]) [Tm] ⟨[],[],[],[],[],[2],[7],[(7,99999)]⟩ fn.results.toList=S8 (.one (.p8 99999 0),[(99999,.rows eT sz 0 c)],alu P S sz bt x cap c))
  (eF:∀(cap:Nat)(c:Nat->Nat->C),ZHT P fn.ntmps T 8 [.code (Ed fn)] (St.tS [.one (.lit (.slice S_ 0 cap))] []) (acZ 0 Tl []) [Tl] ⟨[],[],[],[],[(2,99999,eT,sz,c)],[2],[99999],[]⟩ fn.results.toList=S8 (.one (.p8 99999 0),[(99999,.rows eT sz 0 c)],alt P S cap))
  (hn:∀l r,gn l=S8 r->rX P f [] [.one (cL sz e d l)] [(99999,.rows eT sz r.length (pw e d r))] (.one (.p8 99999 r.length)))
  (hg:∀l,0<S7 l->S7 l*bt<=140737488355328/\S7 l<=maxLen->gn l=S8 l) (l r:S5 α) (hr:f_ (S7 l*bt<=140737488355328/\S7 l<=maxLen) (S8 l)=S8 r) :
  rX P f [] [.one (cL sz e d l)] [(99999,.rows eT sz r.length (pw e d r))] (.one (.p8 99999 r.length)):=by
 obtain⟨o1,hr⟩:=yg hr;cases hr;obtain⟨b1,b2,b3⟩:=ZyY hb;refine ZOI ⟨_,hf,b2,by rw[b1];rfl⟩ (λh cap=>?_) (λh x cap=>?_) (λh=>hn l l (hg l h o1))
 .rw[h];exact rX.of hf b1 b2 rfl b3 λ_ _=>Zxt tb.ok 8 _ _ _ _ _ _ (eF _ _) ⟨ZQH hu _ _,rfl,trivial⟩
 .rw[h];exact rX.of hf b1 b2 rfl b3 λS0 w0=>Zxt tb.ok 9 _ _ _ _ _ _ (gB x cap _) ⟨ZQH hu (S8 x) cap,rfl,rfl,λi j h=>aFe h (Wy i),⟨rfl,λ_ _ h=>aFe h (Wy _),λ_ _ h=>aFe h (Wy _)⟩,by omega,by decide,trivial⟩
abbrev EG(P:Program)(op:BinOp)(t:TypeId)(xo yo:Operand)(x y:Value)(b:Bool):Prop:=∀w,(do eqGuard op t xo yo x y;binOp op t x y:Sem Value).run P w=.ok (.bool b) w
variable{t:TypeId}{xs ys:Array Value}
theorem Sg{b:Bool}(hg:P.eqGuardType P.depth t=Tm)(he:∀w,(Op.equalIn 10000 t (.agg xs) (.agg ys)).run P w=.ok b w)(xo yo:Operand):EG P .eql t xo yo (.agg xs) (.agg ys) b:=λw=>by
 have h:(eqGuard .eql t xo yo (.agg xs) (.agg ys)).run P w=.ok () w:=by simp[eqGuard,hg]
 grind[Sem.run_bind,Tj,run_eql_struct]
theorem Sb{b:Bool}(hg:P.eqGuardType P.depth t=Tm)(he:∀w,(Op.equalIn 10000 t (.agg xs) (.agg ys)).run P w=.ok b w)(xo yo:Operand):EG P .neq t xo yo (.agg xs) (.agg ys) (!b):=λw=>by
 have h:(eqGuard .neq t xo yo (.agg xs) (.agg ys)).run P w=.ok () w:=by simp[eqGuard,hg]
 grind[Sem.run_bind,Tj,run_neq_struct]
theorem qv{p:Nat->Prop}(h0:p 0)(h1:∀{n},p n->p (n+1)):∀{n},p n:=λ{n}=>n.rec h0 λ_ h=>h1 h
end
section
structure AH (P:Program) (t:TypeId) {α:Type} (enc:α->List C) (ok:α->Prop):Prop where
 get:∀{H:Type}(en:TypeId×Value->H)(w:World)(bK:Nat)(bX:Nat->Bool)(c8:Bool)(fuel:Nat)(cs:List Value)(x:DataW H×List MemPlace),
  DataW.trod en P w bK bX c8 fuel t cs=S8 x->∃a:α,qk (λb=>b<w.heap.size) w ru (enc a) cs/\ok a
def rn(k:IntKind)(n:Int):Prop:=(Lit.int k n).wf=Tl
theorem BC{n:Int}(h:rn .u64 n):0<=n/\n<=18446744073709551615:=bounds_u64 h
def okB(_:Bool):Prop:=True
def zA{α:Type}(ok:α->Prop)(l:S5 α):Prop:=S7 l<=maxLen/\∀a∈l,ok a
def tF{α β:Type}(ok:α->Prop)(jS:β->Prop)(p:α×β):Prop:=ok p.1/\jS p.2
variable{S:Nat->Prop}{w:World}{P:Program}{t:TypeId}{m:Mp}{x:Value}{l:S5 C}{α β:Type}{fs:Array Field}{N sz k:Nat}{c:C}{xs:S5 Value}{ea:α->S5 C}{eb:β->S5 C}{oa:α->Prop}{ob:β->Prop}
theorem ZYD(h:oI S w m c x)(h1:x.oneCell'=Tl):qk S w m [c] [x]:=by
 refine⟨rfl,λj c' hc=>?_,λy hy=>by grind⟩
 grind
theorem ZYC{l':S5 C}{jJ:S5 Value}(h:qk S w m l xs)(h':qk S w m l' jJ):qk S w m (l++l') (xs++jJ):=by
 obtain⟨a,b,c⟩:=h;obtain⟨a',b',c'⟩:=h';refine⟨by simp_all,λj q hq=>?_,λy hy=>?_⟩
 .grind
 grind
theorem ZYB:qk S w m [] []:=⟨rfl,λj c h=>by simp at h,λy h=>by simp at h⟩
theorem vI{k:IntKind}(ht:P.underlying t=S8 (.int k)):AH P t (cI k) (rn k):=by
 refine⟨?_⟩;intro H en w bK bX c8 fuel cs x h;obtain⟨n,rfl,_,hw⟩:=DataW.trod_int ht h;exact⟨n,ZYD .lit rfl,hw⟩
theorem ZFO(ht:P.underlying t=S8 .bool):AH P t cB okB:=by
 refine⟨?_⟩;intro H en w bK bX c8 fuel cs x h;obtain⟨b,rfl,_⟩:=DataW.trod_bool ht h;exact⟨b,ZYD .lit rfl,trivial⟩
theorem ZPA{α:Type}{p:Nat->α->Prop}:∀(n:Nat),(∀i,i<n->∃y,p i y)->∃Y:S5 α,S7 Y=n/\∀i (h:i<S7 Y),p i Y[i]
 | 0,_=>⟨[],rfl,λi h=>aFe h (by simp)⟩
 |k+1,hy=>by
  obtain⟨Y,hl,hY⟩:=ZPA k (λi hi=>hy i (by omega))
  obtain⟨y,hy1⟩:=hy k (by omega)
  refine⟨Y++[y],by simp[hl],λi hi=>?_⟩
  by_cases GQ:i<S7 Y
  .rw[List.getElem_append_left GQ]
   exact hY i GQ
  .have:i=k:=by simp at hi;omega
   subst this
   rw[List.getElem_append_right (by omega)]
   simpa using hy1
theorem ZLj(b o k:Nat):(⟨b,o,S_⟩ : Addr).add k=⟨b,o+k,S_⟩:=by
 unfold Addr.add;simp
theorem Zyu{e:TypeId}{enc:α->S5 C}{ok:α->Prop}{d:α}(ht:P.underlying t=S8 (.slice e))(hc:P.cellsOf e=sz)(hz:0<sz)(hl:∀a,(enc a).length=sz)(he:AH P e enc ok) :
  AH P t (wa sz enc d) (zA ok):=by
 refine⟨?_⟩;intro H en w bK bX c8 fuel cs x h;rcases Go.Deep.open_slice ht h with⟨rfl,_⟩|⟨a,len,cap,m,n,D,Pl,rfl,_,hlc,hm,hmm,_,hx⟩
 .exact⟨[],ZYD (.sl 0 0 (λ_ _=>undef) (Tq _) (λh=>aFe h (by simp)) (λi j h=>aFe h (by simp)) (λi j h=>aFe h (by simp)) (λi j h=>aFe h (by simp))) rfl,by simp,λa h=>aFe h (by simp)⟩
 .have hlm:len<=m:=by grind
  have hy:∀i,i<len->∃y:α×S5 Value,w.cells? bK (a.add (i*sz)) sz=S8 y.2/\qk (λb=>b<w.heap.size) w ru (enc y.1) y.2/\ok y.1:=by
   intro i hi;obtain⟨i9,h1,h2⟩:=hx i (by omega);obtain⟨y,h3,h4⟩:=he.get _ _ _ _ _ _ _ _ h2;rw[hc]at h1;exact⟨(y,_),h1,h3,h4⟩
  obtain⟨Y,hlen,hY⟩:=ZPA len hy;refine⟨Y.map (·.1),ZYD ?_ rfl,by grind,λy hy=>?_⟩
  .show oI _ _ _ (.sl sz (Y.map (·.1)).length (pw enc d (Y.map (·.1)))) _;have lR:(Y.map (·.1)).length=len:=by simp_all
   rw[lR];by_cases h0:len=0
   .subst h0;exact .sl 0 0 (λ_ _=>undef) (by omega) (λh=>aFe h (by simp)) (λi j h=>aFe h (by simp)) (λi j h=>aFe h (by simp)) (λi j h=>aFe h (by simp))
   have hp:0<S7 Y:=by omega
   have Rf:∀i (hi:i<S7 Y) j,j<sz->w.cell? ((a.add (i*sz)).add j)=S8 ((Y[i].2).getD j undef):=by
    intro i hi j hj;obtain⟨k1,k2,k3⟩:=hY i hi;obtain⟨_,_,q⟩:=World.cells?_some k1;have iH:j<Y[i].2.length:=by rw[k2.1,hl];exact hj
    rw[q j (by first|exact iH|exact hj)]
    simp[Va iH]
   have iV:a.spot=S_:=by
    have h3:=Rf 0 hp 0 hz;simpa[Addr.add]using World.cell?_spot h3
   obtain⟨b,off,sp⟩:=a;subst iV;have gj:∀i j,i<len->j<sz->w.cell? ⟨b,off+i*sz+j,S_⟩=S8 (((Y.getD i (d,[])).2).getD j undef):=by
    intro i j hi hj;have:=Rf i (by omega) j hj;rw[ZLj,ZLj]at this;have cO:i<S7 Y:=by omega
    have e:Y.getD i (d,[])=Y[i]:=by simp[Ty,Va cO]
    rw[e];exact this
   refine .sl b off (λi j=>((Y.getD i (d,[])).2).getD j undef) (by omega) (λ_=>⟨rfl,?_⟩) gj (λi j hi hj=>?_) (λi j hi hj=>?_)
   .show b<w.heap.size;exact block_lt_of_cell (gj 0 0 (by omega) hz)
   .have cO:i<S7 Y:=by omega
    obtain⟨_,k2,_⟩:=hY i cO;have iH:j<Y[i].2.length:=by rw[k2.1,hl];exact hj
    simp only[Ty,Va cO,T4,Va iH];exact k2.2.2 _ (List.getElem_mem iH)
   .have cO:i<S7 Y:=by omega
    obtain⟨_,k2,_⟩:=hY i cO;have iH:j<Y[i].2.length:=by rw[k2.1,hl];exact hj
    have hle:j<(enc Y[i].1).length:=by rw[hl];exact hj
    simp only[pw,Ty,TN,Va cO,Option.map_some,T4,Va iH,Va hle];obtain⟨x,gf,dQ⟩:=k2.2.1 j _ (Va hle);rw[Va iH]at gf;cases gf;exact dQ
  .obtain⟨q,hq,rfl⟩:=Uf.1 hy;obtain⟨i,hi,rfl⟩:=List.getElem_of_mem hq;exact(hY i hi).2.2
structure Jl (P:Program) (fs:Array Field) (N k o:Nat) {α:Type} (enc:α->List C) (ok:α->Prop):Prop where
 get:∀{H:Type}(en:TypeId×Value->H)(w:World)(bK:Nat)(bX:Nat->Bool)(c8:Bool)(n:Nat)(cs:List Value)(xs:List (DataW H×List MemPlace)),S7 cs=N->S7 xs=fs.size ->
  (∀(i:Nat)(f:Field),fs[i]?=S8 f->DataW.trod en P w bK bX c8 n f.type ((cs.drop f.offset).take (P.cellsOf f.type))=xs[i]?)->∃a:α,qk (λb=>b<w.heap.size) w ru (enc a) (cs.drop o)/\ok a
def cU(_:Unit):S5 C:=[]
def D7(_:Unit):Prop:=True
theorem EU:Jl P fs N k N cU D7:=by
 refine⟨?_⟩;intro H en w bK bX c8 n cs xs hN hl hf;exact⟨(),by rw[List.drop_of_length_le (by omega)];exact ZYB,trivial⟩
theorem tM{o:Nat}{f:Field}(hk:fs[k]?=S8 f)(ho:f.offset=o)(hs:P.cellsOf f.type=sz)
  (ha:AH P f.type ea oa) (hr:Jl P fs N (k+1) (o+sz) eb ob):Jl P fs N k o (cP ea eb) (tF oa ob):=by
 refine⟨?_⟩;intro H en w bK bX c8 n cs xs hN hl hf;obtain⟨b,bL,bF⟩:=hr.get en w bK bX c8 n cs xs hN hl hf;have h:=hf k f hk;have qI:k<S7 xs:=by
  have:=(V5.1 hk).1;omega
 rw[Va qI]at h;obtain⟨a,jV,Rh⟩:=ha.get _ _ _ _ _ _ _ _ h;refine⟨(a,b),?_,Rh,bF⟩;have:=ZYC jV bL;rw[ho,hs,<-List.drop_drop,WE]at this;exact this
theorem E2(ht:P.underlying t=S8 (.struct fs))(hN:P.cellsOf t=N)(h:Jl P fs N 0 0 ea oa)
  (mk:α->β) (hc:∀a,eb (mk a)=ea a) (hd:∀a,oa a->ob (mk a)):AH P t eb ob:=by
 refine⟨?_⟩;intro H en w bK bX c8 fuel cs x hx;obtain⟨xs,n,_,_,hl,hlen,hf⟩:=DataW.trod_struct ht hx;obtain⟨a,h1,h2⟩:=h.get en w bK bX c8 n cs xs (hl.trans hN) hlen hf
 grind
theorem ZYE:D4 S w [] []:=⟨rfl,λj v h=>by simp at h⟩
theorem ZBT{v:V}{l:S5 V}(h:o6 S w ru v x)(hr:D4 S w l xs):D4 S w (v :: l) (x :: xs):=by
 refine⟨by simp[hr.1],λj u hj=>?_⟩;cases j with
 |zero=>grind
 |succ j=>exact hr.2 j u (by simpa using hj)
theorem ZPm(h:qk S w ru l [x])(hl:l=[c]):o6 S w ru (.one c) x:=by
 subst hl;obtain⟨y,hy,h2⟩:=h.2.1 0 c rfl;cases hy;exact h2
theorem ZYA{c:Array Value}(h:qk S w ru l c.toList):o6 S w ru (.agg l) (.agg c):=⟨c,rfl,h⟩
theorem yh.law{f:FuncId}{args:S5 V}(h:yh P f args (.one (.lit (.bool Tl)))){W:World}{vs:S5 Value}(hr:D4 (λb=>b<W.heap.size) W args vs) :
  Calls P f vs.toArray W λe w'=>e=.returned (.bool Tl)/\Below W.heap.size W w':=by
 refine(h.2 _ W _ (λ_ h=>h) hr).mono ?_;rintro e w' ⟨x,S',rfl,hg,_,hx⟩;cases hx;exact⟨rfl,⟨hg.below.os,hg.below.tape,hg.below.output,hg.below.size,λk hk=>hg.below.block k hk⟩⟩
end
section
variable{K n:Nat}{α:Type}{enc:α->S5 C}{d:α}{S:Nat->Prop}{w w':World}{l:S5 α}{xs:S5 Value}{E:TypeId}{P:Program}{m:Mp}{F:FuncId}
theorem ZqD(w:World)(dT sT ty jl:TypeId)(size g o jm mW:Nat)(a:Addr)(jn mX:Nat)(cur:Array Value)(t:TypeId)(cs:S5 Value)
  (hu:P.underlying dT=S8 (.slice jl)) (hs:(P.info? jl).map (·.size)=S8 size) (hn:S7 cs=WD jn jm*size)
  (fB:∀j v,cs[j]?=S8 v->w.cell? (a.add j)=S8 v) (hg:w.heap[g]?=S8 (.cells cur t (0,0))) (gh:o+S7 cs<=cur.size) (h1:∀v∈cs,v.oneCell'=Tl) :
  (Wr #[dT,sT] ty #[.slice (S8 ⟨g,o,S_⟩) jm mW,.slice (S8 a) jn mX]).run P w=.ok (goInt (WD jn jm)) (w.setRow g (wg cur.toList o cs).toArray):=by
 have hl:=run_loadCells_list (P:=P) w a cs fB;have cD:=run_storeCells_at P g o t cs 0 cur w hg (by simpa using gh) h1;cases hq:P.info? jl with
 |none=>simp[hq]at hs
 |some i=>
  have hi:i.size=size:=by simpa[hq]using hs
  simp[Wr,run_underlying hu,Ux,Uk,sizeOf,typeInfo,hq,hi,<-hn,hl,cD,wg]
theorem acK{i j:Nat}(hi:i<n)(hj:j<K):i*K+j<n*K:=by
 have:(i+1)*K<=n*K:=Tf _ hi
 grind
def yd{α:Type}(S:Nat->Prop)(w:World)(K:Nat)(enc:α->S5 C)(d:α)(l:S5 α)(xs:S5 Value):Prop:=S7 xs=S7 l*K/\(∀i j,i<S7 l->j<K->∃x,xs[i*K+j]?=S8 x/\oI S w ru (pw enc d l i j) x)/\∀x∈xs,x.oneCell'=Tl
theorem yd.app{l':S5 α}{jJ:S5 Value}(h:yd S w K enc d l xs)(h':yd S w K enc d l' jJ):yd S w K enc d (l++l') (xs++jJ):=by
 obtain⟨a,b,c⟩:=h;obtain⟨a',b',c'⟩:=h';refine⟨by grind,λi j hi hj=>?_,λx hx=>?_⟩
 .simp only[pw];by_cases h:i<S7 l
  .obtain⟨x,h1,h2⟩:=b i j h hj;have:=acK h hj;refine⟨x,by grind,?_⟩;simp only[pw]at h2;simp_all
  .simp only[TL]at hi;obtain⟨x,h1,h2⟩:=b' (i-S7 l) j (by omega) hj;have h3:S7 l*K<=i*K:=Tf _ (by omega);refine⟨x,by rw[TM (by omega),a,<-h1];congr 1;rw[Ws];omega,?_⟩;simp only[pw]at h2
   grind
 grind
theorem yd.take(h:yd S w K enc d l xs)(hn:n<=S7 l):yd S w K enc d (l.take n) (xs.take (n*K)):=by
 obtain⟨a,b,c⟩:=h;have hm:n*K<=S7 l*K:=Tf _ hn;refine⟨by simp_all,λi j hi hj=>?_,λx hx=>c x (List.mem_of_mem_take hx)⟩;simp only[TQ]at hi;obtain⟨x,h1,h2⟩:=b i j (by omega) hj;have:=acK (show i<n by omega) hj;refine⟨x,by grind,?_⟩;simp only[pw]at h2 ⊢
 grind
theorem yd.drop(h:yd S w K enc d l xs)(hn:n<=S7 l):yd S w K enc d (l.drop n) (xs.drop (n*K)):=by
 obtain⟨a,b,c⟩:=h;refine⟨by simp[a,Ws],λi j hi hj=>?_,λx hx=>c x (List.mem_of_mem_drop hx)⟩;simp only[Uv]at hi;obtain⟨x,h1,h2⟩:=b (n+i) j (by omega) hj;refine⟨x,by grind,?_⟩;simp only[pw]at h2 ⊢
 grind
theorem yd.rO(h:yd S w K enc d l xs)(hw:tj S w w'):yd S w' K enc d l xs:=
 ⟨h.1,λi j hi hj=>by obtain⟨x,h1,h2⟩:=h.2.1 i j hi hj;exact⟨x,h1,h2.rO hw λ_ h=>h⟩,h.2.2⟩
theorem yd.of{mb:Value}(h:se S w m mb (.rows E K l.length (pw enc d l))) :
  ∃xs,w.ownsRow 0 E K mb l.length xs/\yd S w K enc d l xs:=by
 obtain⟨xs,h1,h2,h3⟩:=h;exact⟨xs,h1,h1.1,h2,h3⟩
theorem Sk{no:Nat->Prop}{v:Value}(hS:∀b,S b->b<w.heap.size)(bu:∀k,no k->k<w.heap.size)
  (bm:w'.ownsRow 0 E K v l.length xs) (eo:yd S w K enc d l xs) (hb:x_ no w w') (cK:tj S w w') (atf:∀k,v.ownBlock=S8 k->¬S k/\¬no k/\k<w'.heap.size) (hL:∀b,m.L b->no b) :
  ∃x S' m',Wt v=.returned x/\p9 no S S' w w'/\(∀b,S' b->b<w'.heap.size)/\BB no S' m' [(99999,.rows E K l.length (pw enc d l))] w'/\o6 S' w' m' (.one (.p8 99999 l.length)) x/\FT m' m:=by
 have oP:∀{b:B}{id:Nat},oP [(99999,B.rows E K l.length (pw enc d l))] id=S8 b->id=99999/\b=.rows E K l.length (pw enc d l):=by
  intro b id h;rw[tD]at h;split at h
  .simp_all
  .cases h
 obtain⟨iT,av,cv,rfl,hle⟩:=ZMM bm;have gT:S7 l=0\/∃b,av=S8 ⟨b,0,S_⟩:=by
  rcases bm.2 with⟨h3,h4⟩|⟨g,g3,cur,h3,_⟩
  all_goals simp_all
 refine⟨_,S,⟨λid=>if id=99999 then .slice av l.length cv else m id,m.L⟩,rfl,⟨hb,λ_ h=>h,λ_ h=>.inl h⟩,λb h=>TC (hS b h) hb.size,⟨λid b' h=>?_,λid b' h k hk=>?_,λi j b1 b2 qN h1 h2=>?_,hL⟩,oI.p8 (by simp) gT hle,λid hid=>by simp only[BD]at hid;grind,rfl⟩
 .obtain⟨rfl,rfl⟩:=oP h;exact⟨xs,bm,λi j hi hj=>(eo.rO cK).2.1 i j hi hj,eo.2.2⟩
 all_goals grind
theorem ZMN{id:Nat}{x:Value}(h:oI S w m (.p8 id n) x):x=m id/\∃a c,x=.slice a n c:=by
 cases h with
 |p8 h h0 _=>simp_all
def N2(P:Program)(F:FuncId)(E:TypeId)(K:Nat):Prop:=∀(b n c i vb m vc:Nat)(cur bi:Array Value)(w:World),i<n->0<m->n+m<=c->c<=maxLen->vb≠b->w.heap[b]?=S8 (.cells cur E (0,0))->cur.size=c*K->w.heap[vb]?=S8 (.cells bi E (0,0))->m<=vc->bi.size=vc*K->(∀v∈cur.toList.take (n*K),v.oneCell'=Tl)->(∀v∈bi.toList.take (m*K),v.oneCell'=Tl)->Calls P F #[.slice (S8 ⟨b,0,S_⟩) n c,.int .i64 i,.slice (S8 ⟨vb,0,S_⟩) m vc] w λe w'=>∃R:Array Value,e=.returned (.slice (S8 ⟨b,0,S_⟩) (n+m) c)/\w.drawn<=w'.drawn/\w.grownBy w' (S8 b)/\w'.heap[b]?=S8 (.cells R E (0,0))/\R.size=c*K/\R.toList.take ((n+m)*K)=cur.toList.take (i*K)++bi.toList.take (m*K)++(cur.toList.drop (i*K)).take ((n-i)*K)
def N3(P:Program)(F:FuncId)(E:TypeId)(K BY:Nat):Prop:=∀(b n c i vb m vc:Nat)(cur bi:Array Value)(w:World),i<n->0<m->n<=c->c<n+m->(n+m)*BY<=140737488355328->w.heap[b]?=S8 (.cells cur E (0,0))->cur.size=c*K->w.heap[vb]?=S8 (.cells bi E (0,0))->m<=vc->bi.size=vc*K->(∀v∈cur.toList.take (n*K),v.oneCell'=Tl)->(∀v∈bi.toList.take (m*K),v.oneCell'=Tl)->Calls P F #[.slice (S8 ⟨b,0,S_⟩) n c,.int .i64 i,.slice (S8 ⟨vb,0,S_⟩) m vc] w λe w'=>∃(G:Nat)(R:Array Value),e=.returned (.slice (S8 ⟨w.heap.size,0,S_⟩) (n+m) G)/\w.drawn<=w'.drawn/\Below w.heap.size w w'/\w'.heap[w.heap.size]?=S8 (.cells R E (0,0))/\n+m<=G/\G<=maxLen/\R.size=G*K/\R.toList.take ((n+m)*K)=cur.toList.take (i*K)++bi.toList.take (m*K)++(cur.toList.drop (i*K)).take ((n-i)*K)
def N4(P:Program)(F:FuncId)(S:TypeId):Prop:=∀(bK:S6 Addr)(n c vb m vc:Nat)(w w':World)(v':Value),n<=c->c<=maxLen->0<m->(bK=S_->n=0)->m<=maxLen->(∀ty,(Tu #[S,S] ty #[.slice bK n c,.slice (S8 ⟨vb,0,S_⟩) m vc]).run P w=.ok v' w')->Calls P F #[.slice bK n c,.int .i64 n,.slice (S8 ⟨vb,0,S_⟩) m vc] w λe w1=>e=.returned v'/\w'=w1
theorem ZCw{S:TypeId}{BY:Nat}{i0:TypeInfo}{z:Value}(hf:xc P F)(hu:P.underlying S=S8 (.slice E))(vR:P.info? E=S8 i0)(hz:i0.zero=S8 z)(bf:i0.size=K)(lC:i0.bytes=BY)(cu:z.cells.size=K)(hK:0<K)
  (shift:N2 P F E K) (grow:N3 P F E K BY) (bD:N4 P F S)
    (l v:S5 α) (i:Nat) (hi:i<=S7 l) (hv:0<S7 v) (hb:(S7 l+S7 v)*BY<=140737488355328) (lE:S7 l+S7 v<=maxLen) :
  rX P F [(100000,.rows E K l.length (pw enc d l)),(100001,.rows E K v.length (pw enc d v))] [.one (.p8 100000 l.length),.one (.lit (.int .i64 (i:Int))),.one (.p8 100001 v.length)]
   [(99999,.rows E K (l.take i++v++l.drop i).length (pw enc d (l.take i++v++l.drop i)))] (.one (.p8 99999 (l.take i++v++l.drop i).length)):=by
 refine⟨hf,λno S' m w vs hS bu pQ rr=>?_⟩;obtain⟨hl,rr⟩:=rr;obtain⟨x0,iz,jo⟩:=rr 0 _ rfl;obtain⟨x1,gf,jL⟩:=rr 1 _ rfl;obtain⟨x2,dQ,fT⟩:=rr 2 _ rfl;have tV:vs=[x0,x1,x2]:=by
  match vs,hl with
  | [a,b,c],_=>simp_all
 subst tV;have e1:x1=.int .i64 (i:Int):=by cases jL;rfl
 subst e1;obtain⟨e0,a0,c0,q0⟩:=ZMN jo;obtain⟨e2,a2,c2,q2⟩:=ZMN fT;have g0:oP [(100000,B.rows E K l.length (pw enc d l)),(100001,B.rows E K v.length (pw enc d v))] 100000=S8 (.rows E K l.length (pw enc d l)):=rfl;have g2:oP [(100000,B.rows E K l.length (pw enc d l)),(100001,B.rows E K v.length (pw enc d v))] 100001=S8 (.rows E K v.length (pw enc d v)):=rfl;obtain⟨xs,cT,fO⟩:=yd.of (pQ.rep _ _ g0);obtain⟨ys,ij,jp⟩:=yd.of (pQ.rep _ _ g2);have c7:=pQ.own _ _ g0;have kY:=pQ.own _ _ g2;have gD:=pQ.inj _ _ _ _ (by decide) g0 g2;rw[<-e0]at cT c7 gD;rw[<-e2]at ij kY gD;have hxl:=cT.1;have hyl:=ij.1;have k4:(l.take i++v++l.drop i).length=S7 l+S7 v:=by simp;omega
 have fk:yd S' w K enc d (l.take i++v++l.drop i) (xs.take (i*K)++ys++xs.drop (i*K)):=((fO.take hi).app jp).app (fO.drop hi)
 -- the literal's block
 obtain⟨vb,vc,bi,h1,lQ,ek,C9,tV,hyt⟩ : ∃vb vc bi,x2=.slice (S8 ⟨vb,0,S_⟩) v.length vc/\w.heap[vb]?=S8 (.cells bi E (0,0))/\S7 v<=vc/\vc<=maxLen/\bi.size=vc*K/\bi.toList.take (S7 v*K)=ys:=by
  rcases ij.2 with⟨_,h⟩|⟨g,cap,cur,h1,_,h2,h3,h4,h5,h6⟩
  all_goals grind
 subst h1;have iF:∀u∈bi.toList.take (S7 v*K),u.oneCell'=Tl:=by rw[hyt];exact jp.2.2
 by_cases alj:i=S7 l
 .-- at the end
  subst alj;have mY:∀ty,∃v' w',(Tu #[S,S] ty #[x0,.slice (S8 ⟨vb,0,S_⟩) v.length vc]).run P w=.ok v' w'/\w'.ownsRow 0 E K v' (S7 l+S7 v) (xs++ys)/\w.grownBy w' x0.ownBlock/\(v'.ownBlock=x0.ownBlock\/∀k,v'.ownBlock=S8 k->w.heap.size<=k)/\w.drawn<=w'.drawn:=λty=>
   Zzo w S ty E i0 z K BY hu vR hz bf lC cu hK x0 l.length xs cT ⟨vb,0,S_⟩ v.length vc ys hyl (λj u hj=>ij.cells (g:=vb) rfl j u hj) jp.2.2 lE hb
  obtain⟨v',w',uL,cY,bJ,mZ,fC⟩:=mY 0;have im:∀ty,(Tu #[S,S] ty #[x0,.slice (S8 ⟨vb,0,S_⟩) v.length vc]).run P w=.ok v' w':=λty=>uL;have aEd:=cY.lt;have k5:Calls P F #[x0,.int .i64 (S7 l:Int),.slice (S8 ⟨vb,0,S_⟩) v.length vc] w λe w1=>e=.returned v'/\w'=w1:=by
   subst q0;refine bD a0 l.length c0 vb v.length vc w w' v' ?_ ?_ hv ?_ (Uh ek C9) im
   .rcases cT.2 with⟨h,h0⟩|⟨g,cap,cur,h1,_,h2,h3,h4,_⟩
    all_goals grind
   .rcases cT.2 with⟨h,h0⟩|⟨g,cap,cur,h1,_,h2,h3,h4,_⟩
    all_goals grind
   .rintro rfl;rcases cT.2 with⟨h,h0⟩|⟨g,cap,cur,h1,_⟩
    all_goals grind
  refine k5.mono ?_;rintro e w1 ⟨rfl,rfl⟩;have k6:xs.take (S7 l*K)++ys++xs.drop (S7 l*K)=xs++ys:=by rw[<-hxl];simp
  have qN:∀k,x0.ownBlock=S8 k->¬S' k/\¬no k/\k<w.heap.size:=by
   intro k hk;exact c7 k (by subst q0;cases a0<;>simp[Value.ownBlock]at hk<;>simp[sU,hk])
  refine Sk (hL:=pQ.C7) hS bu (by rw[k4];exact cY) (by simp_all) ⟨bJ.os,bJ.tape,bJ.output,bJ.size,λk hk=>bJ.block k (bu k hk) (λh=>(qN k h.symm).2.1 hk),fC⟩ (λk hk=>bJ.block k (hS k hk) (λh=>(qN k h.symm).1 hk)) ?_
  grind
 .have jj:i<S7 l:=by omega
  obtain⟨b,c,cur,h1,jU,d7,iS,xq,k6⟩ : ∃b c cur,x0=.slice (S8 ⟨b,0,S_⟩) l.length c/\w.heap[b]?=S8 (.cells cur E (0,0))/\S7 l<=c/\c<=maxLen/\cur.size=c*K/\cur.toList.take (S7 l*K)=xs:=by
   rcases cT.2 with⟨_,h⟩|⟨g,cap,cur,h1,_,h2,h3,h4,h5,h6⟩
   all_goals grind
  subst h1;have iG:∀u∈cur.toList.take (S7 l*K),u.oneCell'=Tl:=by rw[k6];exact fO.2.2
  have m5:vb≠b:=λh=>gD b rfl (by rw[h];rfl);have d8:=c7 b rfl;have GQ:i*K<=S7 l*K:=Tf _ hi;have gE:cur.toList.take (i*K)++bi.toList.take (S7 v*K)++(cur.toList.drop (i*K)).take ((S7 l-i)*K)=xs.take (i*K)++ys++xs.drop (i*K):=by
   rw[hyt,<-k6,UD,Nat.min_eq_left GQ,List.drop_take,Ws]
  by_cases rP:S7 l+S7 v<=c
  .refine(shift b l.length c i vb v.length vc cur bi w jj hv rP iS m5 jU xq lQ ek tV iG iF).mono ?_;rintro e w' ⟨R,rfl,fC,bJ,GR,Ri,KU⟩;rw[gE]at KU;refine Sk (hL:=pQ.C7) hS bu (by rw[k4];exact⟨by rw[fk.1,k4],.inr ⟨b,c,R,rfl,UK _,GR,rP,iS,Ri,KU⟩⟩) fk ⟨bJ.os,bJ.tape,bJ.output,bJ.size,λk hk=>bJ.block k (bu k hk) (λh=>d8.2.1 (by cases h;exact hk)),fC⟩ (λk hk=>bJ.block k (hS k hk) (λh=>d8.1 (by cases h;exact hk))) ?_;intro k hk;cases hk
   grind
  .refine(grow b l.length c i vb v.length vc cur bi w jj hv d7 (by omega) hb jU xq lQ ek tV iG iF).mono ?_;rintro e w' ⟨G,R,rfl,fC,Ea,GR,C_,Da,Ri,KU⟩;rw[gE]at KU;refine Sk (hL:=pQ.C7) hS bu (by rw[k4];exact⟨by rw[fk.1,k4],.inr ⟨w.heap.size,G,R,rfl,UK _,GR,C_,Da,Ri,KU⟩⟩) fk ⟨Ea.os,Ea.tape,Ea.output,Ea.size,λk hk=>Ea.block k (bu k hk),fC⟩ (λk hk=>Ea.block k (hS k hk)) ?_;intro k hk;obtain rfl:w.heap.size=k:=Option.some.inj hk
   grind
theorem ZVE(hf:xc P F)(n:Nat)
  (m6:n=0->∀w,Calls P F #[.slice S_ 0 0,.int .i64 (n:Int)] w λe w'=>e=.returned (.slice S_ 0 0)/\w'=w)
  (grow:0<n->∀w,Calls P F #[.slice S_ 0 0,.int .i64 (n:Int)] w λe w'=>∃(G:Nat)(cs:Array Value),e=.returned (.slice (S8 ⟨w.heap.size,0,S_⟩) 0 G)/\w'=w.drew.alloc (.cells cs E)/\cs.size=G*K/\G<=maxLen)
   :rX P F [] [.one (.lit (.slice S_ 0 0)),.one (.lit (.int .i64 (n:Int)))] [(99999,.rows E K ([]:S5 α).length (pw enc d ([]:S5 α)))] (.one (.p8 99999 ([]:S5 α).length)):=by
 refine⟨hf,λno S' m w vs hS bu pQ rr=>?_⟩;obtain⟨hl,rr⟩:=rr;obtain⟨x0,iz,jo⟩:=rr 0 _ rfl;obtain⟨x1,gf,jL⟩:=rr 1 _ rfl;have tV:vs=[x0,x1]:=by
  match vs,hl with
  | [a,b],_=>simp_all
 subst tV;cases jo;cases jL;have hz:∀w,yd S' w K enc d ([]:S5 α) []:=λw=>⟨by simp,λi j hi=>aFe hi (by simp),by simp⟩;rcases Nat.eq_zero_or_pos n with h0|h0
 .refine(m6 h0 w).mono ?_;rintro e w' ⟨rfl,rfl⟩;exact Sk (hL:=pQ.C7) hS bu ⟨by simp,.inl ⟨rfl,rfl⟩⟩ (hz _) ⟨rfl,rfl,rfl,Tq _,λ_ _=>rfl,Tq _⟩ (λ_ _=>rfl) (λk hk=>by cases hk)
 .refine(grow h0 w).mono ?_;rintro e w' ⟨G,cs,rfl,rfl,h1,h2⟩;have cQ:∀k,k<w.heap.size->(w.drew.alloc (.cells cs E)).heap[k]?=w.heap[k]?:=λk hk=>by
   show (w.heap.push (.cells cs E))[k]?=w.heap[k]?
   grind
  have eu:(w.drew.alloc (.cells cs E)).heap[w.heap.size]?=S8 (.cells cs E):=by
   show (w.heap.push (.cells cs E))[w.heap.size]?=_;simp
  refine Sk (hL:=pQ.C7) hS bu (xs:=[]) ⟨by simp,.inr ⟨w.heap.size,G,cs,rfl,UK _,eu,UK _,h2,h1,by simp⟩⟩ (hz _) ⟨rfl,rfl,rfl,by simp_all,λk hk=>cQ k (bu k hk),UN _⟩ (λk hk=>cQ k (hS k hk)) ?_;intro k hk;obtain rfl:w.heap.size=k:=Option.some.inj hk
  grind
end
section
variable{n m i:Nat}{W:World}{cur:Array Value}
theorem ZQg(h:i<n):WD (n+m-i) (n+m-(i+m))=n-i:=by simp only[WG];split<;>omega
theorem ZBm(h:i<n):WD m (n+m-i)=m:=by simp only[WG];split<;>omega
theorem ZQf(h:i<n):WD (n-i) (n+m-(i+m))=n-i:=by simp only[WG];split<;>omega
theorem ZBG{vb E:Nat}{bi:Array Value}(h:W.heap[vb]?=S8 (.cells bi E (0,0)))(k:Nat):∀j v,(bi.toList.take k)[j]?=S8 v->W.cell? (Addr.add ⟨vb,0,S_⟩ j)=S8 v:=λj v hj=>by
 rw[Aj,TX]
 rw[Ur]at hj
 split at hj
 .rw[cell_of_row W vb _ bi E (0,0) h]
  simpa using hj
 .cases hj
theorem ZKF{b E:Nat}(h:W.heap[b]?=S8 (.cells cur E (0,0)))(o k:Nat):∀j v,((cur.toList.drop o).take k)[j]?=S8 v->W.cell? (Addr.add ⟨b,o,S_⟩ j)=S8 v:=λj v hj=>by
 rw[Aj]
 rw[Ur]at hj
 split at hj
 .rw[Us]at hj
  rw[cell_of_row W b _ cur E (0,0) h]
  simpa using hj
 .cases hj
theorem ZQy{o k:Nat}(h1:∀v∈cur.toList.take n,v.oneCell'=Tl)(hk:o+k<=n:=by omega):∀v∈(cur.toList.drop o).take k,v.oneCell'=Tl:=λv hv=>h1 v (by
 obtain⟨j,hj⟩:=List.getElem?_of_mem hv
 rw[Ur]at hj
 split at hj
 .rw[Us]at hj
  exact List.mem_of_getElem? (i:=o+j) (by rw[Ur,aFa (by omega)];exact hj)
 .cases hj)
section
variable {P:Program} {S E K:Nat} (hS:P.underlying S = S8 (.slice E)) (bf:(P.info? E).map (·.size) = S8 K) {b n c i vb m vc:Nat} {cur bi:Array Value} {w:World}
 (hi:i<n) (hm:0<m) (uw:w.heap[b]?=S8 (.cells cur E (0,0))) (xq:cur.size=c*K) (r9:w.heap[vb]?=S8 (.cells bi E (0,0))) (C9:m<=vc) (tV:bi.size=vc*K)
 (vS:∀v∈cur.toList.take (n*K),v.oneCell'=Tl) (BJ:∀v∈bi.toList.take (m*K),v.oneCell'=Tl)
include hS bf hi hm uw xq r9 C9 tV vS BJ
theorem Zxo(rP:n+m<=c)(iX:vb≠b):∃(M1 R:Array Value),
  (∀ty dc sc,(Wr #[S,S] ty #[.slice (S8 ⟨b,(i+m)*K,S_⟩) (n+m-(i+m)) dc,.slice (S8 ⟨b,i*K,S_⟩) (n+m-i) sc]).run P w.drew=.ok (goInt ((n-i:Nat):Int)) (w.drew.setRow b M1)) /\
  (∀W:World,W.heap=(w.drew.setRow b M1).heap->∀ty dc,(Wr #[S,S] ty #[.slice (S8 ⟨b,i*K,S_⟩) (n+m-i) dc,.slice (S8 ⟨vb,0,S_⟩) m vc]).run P W=.ok (goInt (m:Int)) (W.setRow b R)) /\
  w.drawn<=((w.drew.setRow b M1).setRow b R).drawn/\w.grownBy ((w.drew.setRow b M1).setRow b R) (S8 b)/\((w.drew.setRow b M1).setRow b R).heap[b]?=S8 (.cells R E (0,0))/\R.size=c*K /\
  R.toList.take ((n+m)*K)=cur.toList.take (i*K)++bi.toList.take (m*K)++(cur.toList.drop (i*K)).take ((n-i)*K):=by
 have f1:(i+m)*K=i*K+m*K:=TJ _ _ _;have f2:(n+m)*K=n*K+m*K:=TJ _ _ _;have f3:(n-i)*K=n*K-i*K:=Ws _ _ _;have f4:i*K<=n*K:=Tf K (by omega);have f5:(n+m)*K<=c*K:=Tf K rP;have f6:m*K<=vc*K:=Tf K C9;have cE:S7 cur.toList=c*K:=by simp[xq]
 have md:S7 bi.toList=vc*K:=by simp[tV]
 obtain⟨D,hD⟩ : ∃D,D=(cur.toList.drop (i*K)).take ((n-i)*K):=⟨_,rfl⟩;have me:S7 D=n*K-i*K:=by rw[hD,TQ,Uv];omega
 obtain⟨V,hV⟩ : ∃V,V=bi.toList.take (m*K):=⟨_,rfl⟩;have mf:S7 V=m*K:=by rw[hV,TQ];omega
 obtain⟨M1,mg⟩ : ∃M1,M1=wg cur.toList ((i+m)*K) D:=⟨_,rfl⟩;have aEk:S7 M1=c*K:=by rw[mg];simp only[wg,TL,TQ,Uv];omega
 obtain⟨R3,EI⟩ : ∃R3,R3=wg M1 (i*K) V:=⟨_,rfl⟩;have iY:S7 R3=c*K:=by rw[EI];simp only[wg,TL,TQ,Uv];omega
 have ka:(w.drew.setRow b M1.toArray).heap[b]?=S8 (.cells M1.toArray E (0,0)):=setRow_heap _ _ _ _ _ _ uw;refine⟨M1.toArray,R3.toArray,λty dc sc=>?_,λW hW ty dc=>?_,UN _,⟨rfl,rfl,rfl,by simp,λk _ hk=>?_⟩,setRow_heap _ b _ R3.toArray _ _ ka,by simpa using iY,?_⟩
 .have h:=ZqD (P:=P) w.drew S S ty E K b ((i+m)*K) (n+m-(i+m)) dc ⟨b,i*K,S_⟩ (n+m-i) sc cur E D hS bf (by rw[ZQg hi,me,f3]) (by rw[hD];exact ZKF (W:=w.drew) uw _ _) uw (by omega) (by rw[hD];exact ZQy vS);rw[ZQg hi,<-mg]at h;exact h
 .have h:=ZqD (P:=P) W S S ty E K b (i*K) (n+m-i) dc ⟨vb,0,S_⟩ m vc M1.toArray E V hS bf (by rw[ZBm hi,mf]) (by rw[hV];exact ZBG (by rw[hW,setRow_other _ _ _ _ iX];exact r9) _) (by rw[hW];exact ka) (by simp only[Wq];omega) (by rw[hV];exact BJ);rw[ZBm hi,<-EI]at h;exact h
 .have qN:k≠b:=λh=>hk (by rw[h]);rw[setRow_other _ _ _ _ qN,setRow_other _ _ _ _ qN];rfl
 .rw[<-hD,<-hV];show R3.take _=_;apply UW;intro k;rw[Ur];split
  .rename_i hk;rw[EI,JN _ _ _ (by omega),mg,JN _ _ _ (by omega)];by_cases h1:k<i*K
   .rw[aE_ (by omega),aE_ (by omega),Vl,Ud (by simp;omega),Ur,aFa h1]
   .by_cases h2:k<(i+m)*K
    .rw[aFa ⟨by omega,by omega⟩,Vl,TM (by simp;omega),Ud (by simp;omega)];congr 1;simp;omega
    .rw[aE_ (by omega),aFa ⟨by omega,by omega⟩,TM (by rw[TL];simp;omega)];congr 1;rw[TL];simp;omega
  .rename_i hk;rw[Wp (by rw[TL,TL];simp;omega)]
theorem ZyG{BY:Nat}{i0:TypeInfo}{z:Value}(hBY:0<BY)(hK:0<K)(vR:P.info? E=S8 i0)(fD:i0.zero=S8 z)(cu:i0.size=K)(fe:i0.bytes=BY)(hzc:z.cells.size=K)(h3:P.underlying 3=S8 (.int .i64))(d7:n<=c)(rP:c<n+m)(dC:(n+m)*BY<=140737488355328):∃(G:Nat)(W1:World)(R2 R:Array Value),
  (∀ty,(Tu #[S,3] ty #[.slice (S8 ⟨b,0,S_⟩) i c,.int .i64 ((n:Int)+(m:Int)-(i:Int))]).run P w=.ok (.slice (S8 ⟨w.heap.size,0,S_⟩) (n+m) G) W1) /\
  (∀(W:World),W.heap=W1.heap->∀ty dc,(Wr #[S,S] ty #[.slice (S8 ⟨w.heap.size,i*K,S_⟩) (n+m-i) dc,.slice (S8 ⟨vb,0,S_⟩) m vc]).run P W=.ok (goInt (m:Int)) (W.setRow w.heap.size R2)) /\
  (∀(W:World),W.heap[w.heap.size]?=S8 (.cells R2 E (0,0))->W.heap[b]?=S8 (.cells cur E (0,0))->∀ty dc sc,(Wr #[S,S] ty #[.slice (S8 ⟨w.heap.size,(i+m)*K,S_⟩) (n+m-(i+m)) dc,.slice (S8 ⟨b,i*K,S_⟩) (n-i) sc]).run P W=.ok (goInt ((n-i:Nat):Int)) (W.setRow w.heap.size R)) /\
  (W1.setRow w.heap.size R2).heap[w.heap.size]?=S8 (.cells R2 E (0,0))/\(W1.setRow w.heap.size R2).heap[b]?=S8 (.cells cur E (0,0))/\Below w.heap.size w W1/\w.drawn<=W1.drawn /\
  n+m<=G/\G<=maxLen/\R.size=G*K/\R.toList.take ((n+m)*K)=cur.toList.take (i*K)++bi.toList.take (m*K)++(cur.toList.drop (i*K)).take ((n-i)*K):=by
 have f1:(i+m)*K=i*K+m*K:=TJ _ _ _;have f2:(n+m)*K=n*K+m*K:=TJ _ _ _;have f3:(n-i)*K=n*K-i*K:=Ws _ _ _;have f4:i*K<=n*K:=Tf K (by omega);have f5:n*K<=c*K:=Tf K d7;have f6:m*K<=vc*K:=Tf K C9;have cE:S7 cur.toList=c*K:=by simp[xq]
 have md:S7 bi.toList=vc*K:=by simp[tV]
 have jG:b<w.heap.size:=(V5.1 uw).1;have jH:vb<w.heap.size:=(V5.1 r9).1;have hnm:n+m<=140737488355328:=Uh (Nat.le_mul_of_pos_right _ hBY) dC;have hkk:(n:Int)+(m:Int)-(i:Int)=((n+m-i:Nat):Int):=by omega
 have GQ:i+(n+m-i)=n+m:=by omega
 have cQ:(Uk i0.size i (.slice (S8 ⟨b,0,S_⟩) i c)).run P w.drew=.ok (cur.toList.take (i*K)).toArray w.drew:=by
  rw[cu];exact run_firstCells_some w.drew K i ⟨b,0,S_⟩ i c (cur.toList.take (i*K)) (by simp;omega) (ZBG (W:=w.drew) uw _)
 obtain⟨G,hG⟩ : ∃G,G=grownCap w (n+m) c E:=⟨_,rfl⟩;obtain⟨g5,iZ⟩ : ∃g5:Array Value,g5=(cur.toList.take (i*K)).toArray++UU z.cells (n+m-i)++UU z.cells (G-(n+m)):=⟨_,rfl⟩;have C_:n+m<=G:=by rw[hG];exact grownCap_ge w _ _ _
 have Da:G<=maxLen:=by rw[hG];exact grownCap_le_maxLen w (n+m) c E (by unfold maxLen;omega)
 have f7:(n+m)*K<=G*K:=Tf K C_;have f8:(n+m-i)*K=(n+m)*K-i*K:=Ws _ _ _;have f9:(G-(n+m))*K=G*K-(n+m)*K:=Ws _ _ _;have Ri:g5.size=G*K:=by
  rw[iZ];simp only[Array.size_append,size_zeroCells,hzc,Wq,TQ];omega
 have KU:g5.toList.take (i*K)=cur.toList.take (i*K):=by
  rw[iZ];simp only[Array.toList_append,Vl];rw[List.take_append_of_le_length (by simp;omega)];simp[UD]
 obtain⟨V,hV⟩ : ∃V,V=bi.toList.take (m*K):=⟨_,rfl⟩;have mf:S7 V=m*K:=by rw[hV,TQ];omega
 obtain⟨D,hD⟩ : ∃D,D=(cur.toList.drop (i*K)).take ((n-i)*K):=⟨_,rfl⟩;have me:S7 D=n*K-i*K:=by rw[hD,TQ,Uv];omega
 have hRl:S7 g5.toList=G*K:=by simpa using Ri
 obtain⟨R2,Jr⟩ : ∃R2,R2=wg g5.toList (i*K) V:=⟨_,rfl⟩;have aEj:S7 R2=G*K:=by rw[Jr];simp only[wg,TL,TQ,Uv];omega
 obtain⟨R3,EI⟩ : ∃R3,R3=wg R2 ((i+m)*K) D:=⟨_,rfl⟩;have iY:S7 R3=G*K:=by rw[EI];simp only[wg,TL,TQ,Uv];omega
 obtain⟨W1,jI⟩ : ∃W1,W1=w.drew.alloc (.cells g5 E):=⟨_,rfl⟩;have hWN:W1.heap[w.heap.size]?=S8 (.cells g5 E (0,0)):=by rw[jI];exact heap_alloc_new w.drew _
 have hWb:W1.heap[b]?=S8 (.cells cur E (0,0)):=by rw[jI,heap_alloc_old w.drew _ jG];exact uw
 have hWv:W1.heap[vb]?=S8 (.cells bi E (0,0)):=by rw[jI,heap_alloc_old w.drew _ jH];exact r9
 refine⟨G,W1,R2.toArray,R3.toArray,λty=>?_,λW hW ty dc=>?_,λW hN hB ty dc sc=>?_,setRow_heap _ _ _ _ _ _ hWN,?_,?_,?_,C_,Da,by simpa using iY,?_⟩
 .have h:=Lib.run_append_grow_zeros w S 3 ty E i0 _ .i64 .i64 hS h3 vR fD (S8 ⟨b,0,S_⟩) i c (cur.toList.take (i*K)) cQ (n+m-i) (by omega) (by omega) (by omega) (by omega) (by rw[fe];exact Uh (Tf BY (by omega)) (Uh dC (by omega))) (by rw[fe,GQ];exact growslice_fits rP dC);rw[GQ,<-hG,<-iZ,<-jI]at h;rw[hkk];exact h
 .have h:=ZqD (P:=P) W S S ty E K w.heap.size (i*K) (n+m-i) dc ⟨vb,0,S_⟩ m vc g5 E V hS bf (by rw[ZBm hi,mf]) (by rw[hV];exact ZBG (by rw[hW];exact hWv) _) (by rw[hW];exact hWN) (by omega) (by rw[hV];exact BJ);rw[ZBm hi,<-Jr]at h;exact h
 .have h:=ZqD (P:=P) W S S ty E K w.heap.size ((i+m)*K) (n+m-(i+m)) dc ⟨b,i*K,S_⟩ (n-i) sc R2.toArray E D hS bf (by rw[ZQf hi,me,f3]) (by rw[hD];exact ZKF hB _ _) hN (by simp only[Wq];omega) (by rw[hD];exact ZQy vS);rw[ZQf hi,show R2.toArray.toList=R2 from rfl,<-EI]at h;exact h
 .rw[setRow_other _ _ _ _ (by omega)];exact hWb
 .rw[jI];exact⟨rfl,rfl,rfl,by simp,λk hk=>heap_alloc_old w.drew _ hk⟩
 .rw[jI];exact UN _
 .rw[<-hD,<-hV];show R3.take _=_;apply UW;intro k;rw[Ur];split
  .rename_i hk;rw[EI,JN _ _ _ (by omega),Jr,JN _ _ _ (by omega)];by_cases h1:k<i*K
   .rw[aE_ (by omega),aE_ (by omega),Vl,Ud (by simp;omega),<-KU,Ur,aFa h1]
   .by_cases h2:k<(i+m)*K
    .rw[aE_ (by omega),aFa ⟨by omega,by omega⟩,Vl,TM (by simp;omega),Ud (by simp;omega)];congr 1;simp;omega
    .rw[aFa ⟨by omega,by omega⟩,TM (by rw[TL];simp;omega)];congr 1;rw[TL];simp;omega
  .rename_i hk;rw[Wp (by rw[TL,TL];simp;omega)]
end
theorem ZQe{c:Nat}(hi:i<n)(hm:0<m)(rP:n+m<=c)(cR:c<=2 ^ 63-1):¬((m:Int)=0)/\¬((i:Int)=(n:Int))/\TZ.wrap ((i:Int)+(m:Int))=(i:Int)+(m:Int)/\TZ.wrap ((n:Int)+(m:Int))=(n:Int)+(m:Int)/\(0:Int)<=(i:Int)+(m:Int)/\i<=n/\((i:Int)+(m:Int)).toNat=i+m/\¬(c=i+m)/\(i:Int)<=(n:Int)+(m:Int)/\¬(c=i):=
 ⟨by omega,by omega,by rw[Wv];omega,by rw[Wv];omega,by omega,by omega,by omega,by omega,by omega,by omega⟩
theorem ZIU{c G b vb s:Nat}(hi:i<n)(hm:0<m)(rP:c<n+m)(d7:n<=c)(C_:n+m<=G)(Da:G<=maxLen)(jG:b<s)(jH:vb<s):¬((m:Int)=0)/\¬((i:Int)=(n:Int))/\(c:Int)<(n:Int)+(m:Int)/\b≠s/\vb≠s/\¬(G=i)/\¬(G=i+m)/\¬(c=i)/\G<=2 ^ 63-1/\i<=n/\((i:Int)+(m:Int)).toNat=i+m/\TZ.wrap ((i:Int)+(m:Int))=(i:Int)+(m:Int)/\(0:Int)<=(i:Int)+(m:Int)/\(i:Int)<=(n:Int):=by
 have mh:=Da;unfold maxLen at mh;exact⟨by omega,by omega,by omega,by omega,by omega,by omega,by omega,by omega,by omega,by omega,by omega,by rw[Wv];omega,by omega,by omega⟩
theorem ZUV{w W1:World}{R2 R:Array Value}{E K G nm:Nat}{l:S5 Value}(h1:w.drawn<=W1.drawn)(cd:Below w.heap.size w W1)(hN:(W1.setRow w.heap.size R2).heap[w.heap.size]?=S8 (.cells R2 E (0,0)))(C_:nm<=G)(Da:G<=maxLen)(hR:R.size=G*K)(hF:R.toList.take (nm*K)=l) :
  ∃(G':Nat)(R':Array Value),Wt (.slice (S8 ⟨w.heap.size,0,S_⟩) nm G)=Wt (.slice (S8 ⟨w.heap.size,0,S_⟩) nm G')/\w.drawn<=(((W1.setRow w.heap.size R2).drew).setRow w.heap.size R).drawn/\Below w.heap.size w (((W1.setRow w.heap.size R2).drew).setRow w.heap.size R)/\(((W1.setRow w.heap.size R2).drew).setRow w.heap.size R).heap[w.heap.size]?=S8 (.cells R' E (0,0))/\nm<=G'/\G'<=maxLen/\R'.size=G'*K/\R'.toList.take (nm*K)=l:=
 ⟨G,R,rfl,Uh h1 (by simp[World.setRow]),⟨cd.os,cd.tape,cd.output,by simpa using cd.size,λk hk=>by rw[setRow_other _ _ _ _ (by omega)];exact(setRow_other _ _ _ _ (by omega)).trans (cd.block k hk)⟩,setRow_heap _ _ _ _ _ _ hN,C_,Da,hR,hF⟩
end
section
variable{α:Type}{ev:α->S5 Value}{w:World}{enc:α->S5 C}{K:Nat}{S:Nat->Prop}{d:α}{P:Program}{g:FuncId}
theorem ZHO{w':World}(h:x_ (λk=>k<w.heap.size) w w'):∃q os,w'=grow (w.drewN q) os:=by
 refine⟨w'.drawn-w.drawn,w'.heap.extract w.heap.size w'.heap.size,?_⟩;obtain⟨h1,h2,h3,h4,h5,h6⟩:=h;have hh:w'.heap=w.heap++w'.heap.extract w.heap.size w'.heap.size:=by
  apply Array.ext_getElem?;intro k;by_cases hk:k<w.heap.size
  .rw[VI hk];exact h5 k hk
  .rw[Array.getElem?_append_right (by omega)];by_cases ur:k<w'.heap.size
   .rw[Array.getElem?_extract,aFa (by omega)];congr 1;omega
   .rw[WB (by omega),WB (by simp;omega)]
 have hd:w'.drawn=w.drawn+(w'.drawn-w.drawn):=by omega
 cases w;cases w';simp only[grow,World.drewN]at *
 subst h1 h2 h3;rw[<-hh,<-hd]
def acH:C->Value | .lit v=>v|_=>.slice S_ 0 0
theorem ZIe{m:Mp}{l:S5 Value}(h1:∀v∈l,v.oneCell'=Tl):qk S w m (l.map C.lit) l:=
 ⟨by simp,λj c h=>by
  rw[TN]at h
  cases hq:l[j]? with
  |none=>rw[hq]at h;cases h
  |some x=>rw[hq]at h;cases h;exact⟨x,rfl,.lit⟩,h1⟩
theorem ZSy[Inhabited α]{k:Nat}{cf:α->α->Int}(bk:∀x,enc x=(ev x).map .lit)(h1:∀x,∀v∈ev x,v.oneCell'=Tl)
  (jq:∀x y,yh P g [.agg (enc x),.agg (enc y)] (.one (.lit (.int .i64 (cf x y))))) (sU off size:Nat) (w:World):CmpLays P g #[] ev k cf sU off size w:=by
 intro m os dk hs x y;have h:=(jq x y).2 (λ_=>False) (sortWorldK ev k w sU off m dk os) [.agg (ev x).toArray,.agg (ev y).toArray] (λ_ h=>h.elim) ⟨rfl,λj v hj=>by
  match j,hj with
  | 0,hj=>cases hj;exact⟨_,rfl,_,rfl,by rw[bk];exact ZIe (h1 x)⟩
  | 1,hj=>cases hj;exact⟨_,rfl,_,rfl,by rw[bk];exact ZIe (h1 y)⟩
  |j+2,hj=>cases hj⟩
 refine h.mono ?_;rintro e w' ⟨v,S',rfl,hg,_,hr⟩;cases hr;exact⟨rfl,ZHO hg.below⟩
def BL{α:Type}(ev:α->S5 Value)(l:S5 α):S5 Value:=(l.map ev).flatten
theorem RS{α:Type}{ev:α->S5 Value}{K:Nat}(hk:∀x,(ev x).length=K):∀l:S5 α,(BL ev l).length=S7 l*K
 | []=>by simp[BL]
 |x :: r=>by
  have:=RS hk r
  simp only[BL,UG,Ww,TL,hk,List.length_cons]at this ⊢
  rw[this,TJ];omega
theorem ZyZ{α:Type}{ev:α->S5 Value}{K:Nat}(hk:∀x,(ev x).length=K):∀(l:S5 α)(d:α)(i j:Nat),i<S7 l->j<K->(BL ev l)[i*K+j]?=(ev (l.getD i d))[j]?
 |x :: r,d,0,j,_,hj=>by
  simp only[BL,UG,Ww]
  rw[Ud (by rw[hk];omega)]
  simp
 |x :: r,d,i+1,j,hi,hj=>by
  have:=ZyZ hk r d i j (by simpa using hi) hj
  simp only[BL,UG,Ww]at this ⊢
  rw[TM (by rw[hk,TJ];omega),hk,show (i+1)*K+j-K=i*K+j by rw[TJ];omega,this]
  simp
theorem ZCI[Inhabited α](hK:0<K)(hk:∀x,(ev x).length=K)(l:S5 α):(flatK ev K l.toArray).toList=BL ev l:=by
 apply UW;intro t;by_cases ht:t<S7 l*K
 .have hi:t / K<S7 l:=WH (by rw[Ug];exact ht);have hj:t % K<K:=Ub _ hK;have:=ZyZ hk l default (t / K) (t % K) hi hj;rw[show t / K*K+t % K=t by rw[Ug];exact WT t K]at this;rw[this];have h2:(flatK ev K l.toArray)[t]! = (ev l.toArray[t / K]!)[t % K]!:=get_flatK ev K l.toArray t (by simpa using ht);have h3:t<(flatK ev K l.toArray).size:=by simpa using ht
  rw[Tv,Wz h3];rw[aFs (flatK ev K l.toArray) t h3]at h2;rw[h2];have h4:t % K<(ev l.toArray[t / K]!).length:=by rw[hk];exact hj
  rw[aFs (ev l.toArray[t / K]!) (t % K) h4];rw[Va (by rw[hk];exact hj)];simp[Ty,hi]
 .rw[Wp (by simp;omega),Wp (by rw[RS hk];omega)]
theorem ZIb(bk:∀x,enc x=(ev x).map .lit)(hk:∀x,(ev x).length=K)(h1:∀x,∀v∈ev x,v.oneCell'=Tl)(l:S5 α):yd S w K enc d l (BL ev l):=by
 refine⟨RS hk l,λi j hi hj=>?_,λx hx=>?_⟩
 .rw[ZyZ hk l d i j hi hj];have hq:j<(ev (l.getD i d)).length:=by rw[hk];exact hj
  refine⟨_,Va hq,?_⟩;simp only[pw,bk];rw[Ty,TN,Va hq];exact .lit
 .simp only[BL,List.mem_flatten,Uf]at hx;obtain⟨l',⟨a,_,rfl⟩,hx⟩:=hx;exact h1 a x hx
theorem ZIc(bk:∀x,enc x=(ev x).map .lit)(hK:0<K)(hk:∀x,(ev x).length=K){l:S5 α}{xs:S5 Value}(h:yd S w K enc d l xs):xs=BL ev l:=by
 apply UW;intro t;by_cases ht:t<S7 l*K
 .have hi:t / K<S7 l:=WH (by rw[Ug];exact ht);have hj:t % K<K:=Ub _ hK;have e:t / K*K+t % K=t:=by rw[Ug];exact WT t K
  obtain⟨x,h1,h2⟩:=h.2.1 (t / K) (t % K) hi hj;have h3:=ZyZ hk l d (t / K) (t % K) hi hj;rw[e]at h1 h3;rw[h1,h3];have hq:t % K<(ev (l.getD (t / K) d)).length:=by rw[hk];exact hj
  simp only[pw,bk]at h2;rw[Ty,TN,Va hq]at h2;rw[Va hq];cases h2;rfl
 .rw[Wp (by rw[h.1];omega),Wp (by rw[RS hk];omega)]
theorem ZFr[Inhabited α]{ρ:Ren}{E:TypeId}(L:SlLaysF0.n6 P ρ)(hf:xc P (ρ.f 6))(hg:xc P g)(hK:0<K)(bk:∀x,enc x=(ev x).map .lit)(hk:∀x,(ev x).length=K)
  (h1:∀x,∀v∈ev x,v.oneCell'=Tl) (aE:∀w,(isAgg (ρ.t 24)).run P w=.ok Tl w) (zE:∀w,(Go.sizeOf (ρ.t 24)).run P w=.ok K w)
  (cf:α->α->Int) (hO:SWO (Wo cf)) (hT:∀x y,(Wo cf) x y=Tm->(Wo cf) y x=Tm->x=y)
  (jq:∀x y,yh P g [.agg (enc x),.agg (enc y)] (.one (.lit (.int .i64 (cf x y))))) (l:S5 α) (hlen:S7 l<4611686018427387904) :
  rX P (ρ.f 6) [(100000,.rows E K l.length (pw enc d l))] [.one (.p8 100000 l.length),.one (.lit (.func (.func g) #[] #[]))]
   [(100000,.rows E K l.length (pw enc d (l.mergeSort λx y=>!(Wo cf) y x)))] (.qw []):=by
 refine⟨hf,λno S' m w vs hS bu pQ rr=>?_⟩;obtain⟨hl,rr⟩:=rr;obtain⟨x0,iz,jo⟩:=rr 0 _ rfl;obtain⟨x1,gf,jL⟩:=rr 1 _ rfl;have tV:vs=[x0,x1]:=by
  match vs,hl with
  | [a,b],_=>simp at iz gf;rw[iz,gf]
 subst tV;have e1:x1=.func (.func g) #[] #[]:=by cases jL;rfl
 subst e1;obtain⟨e0,a0,c0,q0⟩:=ZMN jo;have g0:oP [(100000,B.rows E K l.length (pw enc d l))] 100000=S8 (.rows E K l.length (pw enc d l)):=rfl;obtain⟨xs,cT,fO⟩:=yd.of (pQ.rep _ _ g0);have c7:=pQ.own _ _ g0;rw[<-e0]at cT c7;have lR:(l.mergeSort λx y=>!(Wo cf) y x).length=S7 l:=List.length_mergeSort l;have fm:∀{b:B}{id:Nat}{bb:B},oP [(100000,bb)] id=S8 b->id=100000/\b=bb:=by
  intro b id bb h;rw[tD]at h;split at h
  .rename_i e;cases h;exact⟨e.symm,rfl⟩
  .cases h
 -- what a world must be for the end
 have bD:∀(w':World),x_ no w w'->(∀b,S' b->w'.heap[b]?=w.heap[b]?)->w'.ownsRow 0 E K x0 l.length (BL ev (l.mergeSort λx y=>!(Wo cf) y x)) ->
   ∃x S1 m',Wt (.tuple #[])=.returned x/\p9 no S' S1 w w'/\(∀b,S1 b->b<w'.heap.size)/\BB no S1 m' [(100000,B.rows E K l.length (pw enc d (l.mergeSort λx y=>!(Wo cf) y x)))] w'/\o6 S1 w' m' (.qw []) x/\FT m' m:=by
  intro w' hb cK bm;refine⟨_,S',m,rfl,⟨hb,λ_ h=>h,λ_ h=>.inl h⟩,λb h=>TC (hS b h) hb.size,⟨λid b' h=>?_,λid b' h k ur=>?_,λi j b1 b2 qN h1 h2=>?_,pQ.C7⟩,⟨_,rfl,rfl,λj p hp=>by cases hp⟩,λ_ _=>rfl,rfl⟩
  .obtain⟨rfl,rfl⟩:=fm h;have hr:=ZIb (S:=S') (w:=w') (d:=d) bk hk h1 (l.mergeSort λx y=>!(Wo cf) y x);refine⟨_,e0 ▸ bm,λi j hi hj=>?_,hr.2.2⟩;exact hr.2.1 i j (by rw[lR];exact hi) hj
  .obtain⟨rfl,rfl⟩:=fm h;have:=c7 k (by rw[e0];exact ur);exact⟨this.1,this.2.1,TC this.2.2 hb.size⟩
  .exact aFe ((fm h1).1.trans (fm h2).1.symm) qN
 by_cases hn:S7 l=0
 .subst q0;have gX:l=[]:=List.length_eq_zero_iff.1 hn;rw[hn];refine(AnyF.slices_SortFunc_none L a0 c0 (.func (.func g) #[] #[]) w).mono ?_;rintro e w' ⟨rfl,rfl⟩;rw[<-hn];refine bD w' (x_.refl _ _) (λ_ _=>rfl) ?_;have hx:xs=BL ev l:=ZIc bk hK hk fO;rw[gX]at hx ⊢;rw[gX]at cT;simpa[hx,BL]using cT
 .obtain⟨b,c,cur,hq,jU,d7,iS,xq,k6⟩ : ∃b c cur,x0=.slice (S8 ⟨b,0,S_⟩) l.length c/\w.heap[b]?=S8 (.cells cur E (0,0))/\S7 l<=c/\c<=maxLen/\cur.size=c*K/\cur.toList.take (S7 l*K)=xs:=by
   rcases cT.2 with⟨_,h⟩|⟨g,cap,cur,h1,_,h2,h3,h4,h5,h6⟩
   .omega
   .exact⟨g,cap,cur,h1,h2,h3,h4,h5,h6⟩
  subst hq;clear hn q0;have d8:=c7 b rfl;have Ea:b<w.heap.size:=d8.2.2;have hnK:S7 l*K<=c*K:=Tf _ d7;have hx:xs=BL ev l:=ZIc bk hK hk fO;have hH:HoldsK ev K w b 0 l.toArray:=by
   intro j hj;rw[size_flatK]at hj;simp only[Wq]at hj;refine⟨?_,by simp[World.frozen?,jU]⟩;have h2:(cur.toList.take (S7 l*K))[j]?=(BL ev l)[j]?:=by rw[k6,hx]
   rw[WA hj,<-ZCI hK hk]at h2;simp only[World.cell?,jU,TX,Option.isSome_none,Bool.false_eq_true,aFi];rw[<-Tv,h2,Tv];have h3:j<(flatK ev K l.toArray).size:=by simpa using hj
   rw[Wz h3,aFs (flatK ev K l.toArray) j h3];rfl
  have h:=AnyQ.slices_SortFunc_total L K aE zE ev hk h1 cf hO g #[] b 0 c l.toArray w (λargs w=>Zvz hg args w) (ZSy bk h1 jq b 0 l.toArray.size w) hH Ea (by simpa using hlen) hT;simp only[Wq]at h;refine h.mono ?_;rintro e w' ⟨rfl,n,os,rfl⟩;have GR:∀k,k<w.heap.size->k≠b->(sortWorldK ev K w b 0 n (l.mergeSort λx y=>!(Wo cf) y x).toArray os).heap[k]?=w.heap[k]?:=λk ur qN=>by
   unfold sortWorldK putRowK;rw[heap_grow_old _ _ (by simpa[putRow,mapBlock,Wu]using ur)];simp[putRow,mapBlock,Wu,WC,Ne.symm qN]
  have Ob:(sortWorldK ev K w b 0 n (l.mergeSort λx y=>!(Wo cf) y x).toArray os).heap[b]?=S8 (.cells (putCells id 0 (flatK ev K (l.mergeSort λx y=>!(Wo cf) y x).toArray) cur) E (0,0)):=by
   unfold sortWorldK putRowK;rw[heap_grow_old _ _ (by simpa[putRow,mapBlock,Wu]using Ea)];simp[putRow,mapBlock,Wu,WC,jU,onCells]
  have bf:(sortWorldK ev K w b 0 n (l.mergeSort λx y=>!(Wo cf) y x).toArray os).heap.size=w.heap.size+os.size:=by
   simp[sortWorldK,putRowK,grow,putRow,mapBlock,Wu]
  refine bD _ ⟨rfl,rfl,rfl,by rw[bf];omega,λk ur=>GR k (bu k ur) (λh=>d8.2.1 (h ▸ ur)),by simp[sortWorldK,putRowK,grow,putRow,mapBlock,Wu]⟩ (λk ur=>GR k (hS k ur) (λh=>d8.1 (h ▸ ur))) ⟨by rw[RS hk,lR],.inr ⟨b,c,_,rfl,UK _,Ob,d7,iS,by simp[putCells,xq],?_⟩⟩;have iR:(flatK ev K (l.mergeSort λx y=>!(Wo cf) y x).toArray).size=S7 l*K:=by simp
  rw[<-ZCI hK hk];generalize flatK ev K (l.mergeSort λx y=>!(Wo cf) y x).toArray=R at iR ⊢;apply UW;intro j;by_cases hj:j<S7 l*K
  .rw[WA hj,Tv,Tv];have h4:j<cur.size:=by rw[xq];omega
   have h5:j<R.size:=by omega
   simp[putCells,h4,h5]
  .rw[List.getElem?_take_eq_none (by omega),Wp (by simp;omega)]
end
def ZBK:Go.Shelf.Ren:=⟨fun|6=>369|15=>381|14=>380|28=>394|29=>374|20=>386|21=>387|22=>388|23=>389|24=>390|25=>391|26=>392|27=>393|46=>398|47=>399|48=>400|49=>401|50=>402|57=>404|n=>n,fun|22=>349|24=>57|25=>226|3=>3|39=>268|0=>0|53=>302|55=>22|4=>4|46=>377|45=>376|50=>283|5=>5|9=>9|66=>386|70=>390|76=>392|77=>246|n=>n,fun|n=>n⟩
theorem amn:Go.Proofs.SlLaysF0.n6 W8 ZBK:={
 mixed:=by kernel_rfl
 f6:=⟨Tryz.f369.name,by decide,Tryz.func369.trans (aFj S8 (by kernel_rfl))⟩
 f14:=⟨Tryz.f380.name,by decide,Tryz.func380.trans (aFj S8 (by kernel_rfl))⟩
 f15:=Tryz.func381.trans (aFj S8 (by kernel_rfl))
 f20:=⟨Tryz.f386.name,by decide,Tryz.func386.trans (aFj S8 (by kernel_rfl))⟩
 f21:=⟨Tryz.f387.name,by decide,Tryz.func387.trans (aFj S8 (by kernel_rfl))⟩
 f22:=⟨Tryz.f388.name,by decide,Tryz.func388.trans (aFj S8 (by kernel_rfl))⟩
 f23:=⟨Tryz.f389.name,by decide,Tryz.func389.trans (aFj S8 (by kernel_rfl))⟩
 f24:=⟨Tryz.f390.name,by decide,Tryz.func390.trans (aFj S8 (by kernel_rfl))⟩
 f25:=⟨Tryz.f391.name,by decide,Tryz.func391.trans (aFj S8 (by kernel_rfl))⟩
 f26:=⟨Tryz.f392.name,by decide,Tryz.func392.trans (aFj S8 (by kernel_rfl))⟩
 f27:=⟨Tryz.f393.name,by decide,Tryz.func393.trans (aFj S8 (by kernel_rfl))⟩
 f28:=Tryz.func394.trans (aFj S8 (by kernel_rfl))
 f29:=Tryz.func374.trans (aFj S8 (by kernel_rfl))
 f46:=⟨Tryz.f398.name,by decide,Tryz.func398.trans (aFj S8 (by kernel_rfl))⟩
 f47:=Tryz.func399.trans (aFj S8 (by kernel_rfl))
 f48:=Tryz.func400.trans (aFj S8 (by kernel_rfl))
 f49:=⟨Tryz.f401.name,by decide,Tryz.func401.trans (aFj S8 (by kernel_rfl))⟩
 f50:=⟨Tryz.f402.name,by decide,Tryz.func402.trans (aFj S8 (by kernel_rfl))⟩
 f57:=⟨Tryz.f404.name,by decide,Tryz.func404.trans (aFj S8 (by kernel_rfl))⟩
 t0:=WL
 a0:=W6
 z0:=WY
 v0:=WS
 t3:=WK
 a3:=W5
 z3:=WX
 v3:=WR
 t4:=WJ
 a4:=W0
 z4:=WW
 v4:=WQ
 t5:=Tryz.underlying5
 a5:=Tryz.isAgg5
 z5:=Tryz.sizeOf5
 v5:=Tryz.zeroValue5
 t9:=WI
 a9:=WZ
 z9:=WV
 v9:=WO
 t22:=Tryz.underlying349
 a22:=Tryz.isAgg349
 z22:=Tryz.sizeOf349
 v22:=Tryz.zeroValue349
 t25:=Tryz.underlying226
 a25:=Tryz.isAgg226
 z25:=Tryz.sizeOf226
 v25:=Tryz.zeroValue226
 t39:=Tryz.underlying268
 a39:=Tryz.isAgg268
 z39:=Tryz.sizeOf268
 v39:=Tryz.zeroValue268
 t45:=Tryz.underlying376
 a45:=Tryz.isAgg376
 z45:=Tryz.sizeOf376
 v45:=Tryz.zeroValue376
 t46:=Tryz.underlying377
 a46:=Tryz.isAgg377
 z46:=Tryz.sizeOf377
 v46:=Tryz.zeroValue377
 t50:=Tryz.underlying283
 a50:=Tryz.isAgg283
 z50:=Tryz.sizeOf283
 v50:=Tryz.zeroValue283
 t53:=Tryz.underlying302
 a53:=Tryz.isAgg302
 z53:=Tryz.sizeOf302
 v53:=Tryz.zeroValue302
 t55:=Tryz.underlying22
 a55:=Tryz.isAgg22
 z55:=Tryz.sizeOf22
 v55:=Tryz.zeroValue22
 t66:=Tryz.underlying386
 a66:=Tryz.isAgg386
 z66:=Tryz.sizeOf386
 v66:=Tryz.zeroValue386
 t70:=Tryz.underlying390
 a70:=Tryz.isAgg390
 z70:=Tryz.sizeOf390
 v70:=Tryz.zeroValue390
 t76:=Tryz.underlying392
 a76:=Tryz.isAgg392
 z76:=Tryz.sizeOf392
 v76:=Tryz.zeroValue392
 t77:=Tryz.underlying246
 a77:=Tryz.isAgg246
 z77:=Tryz.sizeOf246
 v77:=Tryz.zeroValue246 }
def ZNU:Go.Shelf.Ren:=⟨fun|4=>312|n=>n,fun|22=>51|25=>41|3=>3|4=>4|9=>9|20=>20|0=>0|n=>n,fun|n=>n⟩
theorem ZVF:Go.Proofs.Lays8.n4 W8 ZNU:={
 mixed:=by kernel_rfl
 f4:=⟨Tryz.f312.name,by decide,Tryz.func312.trans (aFj S8 (by kernel_rfl))⟩
 t0:=WL
 a0:=W6
 z0:=WY
 v0:=WS
 t3:=WK
 a3:=W5
 z3:=WX
 v3:=WR
 t4:=WJ
 a4:=W0
 z4:=WW
 v4:=WQ
 t9:=WI
 a9:=WZ
 z9:=WV
 v9:=WO
 t20:=Tryz.underlying20
 a20:=Tryz.isAgg20
 z20:=Tryz.sizeOf20
 v20:=Tryz.zeroValue20
 t22:=Tryz.underlying51
 a22:=Tryz.isAgg51
 z22:=Tryz.sizeOf51
 v22:=Tryz.zeroValue51 }
section
def more(D:S5 Deferred)(a:Act):Act:=⟨a.tmps,a.defers++D⟩
theorem ZIL(D:S5 Deferred)(a:Act):(more D a).eval=a.eval:=by rfl
theorem Rv(D:S5 Deferred)(a:Act)(d:S6 Nat)(x:Value):(more D a).put d x=more D (a.put d x):=by cases d<;>rfl
variable{P:Program}{S S0 no:Nat->Prop}{w:World}{fn:Func}{res:V}{N r:Nat}{m:Mp}{a:Act}{x p:Value}{o:Oper}{w0:t_}{f:FuncId}{c:Code}{h1:S5 (Nat×B)}{b:B}{tmps:Array Value}
theorem ZTp{D:S5 Deferred}{K K':Act->World->Prop}{Q Q':Exit->Act->World->Prop}(hK:∀a w,K a w->K' (more D a) w)(hQ:∀e a w,Q e a w->Q' e (more D a) w)(r:Result Next)
  (h:o.upon P a K Q r):o.upon P (more D a) K' Q' r:=by
 cases r with
 |ok n w'=>
  cases n<;>simp only[Wx]at h ⊢<;>try (rw[Rv];exact hK _ _ h)
  .exact Calls.mono h λe dW q=>by
    cases e with
    |returned v=>simp only at q ⊢;rw[Rv];exact hK _ _ q
    |panicked ch=>exact hQ _ _ _ q
    |outgrown=>obtain⟨a',w3,q⟩:=q;exact⟨_,_,hQ _ _ _ q⟩
  .rename_i d;have e:({ more D a with defers:=d :: (more D a).defers }:Act).put o.dst undef=more D (({ a with defers:=d :: a.defers }:Act).put o.dst undef):=by rw[<-Rv];rfl
   rw[e];exact hK _ _ h
  .intro c cs;obtain⟨v,dW,q,hs⟩:=h c cs;refine⟨v,dW,?_,hs⟩;show K' ((more D a).put o.dst v) dW;rw[Rv];exact hK _ _ q
 |halt hh w'=>
  cases hh<;>simp only[Wx]at h ⊢;exact hQ _ _ _ h
theorem Zxr{P:Program}{ops:Array Oper}{D:S5 Deferred}{Q Q':Exit->Act->World->Prop}(hQ:∀e a w,Q e a w->Q' e (more D a) w):∀(l:S5 Oper)(a:Act)(w:World),wpList P ops Q l a w->wpList P ops Q' l (more D a) w
 | [],a,w,h=>hQ _ _ _ h
 |o :: r,a,w,h=>by
  unfold wpList at h ⊢
  have ht:(more D a).tmps=a.tmps:=rfl
  rw[ht]
  split at h
  .rename_i hw
   rw[aFa hw]
   rcases h with h|⟨h1,h2⟩
   .left
    unfold Vj at h ⊢
    rw[ZIL]
    exact ZTp (λa w=>Zxr hQ r a w) hQ _ h
   .right
    refine⟨?_,?_⟩
    .unfold Oper.asks at h1 ⊢
     rw[ZIL]
     exact h1
    .obtain⟨a',w',q⟩:=h2
     exact⟨_,_,hQ _ _ _ q⟩
  .rename_i hw
   rw[aE_ hw,Rv]
   exact Zxr hQ r _ _ h
theorem ZHZ{P:Program}{T:qP}(hT:rZ P T){N:Nat}{S0:Nat->Prop}{w0:t_}{ops:Array Oper}{ra:RA}{Q:Exit->Act->World->Prop}{l2:S5 Oper}:∀{l:S5 Oper}{i:Nat}{st pH:St}{a:Act}{w:World}{o_:S5 Prop},qZ N S0 w0 st a w ->
  Bz P N T ops ra i l st=S8 (pH,o_)->(∀q∈o_,q)->(∀a' w',qZ N S0 w0 pH a' w'->wpList P ops Q l2 a' w')->wpList P ops Q (l++l2) a w
 | [],i,st,pH,a,w,o_,tW,h,ho,hk=>by cases h;exact hk _ _ tW
 |o :: r,i,st,pH,a,w,o_,tW,h,ho,hk=>by
  simp only[Bz]at h
  split at h
  .cases h
  rename_i xf h0
  split at h
  .cases h
  rename_i st1 o1 h1
  split at h
  .cases h
  rename_i st2 o2 h2
  cases h
  have eA:qZ N S0 w0 xf a w:=by
   unfold Cp at h0;split at h0
   .cases h0;exact tW
   .exact qZ.frozen tW h0
  refine wpList_step λK hK=>OK hT eA h1 (λq hq=>ho q (T9.2 (.inl hq))) λa' w' bV=>hK _ _ ?_;exact ZHZ hT bV h2 (λq hq=>ho q (T9.2 (.inr hq))) hk
theorem ath.ends:Ends (bodyPostD P fn (uB S0 w0 res)):=by
 refine⟨λa w h=>?_,λl a w h=>h⟩;obtain⟨x,S',h,_⟩:=h;cases h
theorem wc.ofD      {args : S5 V}  (hf : P.funcs[f]? = S8 fn) (hb : fn.body = S8 c) (hn : (fn.name == "runtime.NumGoroutine") = Tm) (hN : fn.ntmps = N) (hl : TB args.length N = Tl)
  (h:∀S0 w0,Good P N S0 w0 (bodyPostD P fn (uB S0 w0 res)) [.code c] (St.init args)):wc P f args res:=by
 refine⟨⟨fn,hf,hn,by rw[hb];rfl⟩,λno S m w vs hS bu hL rr=>?_⟩;have hle:=Td hl;have tW:qZ N S ⟨w,no,m⟩ (St.init args) { tmps:=vs.toArray++VH (fn.ntmps-vs.toArray.size) undef,defers:=[] } w:=by
  refine⟨S,m,⟨by simp;have:=rr.1;omega,λt=>?_,λt ht=>?_,λid b hb=>by simp[St.init,oP]at hb,λid b hb=>by simp[St.init,oP]at hb,λi j b b' qN h1 h2=>by simp[St.init,oP]at h1,hS,rfl,bu,λ_ _=>rfl,rfl,hL⟩,p9.refl _ _ _⟩
  .rw[St.uN];by_cases ht:t<S7 args
   .have hv:args[t]?=S8 (args.getD t (.one .oF)):=by simp_all
    obtain⟨x,h1,h2⟩:=rr.2 t _ hv;have:(vs.toArray++VH (fn.ntmps-vs.toArray.size) undef).getD t undef=x:=by
     have qI:t<S7 vs:=by rw[rr.1];exact ht
     rw[T',VI (by simpa using qI)];simp[h1]
    simp_all
   .have:args.getD t (.one .oF)=.one .oF:=by simp_all
    rw[this];exact oI.oF
  .rw[St.uN]
   grind
 exact calls_of_wp_defers hf hb (h S ⟨w,no,m⟩ _ w tW)
def MJ(P:Program)(f:FuncId)(l0:S5 C)(pv:S6 V)(l1:S5 C):Prop:=
 ∀(no S:Nat->Prop)(m:Mp)(w:World),(∀b,S b->b<w.heap.size)->(∀k,no k->k<w.heap.size)->BB no S m [(100000,.box l0)] w->match pv with
  |none=>CallsD P f #[m 100000] .returning w λe u' w'=>u'=.returning/\wb S ⟨w,no,m⟩ [(100000,.box l1)] (.qw []) e w'
  |some pv=>∀x,o6 S w ru pv x->CallsD P f #[m 100000] (.panicking [{ v:=x,recovered:=Tm }]) w λe u' w'=>u'=.panicking [{ v:=x,recovered:=Tl }]/\wb S ⟨w,no,m⟩ [(100000,.box l1)] (.qw []) e w'
theorem ZDf{i:Nat}{d:Nat}{l0:S5 C}{xv:V}(hf:P.funcs[f]?=S8 fn)(hb:fn.body=S8 (.seq (.region i #[o] Tm) c))
  (hx:∀ρ w,(execOp ρ o).run P w=.ok .recover w) (hd:o.dst=S8 d) (bY:o.guard=S_) (hN:fn.ntmps=N) (hdN:T6 d N=Tl) (h1N:TB 1 N=Tl)   
  (hS:∀b,S b->b<w.heap.size) (bu:∀k,no k->k<w.heap.size) (pQ:BB no S m [(100000,.box l0)] w) {u u':FrameMode} 
  (mr:∀(c₀:Frame) cs,c₀.mode=u->(match recoverD (c₀ :: cs)with|some p=>p|none=>(.nilIface,c₀ :: cs))=(x,{ c₀ with mode:=u' } :: cs)) (mt:o6 S w ru xv x) (hxp:xv.pure=Tl)
  (h:Good P N S ⟨w,no,m⟩ (bodyPost P fn (wb S ⟨w,no,m⟩ h1 res)) [.code c] ((St.tS [.one (.ptr 100000 0)] [(100000,.box l0)]).put d xv)) :
  CallsD P f #[m 100000] u w λe ki w'=>ki=u'/\wb S ⟨w,no,m⟩ h1 res e w':=by
 refine callsD_of_wpS hf hb λc₀ cs hu=>?_;apply wpS_seq;apply wpS_region;have hr:=mr c₀ cs hu;have mu:d<N:=Td hdN;have aEm:1<=N:=Td h1N;have key:Exit.thenS (c.wpS P (bodyPostS P fn c₀ cs λe ki w'=>ki=u'/\wb S ⟨w,no,m⟩ h1 res e w')) (bodyPostS P fn c₀ cs λe ki w'=>ki=u'/\wb S ⟨w,no,m⟩ h1 res e w') .normal
   (({ tmps:=#[m 100000]++VH (fn.ntmps - #[m 100000].size) undef,defers:=[] }:Act).put (S8 d) x) ({ c₀ with mode:=u' } :: cs) w:=by
  refine wpS_of_wp ?_;have kc:∃b,m 100000=.pointer (S8 ⟨b,0,S_⟩):=by
   obtain⟨b,bB,t,hb,_⟩:=pQ.rep 100000 (.box l0) (by rfl);exact⟨b,hb⟩
  have bN:qB N ⟨no,m⟩ S m (St.tS [.one (.ptr 100000 0)] [(100000,.box l0)]) { tmps:=#[m 100000]++VH (fn.ntmps - #[m 100000].size) undef,defers:=[] } w:=by
   refine⟨by simp;omega,λt=>?_,λt ht=>?_,pQ.rep,pQ.own,pQ.inj,hS,rfl,bu,λ_ _=>rfl,rfl,pQ.C7⟩
   .cases t with
    |zero=>
     obtain⟨b,hb⟩:=kc;have e1:(St.tS [V.one (.ptr 100000 0)] [(100000,.box l0)]).get 0=.one (.ptr 100000 0):=rfl;rw[e1];have e2:(#[m 100000]++VH (fn.ntmps - #[m 100000].size) undef).getD 0 undef=.pointer (S8 ⟨b,0,S_⟩):=by
      rw[T',VI (by simp)];simp[hb]
     rw[e2];exact oI.ptr hb
    |succ t=>
     have e1:(St.tS [V.one (.ptr 100000 0)] [(100000,.box l0)]).get (t+1)=.one .oF:=rfl;rw[e1];exact oI.oF
   .cases t with
    |zero=>omega
    |succ t=>rfl
  have bZ:=bN.put (mt.anyM m hxp) mu;have hw:=h _ _ ⟨S,m,bZ,p9.refl _ _ _⟩;refine wp_mono (show c.wp P (zH P (bodyPost P fn (wb S ⟨w,no,m⟩ h1 res)) []) _ w from hw) λe a' w' hq=>?_;have hq:bodyPost P fn (wb S ⟨w,no,m⟩ h1 res) e a' w':=hq;cases e with
  |normal=>obtain⟨q1,v,q2,q3⟩:=hq;exact⟨q1,u',rfl,v,q2,rfl,q3⟩
  |ret=>obtain⟨q1,v,q2,q3⟩:=hq;exact⟨q1,u',rfl,v,q2,rfl,q3⟩
  |panic ch=>obtain⟨q1,q3⟩:=hq;exact⟨q1,u',rfl,rfl,q3⟩
  |outgrown=>obtain⟨x,S',m',q,_⟩:=hq;cases q
  |exit id=>exact hq.elim
  |goto l=>exact hq.elim
 have ja:List.range (#[o].size)=[0]:=rfl;rw[ja];have ho:(#[o]:Array Oper)[0]?=S8 o:=rfl;simp only[wpOpsS,ho,hx];rw[aFa (by simp[VF,bY])]
 grind
theorem BB.one{id:Nat}(h1:se S w m p b)(h2:∀k,sU p=S8 k->¬S k/\¬no k/\k<w.heap.size)(hm:m id=p)(hL:∀b,m.L b->no b):BB no S m [(id,b)] w:=by
 refine⟨λi b' hb=>?_,λi b' hb=>?_,λi j b1 b2 qN bL bF=>?_,hL⟩
 .rw[tD]at hb;split at hb
  .simp_all
  .cases hb
 .rw[tD]at hb;split at hb
  .simp_all
  .cases hb
 .rw[tD]at bL bF;split at bL
  .split at bF
   .omega
   .cases bF
  .cases bL
theorem aco{T:qP}(hT:rZ P T)(bf:tmps.size=N)(fH:T6 r BD=Tl)(g9:T6 r N=Tl)
  (bM:∀k,w0.F.no k->k<w.heap.size) (hg:p9 w0.F.no S0 S w0.w w) {m1:Mp} (hm1:m1 100000=tmps.getD r undef) (fS:∀b,w0.F.xg.L b->w0.F.no b) {l1:S5 C}  (bk:Ag T ⟨[(r,.one (.ptr r 0))],[(r,.box l1)]⟩ fn.results.toList=S8 res) (fI:l1.all C.pure=Tl) (bI:res.pure=Tl)
  {e:Ending} {w':World} (h:wb S ⟨w,w0.F.no,m1⟩ [(100000,.box l1)] (.qw []) e w'):∃v,e=.returned v/\Leaves P fn tmps (uB S0 w0 res) [] .returning w':=by
 obtain⟨x,S',m',rfl,h1,h2,h3,h4,h5⟩:=h;refine⟨x,rfl,?_⟩;have zB:m' 100000=tmps.getD r undef:=(h5.xg 100000 (by simp[BD])).trans hm1;have v_:=h3.rep 100000 (.box l1) (by rfl);have bm:=h3.own 100000 (.box l1) (by rfl);rw[zB]at v_ bm;obtain⟨b,bB,t,e1,e2,e3⟩:=v_;have jL:r<BD:=Td fH;have fT:r<N:=Td g9;have hs:qB N w0.F S' ⟨λk=>if k=r then tmps.getD r undef else w0.F.xg k,w0.F.xg.L⟩ ⟨[(r,.one (.ptr r 0))],[(r,.box l1)]⟩ ⟨tmps,[]⟩ w':=by
  refine⟨bf,λt=>?_,λt ht=>?_,λid b' hb=>?_,λid b' hb=>?_,λi j b1 b2 qN bL bF=>?_,h2,rfl,λk hk=>TC (bM k hk) h1.below.size,λid hid=>?_,rfl,fS⟩
  .show o6 S' w' _ (look _ _ t) _;rw[Ox];split
   .rename_i e;subst e;rw[e1];exact oI.ptr (aFa rfl)
   .exact oI.oF
  .show look _ _ t=_;rw[Ox,aE_ (by omega)];rfl
  .rw[tD]at hb;split at hb
   .rename_i e;cases hb;subst e;simp only[aFa];exact⟨b,bB,t,e1,e2,e3.anyM _ fI⟩
   .cases hb
  .rw[tD]at hb;split at hb
   .simp_all
   .cases hb
  .rw[tD]at bL bF;split at bL
   .split at bF
    .omega
    .cases bF
   .cases bL
  grind
 have dV:p9 w0.F.no S0 S' w0.w w':=hg.step h1.below h1.sub h1.sup;obtain⟨_,v,h6,h7⟩:=ZCf (P:=P) (fn:=fn) hT ⟨S',_,hs,dV⟩ bk bI;exact⟨v,h6,h7⟩
def ZLg(m:Mp)(h:S5 (Nat×B))(r:Nat)(w:World):Nat->Prop:=λk=>k<w.heap.size/\∀id b',id≠r->oP h id=S8 b'->sU (m id)≠S8 k
theorem qB.aln{F:tK}{st:St}(h:qB N F S m st a w)(hb:oP st.heap r=S8 b) :
  qB N ⟨ZLg m st.heap r w,F.xg⟩ S m ⟨st.env,ug st.heap r⟩ a w/\(∀k,F.no k->ZLg m st.heap r w k)/\(∀k,S k->ZLg m st.heap r w k)/\∀k,sU (m r)=S8 k->ZLg m st.heap r w k:=by
 have hd:∀id b',oP (ug st.heap r) id=S8 b'->id≠r/\oP st.heap id=S8 b':=λid b' bg=>by
  rw[Ha]at bg
  grind
 refine⟨⟨h.size,h.env,h.CG,λid b' bg=>h.heap id b' (hd id b' bg).2,λid b' bg k hk=>?_,λi j b1 b2 qN h1 h2=>h.inj i j b1 b2 qN (hd _ _ h1).2 (hd _ _ h2).2,h.u5,h.defers,λk hk=>hk.1,h.xg,h.len.1,λk hk=>⟨h.pJ k (h.len.2 k hk),λid b' _ hi e=>(h.own id b' hi k e).2.1 (h.len.2 k hk)⟩⟩,λk hk=>⟨h.pJ k hk,λid b' _ hi e=>(h.own id b' hi k e).2.1 hk⟩,
  λk hk=>⟨h.u5 k hk,λid b' _ hi e=>(h.own id b' hi k e).1 hk⟩,λk hk=>⟨(h.own r b hb k hk).2.2,λid b' qN hi e=>h.inj id r b' b qN hi hb k e hk⟩⟩
 obtain⟨h1,h2⟩:=hd id b' bg;obtain⟨h3,h4,h5⟩:=h.own id b' h2 k hk;exact⟨h3,λe=>e.2 id b' h1 h2 hk,h5⟩
theorem alM{fn:Fn}{na nb:Nat}{a b:Nat->C}(h:oI S w m (.qs fn na nb a b) x):∃xs ys:Array Value,x=.func fn xs ys/\xs.size=na/\ys.size=nb/\∀i,i<nb->oI S w m (b i) (ys.getD i undef):=by
 cases h with
 |qs xs ys ha hb=>grind
theorem ZPw{d:S6 Nat}{t:Nat}(h:d≠S8 t):(a.put d x).tmps.getD t undef=a.tmps.getD t undef:=by
 cases d with
 |none=>rfl
 |some d=>
  have qN:d≠t:=λe=>h (by rw[e]);simp only[Act.put,T'];simp_all
theorem Zxq{P:Program}{ops:Array Oper}{Q:Exit->Act->World->Prop}{t:Nat}{x:Value}:∀(l:S5 Oper)(a:Act)(w:World),(∀o∈l,o.dst≠S8 t)->a.tmps.getD t undef=x->wpList P ops Q l a w ->
  wpList P ops (λe a' w'=>Q e a' w'/\(e=.outgrown\/a'.tmps.getD t undef=x)) l a w
 | [],a,w,hd,hx,h=>⟨h,.inr hx⟩
 |o :: r,a,w,hd,hx,h=>by
  have ho:=hd o U0
  have hr:∀o∈r,o.dst≠S8 t:=λo h=>hd o (U1 _ h)
  have hK:∀v w',wpList P ops Q r (a.put o.dst v) w'->wpList P ops (λe a' w'=>Q e a' w'/\(e=.outgrown\/a'.tmps.getD t undef=x)) r (a.put o.dst v) w':=λv w' h=>Zxq r _ _ hr ((ZPw ho).trans hx) h
  have hL:LetsOut Q->LetsOut (λe a' w'=>Q e a' w'/\(e=.outgrown\/a'.tmps.getD t undef=x)):=λ⟨a',w',q⟩=>⟨a',w',q,.inl rfl⟩
  unfold wpList at h ⊢
  split at h
  .rename_i hw
   rw[aFa hw]
   rcases h with h|⟨h1,h2⟩
   .left
    unfold Vj at h ⊢
    generalize (execOp a.eval o).run P w=res at h
    cases res with
    |ok n w'=>
     cases n<;>simp only[Wx]at h ⊢<;>try (exact hK _ _ h)
     .exact Calls.mono h λe dW q=>by
       grind
     .exact Zxq r _ _ hr ((ZPw (a:={ a with defers:=_ }) ho).trans hx) h
     .intro c cs
      obtain⟨v,dW,q,hs⟩:=h c cs
      grind
    |halt hh w'=>
     cases hh<;>simp only[Wx]at h ⊢
     exact⟨h,.inr hx⟩
   simp_all
  simp_all
theorem ZEs{R:Ending->World->Prop}{qs:Nat}{u u1:FrameMode}{w1:t_}(hu:u≠.run)(uK:settle u1=.returning)
  (bW:(invoke (.fn (.func qs) #[p]) #[]).run P w=.ok (.enter qs #[p]) w) (h:CallsD P qs #[p] u w λe u' w'=>u'=u1/\wb S w1 h1 res e w')
  (hk:∀e w',wb S w1 h1 res e w'->∃v,e=.returned v/\Leaves P fn tmps R [] .returning w'):Leaves P fn tmps R [{ target:=.fn (.func qs) #[p],args:=#[] }] u w:=by
 refine leaves_cons (f:=qs) (args:=#[p]) hu bW (h.mono λe u' w' hq=>?_)
 grind
section
variable {P:Program} {T:qP} {N:Nat} {f:FuncId} {fn:Func} {i0 i1 i2:Nat} {bO bn:Array Oper} {o1 o2:Oper} {args:S5 V} {res:V} {fJ xR gq:RA} {st1 st2 zk:St} {ce dE hZ Cq:S5 Prop} {k r qs:Nat} {fa fb:Nat->C} {l0 l1:S5 C}
theorem wc.acq(hT:zG P T)(hf:P.funcs[f]?=S8 fn)(hb:fn.body=S8 (.seq (.region i0 bO Tm) (.seq (.region i1 #[o1,o2] Tm) (.seq (.region i2 bn Tm) .ret))))
  (hn : (fn.name == "runtime.NumGoroutine") = Tm) (hN : fn.ntmps = N) (hl : TB args.length N = Tl)
  (e0:Bz P N T bO fJ 0 bO.toList (St.init args)=S8 (st1,ce)) (p0:sx ce) (e1:Ef P N T #[o1,o2] xR 0 o1 st1=S8 (st2,dE)) (p1:sx dE)
  (hk:st2.get k=.one (.qs (.func qs) 0 1 fa fb)) (d8:fb 0=.ptr r 0) (hr:st2.get r=.one (.ptr r 0)) (hC:o2.dst=S_) (hI:o2.guard=S_)
  (hP:∀(ρ:Operand->Value) w p,ρ (.tmp k)=.func (.func qs) #[] #[p]->(execOp ρ o2).run P w=.ok (.defer { target:=.fn (.func qs) #[p],args:=#[] }) w)
  (hU:bn.toList.all (λo=>Dw o.dst (S8 r))=Tl)
  (h:∀S0 w0 a w p,qZ N S0 w0 st2 a w->a.tmps.getD r undef=p->wpList P bn (λe a' w'=>e=.outgrown\/a'.tmps.getD r undef=p->bodyPostD P fn (uB S0 w0 res) (match e with | .normal=>.ret|e=>e) (more [{ target:=.fn (.func qs) #[p],args:=#[] }] a') w') bn.toList a w):wc P f args res:=by
 refine wc.ofD hf hb hn hN hl λS0 w0=>?_;refine ZGx (ZCC hT.1 e0 (wh p0.all) (ZGx ?_));intro a w hs;refine wp_region_list ?_;show wpList P _ _ [o1,o2] a w;refine wpList_step λK hK=>OK hT.1 hs e1 (wh p1.all) λa' w' bV=>hK _ _ ?_;obtain⟨S,m,bG,hg⟩:=bV;have mw:=bG.env k;rw[hk]at mw;have my:=bG.env r;rw[hr]at my;obtain⟨p,hp,jM⟩ : ∃p,a'.tmps.getD k undef=.func (.func qs) #[] #[p]/\p=a'.tmps.getD r undef:=by
  generalize hz:a'.tmps.getD k undef=z at mw;generalize hy:a'.tmps.getD r undef=y at my;obtain⟨xs,ys,rfl,e1,e2,hb⟩:=alM mw;have iz:xs = #[]:=by simp_all
  match ys,e2,hb with
  | ⟨[q]⟩,_,hb=>
   subst iz;refine⟨q,rfl,?_⟩;have h0:=hb 0 (by simp);rw[d8]at h0;have hq:(#[q]:Array Value).getD 0 undef=q:=rfl;rw[hq]at h0;cases h0 with
   |ptr hm=>
    cases my with
    |ptr zB=>simp_all
 refine wpList_step λK hK=>?_;rw[aFa (by simp[VF,hI])];have hd:(execOp a'.eval o2).run P w'=.ok (.defer { target:=.fn (.func qs) #[p],args:=#[] }) w':=hP _ _ _ (by simpa[Act.eval]using hp);unfold Vj;rw[hd];simp only[Wx];refine hK _ _ ?_;have jN:=bG.defers;have eC:({ a' with defers:={ target:=.fn (.func qs) #[p],args:=#[] } :: a'.defers }:Act).put o2.dst undef=more [{ target:=.fn (.func qs) #[p],args:=#[] }] a':=by
  rw[hC,jN];simp[Act.put,more,jN]
 rw[eC];show (Code.seq (.region i2 bn Tm) .ret).wp P _ _ w';refine wp_seq (wp_region_list ?_);refine Zxr (Q:=λe jO dW=>(e=.outgrown\/jO.tmps.getD r undef=p->bodyPostD P fn (uB S0 w0 res) (match e with | .normal=>.ret|e=>e) (more [{ target:=.fn (.func qs) #[p],args:=#[] }] jO) dW)/\(e=.outgrown\/jO.tmps.getD r undef=p)) (λe jO dW hq=>?_) _ _ _
  (Zxq _ _ _ (λo ho=>?_) jM.symm (h S0 w0 a' w' p ⟨S,m,bG,hg⟩ jM.symm))
 .have hq:=hq.1 hq.2;cases e with
  |normal=>exact wp_ret hq
  |_=>exact hq
 .have:=List.all_eq_true.1 hU o ho;intro e;rw[e]at this;simp[Dw]at this
theorem wc.N7(hT:zG P T)(hf:P.funcs[f]?=S8 fn)(hb:fn.body=S8 (.seq (.region i0 bO Tm) (.seq (.region i1 #[o1,o2] Tm) (.seq (.region i2 bn Tm) .ret))))
  (hn : (fn.name == "runtime.NumGoroutine") = Tm) (hN : fn.ntmps = N) (hl : TB args.length N = Tl)
  (e0:Bz P N T bO fJ 0 bO.toList (St.init args)=S8 (st1,ce)) (p0:sx ce) (e1:Ef P N T #[o1,o2] xR 0 o1 st1=S8 (st2,dE)) (p1:sx dE)
  (hk:st2.get k=.one (.qs (.func qs) 0 1 fa fb)) (d8:fb 0=.ptr r 0) (hr:st2.get r=.one (.ptr r 0)) (hC:o2.dst=S_) (hI:o2.guard=S_)
  (hP:∀(ρ:Operand->Value) w p,ρ (.tmp k)=.func (.func qs) #[] #[p]->(execOp ρ o2).run P w=.ok (.defer { target:=.fn (.func qs) #[p],args:=#[] }) w)
  (hU:bn.toList.all (λo=>Dw o.dst (S8 r))=Tl) (bW:∀p w,(invoke (.fn (.func qs) #[p]) #[]).run P w=.ok (.enter qs #[p]) w) (jb:T6 r BD=Tl) (g9:T6 r N=Tl)
  (e2:Bz P N T bn gq 0 bn.toList st2=S8 (zk,hZ)) (p2:sx hZ) (mz:zk.get r=.one (.ptr r 0)) (dg:oP zk.heap r=S8 (.box l0)) (gX:l0.all C.pure=Tl)
  (hc:MJ P qs l0 S_ l1) (bk:Ag T ⟨[(r,.one (.ptr r 0))],[(r,.box l1)]⟩ fn.results.toList=S8 res) (fI:l1.all C.pure=Tl) (bI:res.pure=Tl):wc P f args res:=by
 refine wc.acq hT hf hb hn hN hl e0 p0 e1 p1 hk d8 hr hC hI hP hU λS0 w0 a w p hs hp=>?_;refine ZBQ hT.1 hs e2 (wh p2.all) λa' w' bV cy=>?_;obtain⟨S,m,bG,hg⟩:=bV;have cy:a'.tmps.getD r undef=p:=cy.resolve_left (λe=>by cases e);have hB:=bG.heap r _ dg;have hO:=bG.own r _ dg;have lK:m r=p:=by
  have h1:=bG.env r;rw[mz,cy]at h1;cases h1 with
  |ptr hm=>exact hm
 rw[lK]at hB hO;have jN:=bG.defers;show Leaves P fn (more _ a').tmps (uB S0 w0 res) (more _ a').defers .returning w';have ht:(more [{ target:=.fn (.func qs) #[p],args:=#[] }] a').defers=[{ target:=.fn (.func qs) #[p],args:=#[] }]:=by simp[more,jN]
 rw[ht];obtain⟨b,bB,t,q1,q2,q3⟩:=hB;have pQ:BB w0.F.no S ⟨λ_=>p,λ_=>False⟩ [(100000,.box l0)] w':=BB.one ⟨b,bB,t,q1,q2,q3.anyM _ gX⟩ hO rfl (λb h=>h.elim);refine ZEs (by simp) rfl (bW p w') (hc w0.F.no S ⟨λ_=>p,λ_=>False⟩ w' bG.u5 bG.pJ pQ) λe dW hq=>?_;exact aco hT.1 bG.size jb g9 bG.pJ hg (m1:=⟨λ_=>p,λ_=>False⟩) cy.symm (λb hb=>bG.len.2 b (by rw[bG.len.1];exact hb)) bk fI bI hq
theorem wc.N8{d9 post:S5 Oper}{o:Oper}{c:Callee}{Bf:Array Operand}{bA:Array TypeId}{pa:PA}{an:S6 sF}
  (hT:zG P T) (hf:P.funcs[f]?=S8 fn) (hb:fn.body=S8 (.seq (.region i0 bO Tm) (.seq (.region i1 #[o1,o2] Tm) (.seq (.region i2 bn Tm) .ret))))
  (hn : (fn.name == "runtime.NumGoroutine") = Tm) (hN : fn.ntmps = N) (hl : TB args.length N = Tl)
  (e0:Bz P N T bO fJ 0 bO.toList (St.init args)=S8 (st1,ce)) (p0:sx ce) (e1:Ef P N T #[o1,o2] xR 0 o1 st1=S8 (st2,dE)) (p1:sx dE)
  (hk:st2.get k=.one (.qs (.func qs) 0 1 fa fb)) (d8:fb 0=.ptr r 0) (hr:st2.get r=.one (.ptr r 0)) (hC:o2.dst=S_) (hI:o2.guard=S_)
  (hP:∀(ρ:Operand->Value) w p,ρ (.tmp k)=.func (.func qs) #[] #[p]->(execOp ρ o2).run P w=.ok (.defer { target:=.fn (.func qs) #[p],args:=#[] }) w)
  (hU:bn.toList.all (λo=>Dw o.dst (S8 r))=Tl) (bW:∀p w,(invoke (.fn (.func qs) #[p]) #[]).run P w=.ok (.enter qs #[p]) w) (jb:T6 r BD=Tl) (g9:T6 r N=Tl)
  (iV:bn.toList=d9++o :: post) (e2:Bz P N T bn gq 0 d9 st2=S8 (zk,hZ)) (p2:sx hZ) (mz:zk.get r=.one (.ptr r 0)) (dg:oP zk.heap r=S8 (.box l0)) (gX:l0.all C.pure=Tl)
  (ho:o.op=.call { callee:=c,args:=Bf,argTypes:=bA }) (bY:o.guard=S_) (e3:Q6 P N ⟨zk.env,ug zk.heap r⟩ c Bf.toList pa an=S8 Cq) (p3:sx Cq)
  (hc:MJ P qs l0 (S8 pa.pv) l1) (bk:Ag T ⟨[(r,.one (.ptr r 0))],[(r,.box l1)]⟩ fn.results.toList=S8 res) (fI:l1.all C.pure=Tl) (bI:res.pure=Tl):wc P f args res:=by
 refine wc.acq hT hf hb hn hN hl e0 p0 e1 p1 hk d8 hr hC hI hP hU λS0 w0 a w p hs hp=>?_;rw[iV];refine ZHZ hT.1 hs e2 (wh p2.all) λa' w' bV=>?_;obtain⟨S,m,bG,hg⟩:=bV;refine wpList_step λK hK=>?_;rw[aFa (by simp[VF,bY])];obtain⟨kj,aw1,aw2,aw3⟩:=bG.aln dg;refine ZEL (w0:=⟨w',⟨ZLg m zk.heap r w',w0.F.xg⟩⟩) (S0:=S) kj (p9.refl _ _ _) ho e3 (wh p3.all) λx dW S' h1 h2 h3 cy=>?_;have cy:a'.tmps.getD r undef=p:=cy.resolve_left (λe=>by cases e);have hB:=bG.heap r _ dg;have hO:=bG.own r _ dg;have lK:m r=p:=by
  have h1:=bG.env r;rw[mz,cy]at h1;cases h1 with
  |ptr hm=>exact hm
 rw[lK]at hB hO;have jN:=bG.defers;show Leaves P fn (more _ a').tmps (uB S0 w0 res) (more _ a').defers (.panicking _) dW;have ht:(more [{ target:=.fn (.func qs) #[p],args:=#[] }] a').defers=[{ target:=.fn (.func qs) #[p],args:=#[] }]:=by simp[more,jN]
 rw[ht];obtain⟨b,bB,t,q1,q2,q3⟩:=hB;have fK:sU p=S8 b:=by rw[q1];rfl
 have cK:tj S w' dW:=λb' bg=>h1.below.block b' (aw2 b' bg);have pQ:BB w0.F.no S' ⟨λ_=>p,λ_=>False⟩ [(100000,.box l0)] dW:=by
  refine BB.one ⟨b,bB,t,q1,?_,(q3.anyM _ gX).rm cK h1.sub (λb h=>h.elim)⟩ (λk hk=>?_) rfl (λb h=>h.elim)
  .rw[h1.below.block b (aw3 b (by rw[lK];exact fK))];exact q2
  .obtain⟨f1,f2,f3⟩:=hO k hk;refine⟨λhs=>?_,f2,TC f3 h1.below.size⟩;rcases h1.sup k hs with hs|hs
   all_goals simp_all
 have jc:p9 w0.F.no S0 S' w0.w dW:=hg.step (h1.below.mono λk hk=>aw1 k hk) h1.sub λb hb=>(h1.sup b hb).imp id λh e=>h (aw1 b e);have bM:∀k,w0.F.no k->k<dW.heap.size:=λk hk=>TC (bG.pJ k hk) h1.below.size;refine ZEs (by simp) rfl (bW p dW) (hc w0.F.no S' ⟨λ_=>p,λ_=>False⟩ dW h2 bM pQ x h3) λe w3 hq=>?_;exact aco hT.1 bG.size jb g9 bM jc (m1:=⟨λ_=>p,λ_=>False⟩) cy.symm (λb hb=>bG.len.2 b (by rw[bG.len.1];exact hb)) bk fI bI hq
end
def ZUT(v:V)(r:Nat):Bool:=match v with
 | .one (.ptr a b)=>Tg a r&&Tg b 0
 |_=>Tm
variable{v:V}
theorem ZBl(h:ZUT v r=Tl):v=.one (.ptr r 0):=by
 unfold ZUT at h;split at h
 all_goals simp_all
def NU(v:V)(qs r:Nat):Bool:=match v with
 | .one (.qs (.func c) na nb _ b)=>Tg c qs&&Tg na 0&&Tg nb 1&&ZUT (.one (b 0)) r
 |_=>Tm
theorem ZQd{qs:Nat}(h:NU v qs r=Tl):∃fa fb,v=.one (.qs (.func qs) 0 1 fa fb)/\fb 0=.ptr r 0:=by
 unfold NU at h;split at h
 .rename_i c na nb a b;simp only[VQ]at h;obtain⟨⟨⟨h1,h2⟩,h3⟩,h4⟩:=h;have h5:=ZBl h4;rw[ta h1,ta h2,ta h3]
  grind
 .cases h
def Jd(st:St)(r:Nat):S6 (S5 C):=match ZUT (st.get r) r,oP st.heap r with
 |true,S8 (.box l)=>match l.all C.pure with
  |true=>S8 l
  |false=>S_
 |_,_=>S_
theorem ZQL{st:St}{l:S5 C}(h:Jd st r=S8 l):st.get r=.one (.ptr r 0)/\oP st.heap r=S8 (.box l)/\l.all C.pure=Tl:=by
 unfold Jd at h;split at h
 .rename_i l' h1 h2;split at h
  .rename_i h3;cases h;exact⟨ZBl h1,h2,h3⟩
  .cases h
 .cases h
def ZFx(P:Program)(N:Nat)(T:qP)(bO gu:Array Oper)(o1:Oper)(fJ xR:RA)(args:S5 V)(k r qs:Nat):S6 (St×S5 Prop):=match Bz P N T bO fJ 0 bO.toList (St.init args)with
 |some (st1,ob0)=>match Ef P N T gu xR 0 o1 st1 with
  |some (st2,KQ)=>match NU (st2.get k) qs r&&ZUT (st2.get r) r with
   |true=>S8 (st2,ob0++KQ)
   |false=>S_
  |none=>S_
 |none=>S_
def ZMz(P:Program)(N:Nat)(T:qP)(bO gu bn:Array Oper)(o1:Oper)(fJ xR gq:RA)(args:S5 V)(k r qs:Nat):S6 (S5 C×S5 Prop):=match ZFx P N T bO gu o1 fJ xR args k r qs with
 |some (st2,KQ)=>match Bz P N T bn gq 0 bn.toList st2 with
  |some (zk,Q_)=>match Jd zk r with
   |some l=>S8 (l,KQ++Q_)
   |none=>S_
  |none=>S_
 |none=>S_
def ZMA(P:Program)(N:Nat)(T:qP)(bO gu bn:Array Oper)(o1:Oper)(fJ xR gq:RA)(args:S5 V)(k r qs i:Nat)(pa:PA):S6 (S5 C×S5 Prop):=match ZFx P N T bO gu o1 fJ xR args k r qs with
 |some (st2,KQ)=>match Bz P N T bn gq 0 (bn.toList.take i) st2,bn.toList[i]? with
  |some (zk,Q_),S8 o=>match Jd zk r,o.guard,o.op with
   |some l,S_,.call { callee:=c,args:=Bf,.. }=>match Q6 P N ⟨zk.env,ug zk.heap r⟩ c Bf.toList pa (rD gq.an i)with
    |some ob3=>S8 (l,KQ++(Q_++ob3))
    |none=>S_
   |_,_,_=>S_
  |_,_=>S_
 |none=>S_
theorem sx.of:∀{l:S5 Prop},(∀q∈l,q)->sx l
 | [],_=>.n
 |p :: l,h=>.c (h p U0) (sx.of λq hq=>h q (U1 _ hq))
theorem sx.left{a b:S5 Prop}(h:sx (a++b)):sx a:=sx.of λq hq=>wh h.all q (T9.2 (.inl hq))
theorem sx.right{a b:S5 Prop}(h:sx (a++b)):sx b:=sx.of λq hq=>wh h.all q (T9.2 (.inr hq))
section
variable {P:Program} {T:qP} {N:Nat} {f:FuncId} {fn:Func} {i0 i1 i2:Nat} {bO bn:Array Oper} {o1 o2:Oper} {args:S5 V} {res:V} {o_:S5 Prop} {k r qs:Nat} {l0 l1:S5 C}
theorem wc.acp(fJ xR gq:RA)(k r qs:Nat)(hT:zG P T)(hf:P.funcs[f]?=S8 fn)(hb:fn.body=S8 (.seq (.region i0 bO Tm) (.seq (.region i1 #[o1,o2] Tm) (.seq (.region i2 bn Tm) .ret))))
  (hn : (fn.name == "runtime.NumGoroutine") = Tm) (hN : fn.ntmps = N) (hl : TB args.length N = Tl) (hC : o2.dst = S_) (hI : o2.guard = S_)
  (hP:∀(ρ:Operand->Value) w p,ρ (.tmp k)=.func (.func qs) #[] #[p]->(execOp ρ o2).run P w=.ok (.defer { target:=.fn (.func qs) #[p],args:=#[] }) w)
  (hU:bn.toList.all (λo=>Dw o.dst (S8 r))=Tl) (bW:∀p w,(invoke (.fn (.func qs) #[p]) #[]).run P w=.ok (.enter qs #[p]) w) (jb:T6 r BD=Tl) (g9:T6 r N=Tl)
  (ho:sx o_) (h:ZMz P N T bO #[o1,o2] bn o1 fJ xR gq args k r qs=S8 (l0,o_))
  (hc:MJ P qs l0 S_ l1) (bk:Ag T ⟨[(r,.one (.ptr r 0))],[(r,.box l1)]⟩ fn.results.toList=S8 res) (fI:l1.all C.pure=Tl) (bI:res.pure=Tl):wc P f args res:=by
 unfold ZMz ZFx at h;split at h;rotate_left
 .cases h
 rename_i st2 KQ h0;split at h0;rotate_left
 .cases h0
 rename_i st1 oa e0;split at h0;rotate_left
 .cases h0
 rename_i cg ob e1;split at h0;rotate_left
 .cases h0
 rename_i hq;cases h0;simp only[VQ]at hq;obtain⟨fa,fb,hk,d8⟩:=ZQd hq.1;split at h;rotate_left
 .cases h
 rename_i zk Q_ e2;split at h;rotate_left
 .cases h
 rename_i l gX;cases h;obtain⟨q1,q2,q3⟩:=ZQL gX;exact wc.N7 hT hf hb hn hN hl e0 ho.left.left e1 ho.left.right hk d8 (ZBl hq.2) hC hI hP hU bW jb g9 e2 ho.right q1 q2 q3 hc bk fI bI
theorem wc.Ja(fJ xR gq:RA)(k r qs i:Nat)(pa:PA)(hT:zG P T)(hf:P.funcs[f]?=S8 fn)(hb:fn.body=S8 (.seq (.region i0 bO Tm) (.seq (.region i1 #[o1,o2] Tm) (.seq (.region i2 bn Tm) .ret))))
  (hn : (fn.name == "runtime.NumGoroutine") = Tm) (hN : fn.ntmps = N) (hl : TB args.length N = Tl) (hC : o2.dst = S_) (hI : o2.guard = S_)
  (hP:∀(ρ:Operand->Value) w p,ρ (.tmp k)=.func (.func qs) #[] #[p]->(execOp ρ o2).run P w=.ok (.defer { target:=.fn (.func qs) #[p],args:=#[] }) w)
  (hU:bn.toList.all (λo=>Dw o.dst (S8 r))=Tl) (bW:∀p w,(invoke (.fn (.func qs) #[p]) #[]).run P w=.ok (.enter qs #[p]) w) (jb:T6 r BD=Tl) (g9:T6 r N=Tl)
  (ho:sx o_) (h:ZMA P N T bO #[o1,o2] bn o1 fJ xR gq args k r qs i pa=S8 (l0,o_))
  (hc:MJ P qs l0 (S8 pa.pv) l1) (bk:Ag T ⟨[(r,.one (.ptr r 0))],[(r,.box l1)]⟩ fn.results.toList=S8 res) (fI:l1.all C.pure=Tl) (bI:res.pure=Tl):wc P f args res:=by
 unfold ZMA ZFx at h;split at h;rotate_left
 .cases h
 rename_i st2 KQ h0;split at h0;rotate_left
 .cases h0
 rename_i st1 oa e0;split at h0;rotate_left
 .cases h0
 rename_i cg ob e1;split at h0;rotate_left
 .cases h0
 rename_i hq;cases h0;simp only[VQ]at hq;obtain⟨fa,fb,hk,d8⟩:=ZQd hq.1;split at h;rotate_left
 .cases h
 rename_i zk Q_ o e2 fi;split at h;rotate_left
 .cases h
 rename_i l c Bf bA gX bY cM;split at h;rotate_left
 .cases h
 rename_i ob3 e3;cases h;obtain⟨q1,q2,q3⟩:=ZQL gX;have qI:i<S7 bn.toList:=by
  grind
 have iV:bn.toList=bn.toList.take i++o :: bn.toList.drop (i+1):=by
  have e:bn.toList[i]=o:=by grind
  rw[<-e,<-List.drop_eq_getElem_cons qI,WE]
 exact wc.N8 hT hf hb hn hN hl e0 ho.left.left e1 ho.left.right hk d8 (ZBl hq.2) hC hI hP hU bW jb g9 iV e2 ho.right.left q1 q2 q3 cM bY e3 ho.right.right hc bk fI bI
end
end
end Go.Proofs.YtmcnjofonpkfmaaGreat
