import Derived.WalkKit
import Derived.ProofKit
import Derived.Below
import Derived.Laws.Tables
import Derived.Laws.Rows
import Derived.Deep.MidRow
import Derived.Laws.CopyRow
import Derived.Laws.AppendOwn
open Go.Addr.mk renaming injEq->T_
open Array renaming getElem?_toList->Tv,range->T2,getD_eq_getD_getElem?->T',getElem?_range->Ul,length_toList->Uo,getElem?_map->Uq,toList_map->Uu
open Go.RowKit.Below renaming heap_alloc->Ts
open BitVec renaming ofInt->Tz
open Bool renaming true->Tl,false->Tm,not_eq_true->T8
open Go.Builtin renaming append_->Tu,len_->Tx,firstCells->Uk,lenOf->Ux
open Go.Instr renaming sliceBounds->Te,sliceAt->Th,sliceBound->Ti,slice->To,sureAddr->Tw,storeAt->TA,indexAt->TH,loadAt->TU,makeSlice->TW,buildSlice->T7,extract->Ue,index->Ui,build->Uj,fieldAt->UF,field->UH,fill->UI
open Go.IntKind renaming i64->TZ,signed->Ut,bits->UB,wrap->US,max->UT
open List renaming mem_of_getElem?->Tk,range->Tr,all_eq_true->Tt,getD_eq_getElem?_getD->Ty,take_append->TG,length_append->TL,getElem?_append_right->TM,getElem?_map->TN,any_eq_false->TO,take->TP,length_take->TQ,drop->TR,take_of_length_le->TV,mem_append->T9,mem_range->Ua,getElem?_eq_some_iff->Uc,getElem?_append_left->Ud,mem_map->Uf,mem_of_mem_take->Un,getElem?_take->Ur,getElem?_drop->Us,length_drop->Uv,length_cons->Uw,take_take->UD,drop_take->UE,map_cons->UG,length->S7
open Nat renaming le_of_ble_eq_true->Td,mul_le_mul_right->Tf,beq->Tg,ne_of_beq_eq_false->Tn,le_refl->Tq,ble->TB,lt_of_lt_of_le->TC,eq_of_beq_eq_true->TF,add_mul->TJ,zero_add->TX,add_zero->TY,blt->T6,mod_lt->Ub,mul_comm->Ug,le_trans->Uh,min_eq_right->UA,mul_eq_zero->UC,zero_le->UK,one_mul->UL,mul_one->UM,le_succ->UN
open Ne renaming symm->T0
open Go.Op renaming bytesLess->Um,stringOp->UP,equalIn->UQ
open Option renaming some->S8,none->S_,map_eq_some_iff->TD,map_some->TT,getD_some->T4,getD_none->T5
open Option.some renaming injEq->S9,inj->UO
open Prod.mk renaming injEq->Tc
open Go.Result renaming andThen_ok->Tj
open Go.Result.ok renaming injEq->T3
open Go.Sem renaming run_bind->Ta,run_pure->Tp
open Go.Value renaming ownBlock->Uy,oneCell'->Uz
open Go.Value.slice renaming injEq->T1
open Go.World renaming setRow->TE
namespace Go.Proofs.YtmcnjofonpkfmaaGreat
open Go.RowKit
set_option linter.unusedSimpArgs false
set_option linter.unusedVariables false
abbrev S5:=List
abbrev S6:=Option
abbrev aFa:=@if_pos
abbrev aE_:=@if_neg
abbrev aFg:=@if_true
abbrev aFe:=@absurd
abbrev aFw:=@and_true
abbrev aFs:=@getElem!_pos
abbrev aFj:=@congrArg
abbrev aFn:=@true_and
abbrev aFi:=@if_false
abbrev aFq:=@of_decide_eq_true
abbrev aFb:=@cond_false
abbrev aFl:=@decide_eq_true_eq
abbrev aFm:=@decide_eq_false_iff_not
abbrev aFc:=@cond_true
abbrev aFx:=@ge_iff_le
abbrev aFv:=@beq_iff_eq
abbrev aFr:=@decide_true
abbrev aFk:=@decide_eq_true
abbrev aFo:=@decide_eq_false
abbrev aFt:=@bne_iff_ne
abbrev aFp:=@beq_self_eq_true
section
inductive C where
 |lit (x:Value)
 |sl (sz len:Nat) (cell:Nat->Nat->C)
 |rp (nil:Bool) (n:Nat) (cell:Nat->C)
 |ptr (id off:Nat)
 |p8 (id len:Nat)
 |rK (id sz i off:Nat)
 |rL (id sz lo len n:Nat)
 |qs (fn:Fn) (na nb:Nat) (a b:Nat->C)
 |th (t:TypeId) (c:C)
 |ve (t:TypeId) (n:Nat) (cell:Nat->C)
 |uR (n:Nat) (cell:Nat->C)
 |mp (id:Nat)
 |vd (sz len:Nat) (cell:Nat->Nat->C)
 |yN (n:Nat) (cell:Nat->C)
 |oF
 deriving Inhabited
inductive V where
 |one (c:C)
 |agg (l:List C)
 |qw (l:List (Bool×List C))
 deriving Inhabited
inductive B where
 |box (l:List C)
 |rows (e:TypeId) (sz len:Nat) (c:Nat->Nat->C)
 |map (kt:TypeId) (l:List (Value×V))
 |hole (e:TypeId) (len:Nat) (c:Nat->C) (k:Nat) (x:C)
structure St where
 env:List (Nat×V)
 heap:List (Nat×B)
def look{α:Type}(d:α):S5 (Nat×α)->Nat->α
 | [],_=>d
 | (k,v) :: r,t=>match Tg k t with
  |true=>v
  |false=>look d r t
theorem Ox{α:Type}(d:α)(k:Nat)(v:α)(r:S5 (Nat×α))(t:Nat):look d ((k,v) :: r) t=if k=t then v else look d r t:=by
 simp only[look];by_cases h:k=t
 .subst h;simp
 .have:Tg k t=Tm:=by
   cases hb:Tg k t
   all_goals simp_all
  simp[this,h]
def oP:S5 (Nat×B)->Nat->S6 B
 | [],_=>S_
 | (k,v) :: r,t=>match Tg k t with
  |true=>S8 v
  |false=>oP r t
theorem tD(k:Nat)(v:B)(r:S5 (Nat×B))(t:Nat):oP ((k,v) :: r) t=if k=t then S8 v else oP r t:=by
 simp only[oP];by_cases h:k=t
 .subst h;simp
 .have:Tg k t=Tm:=by
   cases hb:Tg k t
   all_goals simp_all
  simp[this,h]
def ug:S5 (Nat×B)->Nat->S5 (Nat×B)
 | [],_=>[]
 | (k,v) :: r,t=>match Tg k t with
  |true=>ug r t
  |false=>(k,v) :: ug r t
theorem Ha(h:S5 (Nat×B))(t s:Nat):oP (ug h t) s=if t=s then S_ else oP h s:=by
 induction h with
 |nil=>simp[ug,oP]
 |cons p r ih=>
  obtain⟨k,v⟩:=p;simp only[ug];by_cases hk:k=t
  .subst hk;simp only[Nat.beq_refl,ih,tD];split<;>rfl
  .have:Tg k t=Tm:=by
    cases hb:Tg k t
    all_goals simp_all
   simp only[this,tD,ih]
   grind
def uK(h:S5 (Nat×B))(t:Nat)(v:B):S5 (Nat×B):=(t,v) :: ug h t
theorem RU(h:S5 (Nat×B))(t s:Nat)(v:B):oP (uK h t v) s=if t=s then S8 v else oP h s:=by
 simp only[uK,tD,Ha];split<;>simp_all
def q_:S5 (Nat×B)->Nat->B->S5 (Nat×B)
 | [],d,b=>[(d,b)]
 | (k,v) :: r,d,b=>match Tg k d with
  |true=>(d,b) :: r
  |false=>match T6 d k with
   |true=>(d,b) :: (k,v) :: r
   |false=>(k,v) :: q_ r d b
theorem Az(d:Nat)(b:B)(t:Nat):∀(h:S5 (Nat×B)),oP (q_ h d b) t=if d=t then S8 b else oP h t
 | []=>by simp only[q_,tD]
 | (k,v) :: r=>by
  simp only[q_]
  split
  .rename_i e
   have e:=TF e
   subst e
   simp only[tD]
   split<;>rfl
  .rename_i e
   have e:=Tn e
   split
   .simp only[tD]
   .simp only[tD,Az d b t r]
    grind
theorem ZVt(d e:Nat)(b c:B)(qN:d≠e):∀(h:S5 (Nat×B)),q_ (q_ h d b) e c=q_ (q_ h e c) d b:=by
 have f1:∀{x y:Nat},x≠y->Tg x y=Tm:=λ{x y} h=>by
  cases hb:Tg x y
  all_goals simp_all
 have f2:∀{x y:Nat},x<y->T6 x y=Tl:=λh=>Nat.ble_eq_true_of_le h;have f3:∀{x y:Nat},¬x<y->T6 x y=Tm:=λ{x y} h=>by
  cases hb:T6 x y
  .rfl
  simp_all;omega
 intro h;induction h with
 |nil=>
  by_cases h1:d<e
  .simp[q_,f1 qN,f1 (T0 qN),f2 h1,f3 (show ¬e<d by omega)]
  .simp[q_,f1 qN,f1 (T0 qN),f3 h1,f2 (show e<d by omega)]
 |cons p r ih=>
  obtain⟨k,v⟩:=p;by_cases hd:k=d
  .subst hd;by_cases h1:e<k
   .simp[q_,f1 qN,f1 (T0 qN),f2 h1,f3 (show ¬k<e by omega)]
   .simp[q_,f1 qN,f3 h1]
  .by_cases he:k=e
   .subst he;by_cases h1:d<k
    .simp[q_,f1 qN,f1 (T0 qN),f2 h1,f3 (show ¬k<d by omega)]
    .simp[q_,f1 (T0 qN),f3 h1]
   .by_cases h1:d<k
    .by_cases h2:e<k
     .by_cases h3:d<e
      .simp[q_,f1 hd,f1 he,f1 qN,f1 (T0 qN),f2 h1,f2 h2,f2 h3,f3 (show ¬e<d by omega)]
      .simp[q_,f1 hd,f1 he,f1 qN,f1 (T0 qN),f2 h1,f2 h2,f3 h3,f2 (show e<d by omega)]
     .simp[q_,f1 hd,f1 he,f1 qN,f1 (T0 qN),f2 h1,f3 h2,f3 (show ¬e<d by omega)]
    .by_cases h2:e<k
     .simp[q_,f1 hd,f1 he,f1 qN,f1 (T0 qN),f3 h1,f2 h2,f3 (show ¬d<e by omega)]
     .simp[q_,f1 hd,f1 he,f3 h1,f3 h2,ih]
def C.pI(id:Nat):C->Bool | .ptr k _ | .p8 k _ | .rK k _ _ _ | .rL k _ _ _ _ | .mp k=>Tg k id | .qs _ na nb a b=>(Tr na).any (λi=>(a i).pI id)||(Tr nb).any (λi=>(b i).pI id) | .th _ c=>c.pI id | .ve _ n c=>(Tr n).any λi=>(c i).pI id | .uR n c=>(Tr n).any λi=>(c i).pI id|_=>Tm
def V.pI(id:Nat):V->Bool | .one c=>c.pI id | .agg l=>l.any (C.pI id) | .qw l=>l.any λp=>p.2.any (C.pI id)
def B.pI(id:Nat):B->Bool | .box l=>l.any (C.pI id) | .rows _ _ _ _=>Tm | .map _ _=>Tm | .hole _ _ _ _ x=>x.pI id
def St.get(st:St)(t:Nat):V:=look (.one .oF) st.env t
structure Mp where
 f:Nat->Value
 L:Nat->Prop
instance:CoeFun Mp (λ_=>Nat->Value):=⟨Mp.f⟩
theorem Mp.ext'{m m':Mp}(h:∀k,m k=m' k)(hL:m.L=m'.L):m=m':=by
 cases m;cases m';cases hL;have:=funext h;cases this;rfl
def ru:Mp:=⟨λ_=>.tuple #[],λ_=>False⟩
inductive oI (S:Nat->Prop) (w:World):Mp->C->Value->Prop
 |lit {m:Mp} {x:Value}:oI S w m (.lit x) x
 |sl {m:Mp} {sz len:Nat} {cell:Nat->Nat->C} {a:Option Addr} {cap:Nat} (b off:Nat) (qe:Nat->Nat->Value) (rN:len<=cap) (ha:0<len->a=S8 ⟨b,off,S_⟩/\S b)
   (hc:∀i j,i<len->j<sz->w.cell? ⟨b,off+i*sz+j,S_⟩=S8 (qe i j)) (h1:∀i j,i<len->j<sz->(qe i j).oneCell'=Tl)
   (hr:∀i j,i<len->j<sz->oI S w ru (cell i j) (qe i j)):oI S w m (.sl sz len cell) (.slice a len cap)
 |rp {m:Mp} {n:Nat} {cell:Nat->C} (b off:Nat) (qe:Nat->Value) (ha:S b) (hc:∀j,j<n->w.cell? ⟨b,off+j,S_⟩=S8 (qe j)) (h1:∀j,j<n->(qe j).oneCell'=Tl)
   (hr:∀j,j<n->oI S w ru (cell j) (qe j)):oI S w m (.rp Tm n cell) (.pointer (S8 ⟨b,off,S_⟩))
 |EH {m:Mp} {n:Nat} {cell:Nat->C}:oI S w m (.rp Tl n cell) (.pointer S_)
 |ptr {m:Mp} {id off b:Nat} (h:m id=.pointer (S8 ⟨b,0,S_⟩)):oI S w m (.ptr id off) (.pointer (S8 ⟨b,off,S_⟩))
 |p8 {m:Mp} {id n:Nat} {a:Option Addr} {c:Nat} (h:m id=.slice a n c) (h0:n=0\/∃b,a=S8 ⟨b,0,S_⟩) (hle:n<=c):oI S w m (.p8 id n) (.slice a n c)
 |rK {m:Mp} {id sz i off b n c:Nat} (h:m id=.slice (S8 ⟨b,0,S_⟩) n c):oI S w m (.rK id sz i off) (.pointer (S8 ⟨b,i*sz+off,S_⟩))
 |rL {m:Mp} {id sz lo len n c c':Nat} {a a':Option Addr} (h:m id=.slice a n c) (hc:c'=c-lo) (hl:lo+len<=n) (hn:n<=c) (ha:n=0\/∃b,a=S8 ⟨b,0,S_⟩) (h0:lo<c->a'=a.map (·.add (lo*sz))) (h1:lo=0->a'=a) :
   oI S w m (.rL id sz lo len n) (.slice a' len c')
 |qs {m:Mp} {fn:Fn} {a b:Nat->C} (xs ys:Array Value) (ha:∀i,i<xs.size->oI S w m (a i) (xs.getD i undef)) (hb:∀i,i<ys.size->oI S w m (b i) (ys.getD i undef)) :
   oI S w m (.qs fn xs.size ys.size a b) (.func fn xs ys)
 |th {m:Mp} {t:TypeId} {c:C} {x:Value} (h:oI S w m c x):oI S w m (.th t c) (.iface t x)
 |ve {m:Mp} {t:TypeId} {c:Nat->C} (xs:Array Value) (h1:∀x∈xs.toList,x.oneCell'=Tl) (h:∀i,i<xs.size->oI S w m (c i) (xs.getD i undef)):oI S w m (.ve t xs.size c) (.iface t (.agg xs))
 |uR {m:Mp} {c:Nat->C} (xs:Array Value) (h1:∀x∈xs.toList,x.oneCell'=Tl) (h:∀i,i<xs.size->oI S w m (c i) (xs.getD i undef)):oI S w m (.uR xs.size c) (.agg xs)
 |mp {m:Mp} {id b:Nat} (h:m id=.map (S8 b)):oI S w m (.mp id) (.map (S8 b))
 |vd {m:Mp} {sz len:Nat} {cell:Nat->Nat->C} {a:Option Addr} {cap:Nat} (b off:Nat) (qe:Nat->Nat->Value) (rN:len<=cap) (ha:0<len->a=S8 ⟨b,off,S_⟩/\m.L b)
   (hc:∀i j,i<len->j<sz->w.cell? ⟨b,off+i*sz+j,S_⟩=S8 (qe i j)) (h1:∀i j,i<len->j<sz->(qe i j).oneCell'=Tl)
   (hr:∀i j,i<len->j<sz->oI S w ru (cell i j) (qe i j)):oI S w m (.vd sz len cell) (.slice a len cap)
 |yN {m:Mp} {n:Nat} {cell:Nat->C} (b off:Nat) (qe:Nat->Value) (ha:m.L b) (hc:∀j,j<n->w.cell? ⟨b,off+j,S_⟩=S8 (qe j)) (h1:∀j,j<n->(qe j).oneCell'=Tl)
   (hr:∀j,j<n->oI S w ru (cell j) (qe j)):oI S w m (.yN n cell) (.pointer (S8 ⟨b,off,S_⟩))
 |oF {m:Mp} {x:Value}:oI S w m .oF x
def qk(S:Nat->Prop)(w:World)(m:Mp)(l:S5 C)(xs:S5 Value):Prop:=S7 xs=S7 l/\(∀(j:Nat)(c:C),l[j]?=S8 c->∃x,xs[j]?=S8 x/\oI S w m c x)/\∀x∈xs,x.oneCell'=Tl
def o6(S:Nat->Prop)(w:World)(m:Mp):V->Value->Prop
 | .one c,x=>oI S w m c x
 | .agg l,x=>∃xs,x=.agg xs/\qk S w m l xs.toList
 | .qw l,x=>∃xs,x=.tuple xs/\xs.size=S7 l/\∀(j:Nat)(p:Bool×S5 C),l[j]?=S8 p->∃y,xs[j]?=S8 y /\
   match p with
   | (Tl,cs)=>∃ys,y=.agg ys/\qk S w m cs ys.toList
   | (Tm,[c])=>oI S w m c y
   |_=>True
def tj(S:Nat->Prop)(w w':World):Prop:=∀b,S b->w'.heap[b]?=w.heap[b]?
variable{S S':Nat->Prop}{w':World}{x:Value}{xs:S5 Value}
theorem tj.cell{w:World}(h:tj S w w'){b o:Nat}(hb:S b):w'.cell? ⟨b,o,S_⟩=w.cell? ⟨b,o,S_⟩:=World.cell?_of_block (h b hb)
theorem tj.none{w:World}:tj ru.L w w':=λ_ h=>h.elim
theorem oI.rm{w:World}{m:Mp}{c:C}(h:oI S w m c x)(hw:tj S w w')(hS:∀b,S b->S' b):tj m.L w w'->oI S' w' m c x:=by
 induction h with
 |lit=>exact λ_=>.lit
 |sl b off qe rN ha hc h1 hr ih=>
  refine λ_=>.sl b off qe rN (λhl=>⟨(ha hl).1,hS _ (ha hl).2⟩) (λi j hi hj=>?_) h1 (λi j hi hj=>ih i j hi hj tj.none);rw[hw.cell (ha (by omega)).2];exact hc i j hi hj
 |EH=>exact λ_=>.EH
 |rp b off qe ha hc h1 hr ih=>
  refine λ_=>.rp b off qe (hS _ ha) (λj hj=>?_) h1 (λj hj=>ih j hj tj.none);rw[hw.cell ha];exact hc j hj
 |ptr h=>exact λ_=>.ptr h
 |p8 h h0 hle=>exact λ_=>.p8 h h0 hle
 |rK h=>exact λ_=>.rK h
 |rL h hc hl hn ha h0 h1=>exact λ_=>.rL h hc hl hn ha h0 h1
 |qs xs ys ha hb F9 F8=>exact λhL=>.qs xs ys (λi hi=>F9 i hi hL) (λi hi=>F8 i hi hL)
 |th h ih=>exact λhL=>.th (ih hL)
 |ve xs h1 h ih=>exact λhL=>.ve xs h1 (λi hi=>ih i hi hL)
 |uR xs h1 h ih=>exact λhL=>.uR xs h1 (λi hi=>ih i hi hL)
 |mp h=>exact λ_=>.mp h
 |vd b off qe rN ha hc h1 hr ih=>
  refine λhL=>.vd b off qe rN ha (λi j hi hj=>?_) h1 (λi j hi hj=>ih i j hi hj tj.none);rw[hL.cell (ha (by omega)).2];exact hc i j hi hj
 |yN b off qe ha hc h1 hr ih=>
  refine λhL=>.yN b off qe ha (λj hj=>?_) h1 (λj hj=>ih j hj tj.none);rw[hL.cell ha];exact hc j hj
 |oF=>exact λ_=>.oF
theorem oI.rO{w:World}{c:C}(h:oI S w ru c x)(hw:tj S w w')(hS:∀b,S b->S' b):oI S' w' ru c x:=h.rm hw hS tj.none
theorem oI.other{w:World}{m:Mp}{c:C}(h:oI S w m c x)(m':Mp)(id:Nat)(hm:∀k,k≠id->m' k=m k)(hL:m'.L=m.L):c.pI id=Tm->oI S w m' c x:=by
 induction h with
 |lit=>exact λ_=>.lit
 |sl b off qe rN ha hc h1 hr ih=>exact λ_=>.sl b off qe rN ha hc h1 hr
 |EH=>exact λ_=>.EH
 |rp b off qe ha hc h1 hr ih=>exact λ_=>.rp b off qe ha hc h1 hr
 |ptr h=>exact λhs=>.ptr (by rw[hm _ (Tn hs)];exact h)
 |p8 h h0 hle=>exact λhs=>.p8 (by rw[hm _ (Tn hs)];exact h) h0 hle
 |rK h=>exact λhs=>.rK (by rw[hm _ (Tn hs)];exact h)
 |rL h hc hl hn ha h0 h1=>exact λhs=>.rL (by rw[hm _ (Tn hs)];exact h) hc hl hn ha h0 h1
 |qs xs ys ha hb F9 F8=>
  intro hs;simp only[C.pI,Bool.or_eq_false_iff,TO,Ua,T8]at hs;exact .qs xs ys (λi hi=>F9 i hi hm hL (hs.1 i hi)) (λi hi=>F8 i hi hm hL (hs.2 i hi))
 |th h ih=>exact λhs=>.th (ih hm hL hs)
 |ve xs h1 h ih=>
  intro hs;simp only[C.pI,TO,Ua,T8]at hs;exact .ve xs h1 (λi hi=>ih i hi hm hL (hs i hi))
 |uR xs h1 h ih=>
  intro hs;simp only[C.pI,TO,Ua,T8]at hs;exact .uR xs h1 (λi hi=>ih i hi hm hL (hs i hi))
 |mp h=>exact λhs=>.mp (by rw[hm _ (Tn hs)];exact h)
 |vd b off qe rN ha hc h1 hr ih=>exact λ_=>.vd b off qe rN (λhl=>⟨(ha hl).1,by simp_all⟩) hc h1 hr
 |yN b off qe ha hc h1 hr ih=>exact λ_=>.yN b off qe (by rw[hL];exact ha) hc h1 hr
 |oF=>exact λ_=>.oF
theorem qk.rm{w:World}{m:Mp}{l:S5 C}(h:qk S w m l xs)(hw:tj S w w')(hS:∀b,S b->S' b)(hL:tj m.L w w'):qk S' w' m l xs:=
 ⟨h.1,λj c hc=>by obtain⟨x,h1,h2⟩:=h.2.1 j c hc;exact⟨x,h1,h2.rm hw hS hL⟩,h.2.2⟩
theorem qk.other{w:World}{m:Mp}{l:S5 C}(h:qk S w m l xs)(m':Mp)(id:Nat)(hm:∀k,k≠id->m' k=m k)(hL:m'.L=m.L)(hs:l.any (C.pI id)=Tm):qk S w m' l xs:=by
 refine⟨h.1,λj c hc=>?_,h.2.2⟩;obtain⟨x,h1,h2⟩:=h.2.1 j c hc;refine⟨x,h1,h2.other m' id hm hL ?_⟩
 grind
theorem o6.rm{w:World}{m:Mp}{v:V}(h:o6 S w m v x)(hw:tj S w w')(hS:∀b,S b->S' b)(hL:tj m.L w w'):o6 S' w' m v x:=by
 cases v with
 |one c=>exact oI.rm h hw hS hL
 |agg l=>obtain⟨xs,h1,h2⟩:=h;exact⟨xs,h1,h2.rm hw hS hL⟩
 |qw l=>
  obtain⟨xs,h1,h2,h3⟩:=h;refine⟨xs,h1,h2,λj p hp=>?_⟩;obtain⟨y,h4,h5⟩:=h3 j p hp;refine⟨y,h4,?_⟩;obtain⟨b,cs⟩:=p
  match b,cs,h5 with
  |true,cs,h5=>obtain⟨ys,h6,h7⟩:=h5;exact⟨ys,h6,h7.rm hw hS hL⟩
  |false,[c],h5=>exact oI.rm h5 hw hS hL
  |false,[],_=>trivial
  |false,_ :: _ :: _,_=>trivial
theorem o6.rO{w:World}{v:V}(h:o6 S w ru v x)(hw:tj S w w')(hS:∀b,S b->S' b):o6 S' w' ru v x:=h.rm hw hS tj.none
theorem o6.other{w:World}{m:Mp}{v:V}(h:o6 S w m v x)(m':Mp)(id:Nat)(hm:∀k,k≠id->m' k=m k)(hL:m'.L=m.L)(hs:v.pI id=Tm):o6 S w m' v x:=by
 cases v with
 |one c=>exact oI.other h m' id hm hL hs
 |agg l=>obtain⟨xs,h1,h2⟩:=h;exact⟨xs,h1,h2.other m' id hm hL hs⟩
 |qw l=>
  obtain⟨xs,h1,h2,h3⟩:=h;refine⟨xs,h1,h2,λj p hp=>?_⟩;obtain⟨y,h4,h5⟩:=h3 j p hp;have hq:=TO.1 hs p (Tk hp);refine⟨y,h4,?_⟩;obtain⟨b,cs⟩:=p
  match b,cs,h5,hq with
  |true,cs,h5,hq=>obtain⟨ys,h6,h7⟩:=h5;exact⟨ys,h6,h7.other m' id hm hL (by simpa using hq)⟩
  |false,[c],h5,hq=>exact oI.other h5 m' id hm hL (by simpa using hq)
  |false,[],_,_=>trivial
  |false,_ :: _ :: _,_,_=>trivial
def sU:Value->S6 Nat | .pointer (S8 a)=>S8 a.block | .slice (S8 a) _ _=>S8 a.block | .map (S8 b)=>S8 b|_=>S_
structure tg (S:Nat->Prop) (w:World) (l:List (Value×V)) (es:List MapEntry) (aH:Nat):Prop where
 len:S7 es=S7 l
 at_:∀(j:Nat)(p:Value×V)(e:MapEntry),l[j]?=S8 p->es[j]?=S8 e->e.key=p.1/\e.born<aH/\o6 S w ru p.2 e.val
 keys:(l.map (·.1)).Nodup
 born:(es.map (·.born)).Nodup
theorem tg.rO{w:World}{l:S5 (Value×V)}{es:S5 MapEntry}{c:Nat}(h:tg S w l es c)(hw:tj S w w')(hS:∀b,S b->S' b):tg S' w' l es c:=
 ⟨h.len,λj p e h1 h2=>by obtain⟨q1,q2,q3⟩:=h.at_ j p e h1 h2;exact⟨q1,q2,q3.rO hw hS⟩,h.keys,h.born⟩
def Kv(kt:TypeId)(es:S5 MapEntry)(aH:Nat):Prop:=T6 kt 1000000=Tl->aH=S7 es/\∀(j:Nat)(e:MapEntry),es[j]?=S8 e->e.born=j
def se(S:Nat->Prop)(w:World)(m:Mp)(mb:Value):B->Prop | .box l=>∃b bB t,mb=.pointer (S8 ⟨b,0,S_⟩)/\w.heap[b]?=S8 (.cells bB t (0,0))/\qk S w m l bB.toList | .rows e sz len c=>∃xs,w.ownsRow 0 e sz mb len xs/\(∀i j,i<len->j<sz->∃x,xs[i*sz+j]?=S8 x/\oI S w ru (c i j) x)/\∀x∈xs,x.oneCell'=Tl | .map kt l=>∃b es aH,mb=.map (S8 b)/\w.heap[b]?=S8 (.map es aH)/\tg S w l es.toList aH/\Kv kt es.toList aH | .hole e len c k x=>∃xs,w.ownsRow 0 e 1 mb len xs/\(∀i,i<len->∃y,xs[i]?=S8 y/\(i≠k->oI S w ru (c i) y)/\(i=k->oI S w m x y))/\∀y∈xs,y.oneCell'=Tl
structure tK where
 no:Nat->Prop
 xg:Mp
structure t_ where
 w:World
 F:tK
def BD:Nat:=100000
structure qB (N:Nat) (F:tK) (S:Nat->Prop) (m:Mp) (st:St) (a:Act) (w:World):Prop where
 size:a.tmps.size=N
 env:∀t,o6 S w m (st.get t) (a.tmps.getD t undef)
 CG:∀t,N<=t->st.get t=.one .oF
 heap:∀id b,oP st.heap id=S8 b->se S w m (m id) b
 own:∀id b,oP st.heap id=S8 b->∀k,sU (m id)=S8 k->¬S k/\¬F.no k/\k<w.heap.size
 inj:∀id xn b b',id≠xn->oP st.heap id=S8 b->oP st.heap xn=S8 b'->∀k,sU (m id)=S8 k->sU (m xn)≠S8 k
 u5:∀b,S b->b<w.heap.size
 defers:a.defers=[]
 pJ:∀k,F.no k->k<w.heap.size
 xg:∀id,BD<=id->m id=F.xg id
 len:m.L=F.xg.L/\∀b,m.L b->F.no b
def zz(m:Mp)(id:Nat)(x:Value):Mp:=⟨λk=>if k=id then x else m k,m.L⟩
theorem zr(m:Mp)(id:Nat)(x:Value):zz m id x id=x:=aFa rfl
theorem JH(m:Mp)(id:Nat)(x:Value):∀k,k≠id->zz m id x k=m k:=λ_ h=>aE_ h
def St.put(st:St)(d:Nat)(v:V):St:={ st with env:=(d,v) :: st.env }
theorem St.Ac(st:St)(d t:Nat)(v:V):(st.put d v).get t=if d=t then v else st.get t:=Ox _ _ _ _ _
theorem qB.put{N:Nat}{F:tK}{m:Mp}{st:St}{a:Act}{w:World}(h:qB N F S m st a w){d:Nat}{v:V}(hv:o6 S w m v x)(hd:d<N) :
  qB N F S m (st.put d v) (a.put (S8 d) x) w:=by
 refine⟨by simp[Act.put,h.size],λt=>?_,λt ht=>by rw[St.Ac,aE_ (by omega)];exact h.CG t ht,h.heap,h.own,h.inj,h.u5,h.defers,h.pJ,h.xg,h.len⟩;rw[St.Ac];have hs:=h.size;by_cases ht:d=t
 .subst ht;simp only[aFg,Act.put,T'];simp_all
 .simp only[aE_ ht,Act.put,T'];rw[Array.getElem?_setIfInBounds_ne ht];have:=h.env t;simp_all
end
section
def C.pure:C->Bool | .ptr _ _ | .p8 _ _ | .rK _ _ _ _ | .rL _ _ _ _ _ | .mp _ | .vd _ _ _ | .yN _ _=>Tm | .qs _ na nb a b=>(Tr na).all (λi=>(a i).pure)&&(Tr nb).all (λi=>(b i).pure) | .th _ c=>c.pure | .ve _ n c=>(Tr n).all λi=>(c i).pure | .uR n c=>(Tr n).all λi=>(c i).pure|_=>Tl
variable{w w':World}{S S':Nat->Prop}{m m':Mp}{N sz n id len d cap:Nat}{F:tK}{a:Act}{x v mb:Value}{e:TypeId}{xs:S5 Value}
theorem oI.anyM{c:C}(h:oI S w m c x)(m':Mp):c.pure=Tl->oI S w m' c x:=by
 induction h with
 |lit=>exact λ_=>.lit
 |sl b off qe rN ha hc h1 hr ih=>exact λ_=>.sl b _ _ rN ha hc h1 hr
 |EH=>exact λ_=>.EH
 |rp b off qe ha hc h1 hr ih=>exact λ_=>.rp b _ _ ha hc h1 hr
 |ptr h=>exact λhs=>by simp[C.pure]at hs
 |p8 h h0=>exact λhs=>by simp[C.pure]at hs
 |rK h=>exact λhs=>by simp[C.pure]at hs
 |rL h=>exact λhs=>by simp[C.pure]at hs
 |mp h=>exact λhs=>by simp[C.pure]at hs
 |vd b off qe rN ha hc h1 hr=>exact λhs=>by simp[C.pure]at hs
 |yN b off qe ha hc h1 hr=>exact λhs=>by simp[C.pure]at hs
 |qs xs ys ha hb F9 F8=>
  intro hs;simp[C.pure]at hs;exact .qs _ _ (λi hi=>F9 i hi (hs.1 i hi)) (λi hi=>F8 i hi (hs.2 i hi))
 |th h ih=>exact λhs=>.th (ih hs)
 |ve xs h1 h ih=>
  intro hs;simp[C.pure]at hs;exact .ve _ h1 (λi hi=>ih i hi (hs i hi))
 |uR xs h1 h ih=>
  intro hs;simp[C.pure]at hs;exact .uR _ h1 (λi hi=>ih i hi (hs i hi))
 |oF=>exact λ_=>.oF
theorem oI.N6{c:C}{m0:Mp}(h:oI S w m0 c x)(m:Mp):m0=ru->oI S w m c x:=by
 induction h with
 |lit=>exact λ_=>.lit
 |sl b off qe rN ha hc h1 hr ih=>exact λ_=>.sl b _ _ rN ha hc h1 hr
 |EH=>exact λ_=>.EH
 |rp b off qe ha hc h1 hr ih=>exact λ_=>.rp b _ _ ha hc h1 hr
 |ptr h=>rintro rfl;simp[ru]at h
 |p8 h h0=>rintro rfl;simp[ru]at h
 |rK h=>rintro rfl;simp[ru]at h
 |rL h=>rintro rfl;simp[ru]at h
 |mp h=>rintro rfl;simp[ru]at h
 |vd b off qe rN ha hc h1 hr=>exact λe=>.vd b off qe rN (λhl=>by subst e;exact(ha hl).2.elim) hc h1 hr
 |yN b off qe ha hc h1 hr=>exact λe=>by subst e;exact ha.elim
 |qs xs ys ha hb F9 F8=>exact λe=>.qs _ _ (λi hi=>F9 i hi e) (λi hi=>F8 i hi e)
 |th h ih=>exact λe=>.th (ih e)
 |ve xs h1 h ih=>exact λe=>.ve _ h1 (λi hi=>ih i hi e)
 |uR xs h1 h ih=>exact λe=>.uR _ h1 (λi hi=>ih i hi e)
 |oF=>exact λ_=>.oF
theorem oI.tR{c:C}(h:oI S w ru c x):oI S w m c x:=h.N6 m rfl
theorem qk.anyM{l:S5 C}(h:qk S w m l xs)(m':Mp)(hp:l.all C.pure=Tl):qk S w m' l xs:=
 ⟨h.1,λj c hc=>by
  obtain⟨x,h1,h2⟩:=h.2.1 j c hc
  exact⟨x,h1,h2.anyM _ (Tt.1 hp c (Tk hc))⟩,h.2.2⟩
def V.pure:V->Bool | .one c=>c.pure | .agg l=>l.all C.pure | .qw l=>l.all λp=>p.2.all C.pure
theorem o6.anyM{v:V}(h:o6 S w m v x)(m':Mp)(hp:v.pure=Tl):o6 S w m' v x:=by
 cases v with
 |one c=>exact oI.anyM h _ hp
 |agg l=>obtain⟨xs,h1,h2⟩:=h;exact⟨xs,h1,h2.anyM _ hp⟩
 |qw l=>
  obtain⟨xs,h1,h2,h3⟩:=h;refine⟨xs,h1,h2,λj p hj=>?_⟩;have hq:=Tt.1 hp p (Tk hj);obtain⟨y,h4,h5⟩:=h3 j p hj;refine⟨y,h4,?_⟩;obtain⟨b,cs⟩:=p
  match b,cs,h5,hq with
  |true,cs,h5,hq=>obtain⟨ys,h6,h7⟩:=h5;exact⟨ys,h6,h7.anyM _ hq⟩
  |false,[c],h5,hq=>grind[oI.anyM]
  |false,[],_,_=>trivial
  |false,_ :: _ :: _,_,_=>trivial
theorem Zyt(h:w.ownsRow 0 e sz v n xs)(hb:∀k,sU v=S8 k->w'.heap[k]?=w.heap[k]?):w'.ownsRow 0 e sz v n xs:=by
 obtain⟨h1,h2⟩:=h;refine⟨h1,?_⟩;rcases h2 with h2|⟨g,cap,cur,rfl,r1,r2,r3⟩
 .exact .inl h2
 .exact .inr ⟨g,cap,cur,rfl,r1,by rw[hb g rfl];exact r2,r3⟩
theorem se.rm{b:B}(h:se S w m mb b)(hw:tj S w w')(hS:∀b,S b->S' b)(hL:tj m.L w w')(hb:∀k,sU mb=S8 k->w'.heap[k]?=w.heap[k]?) :
  se S' w' m mb b:=by
 cases b with
 |box l=>
  obtain⟨b,bB,t,rfl,h2,h3⟩:=h;exact⟨b,bB,t,rfl,by rw[hb b rfl];exact h2,h3.rm hw hS hL⟩
 |rows e sz len c=>
  obtain⟨xs,h1,h2,h3⟩:=h;exact⟨xs,Zyt h1 hb,λi j hi hj=>by obtain⟨x,h4,h5⟩:=h2 i j hi hj;exact⟨x,h4,h5.rO hw hS⟩,h3⟩
 |map kt l=>
  obtain⟨b,es,aH,rfl,h2,h3,h4⟩:=h;exact⟨b,es,aH,rfl,by rw[hb b rfl];exact h2,h3.rO hw hS,h4⟩
 |hole e len c k x=>
  obtain⟨xs,h1,h2,h3⟩:=h;exact⟨xs,Zyt h1 hb,λi hi=>by obtain⟨y,h4,h5,h6⟩:=h2 i hi;exact⟨y,h4,λe=>(h5 e).rO hw hS,λe=>(h6 e).rm hw hS hL⟩,h3⟩
theorem qB.grow{st:St}(h:qB N F S m st a w)(bf:w.heap.size<=w'.heap.size)(hk:∀k,k<w.heap.size->w'.heap[k]?=w.heap[k]?)
  (hS:∀b,S b->S' b) (hS':∀b,S' b->S b\/(w.heap.size<=b/\b<w'.heap.size)):qB N F S' m st a w':=by
 have hw:tj S w w':=λb hb=>hk b (h.u5 b hb);have hL:tj m.L w w':=λb hb=>hk b (h.pJ b (h.len.2 b hb));refine⟨h.size,λt=>(h.env t).rm hw hS hL,h.CG,λid b hb=>(h.heap _ b hb).rm hw hS hL λk ur=>hk k (h.own _ b hb k ur).2.2,λid b hb k ur=>?_,h.inj,λb hb=>?_,h.defers,λk hk=>TC (h.pJ k hk) bf,h.xg,h.len⟩
 .obtain⟨h1,h2,h3⟩:=h.own id b hb k ur
  grind
 .rcases hS' b hb with hs|hs
  .have:=h.u5 b hs;omega
  .exact hs.2
theorem qB.write{st:St}(h:qB N F S m st a w){b0:B}(b1:B)(hb:oP st.heap id=S8 b0)(bf:w.heap.size<=w'.heap.size)
  (hk:∀k,k<w.heap.size->sU (m id)≠S8 k->w'.heap[k]?=w.heap[k]?) (hB:se S w' m (m id) b1):qB N F S m { st with heap:=uK st.heap id b1 } a w':=by
 have hw:tj S w w':=λb hs=>hk b (h.u5 b hs) λe=>(h.own id b0 hb b e).1 hs;have hL:tj m.L w w':=λb hl=>hk b (h.pJ b (h.len.2 b hl)) λe=>(h.own id b0 hb b e).2.1 (h.len.2 b hl);refine⟨h.size,λt=>(h.env t).rm hw (λ_ x=>x) hL,h.CG,λxn b' bg=>?_,λxn b' bg k ur=>?_,λi1 i2 ly b2' qN h1 h2=>?_,λb hs=>?_,h.defers,λk hk=>TC (h.pJ k hk) bf,h.xg,h.len⟩
 .simp[RU]at bg;split at bg
  .simp_all
  .rename_i e;refine(h.heap _ _ bg).rm hw (λ_ x=>x) hL λk ur=>hk k (h.own _ _ bg k ur).2.2 λe'=>?_;exact h.inj _ _ _ _ e hb bg k e' ur
 .simp[RU]at bg;have:∃b2,oP st.heap xn=S8 b2:=by
   grind
  obtain⟨b2,bF⟩:=this;obtain⟨h1,h2,h3⟩:=h.own xn b2 bF k ur
  grind
 .simp[RU]at h1 h2;have e1:∃b2,oP st.heap i1=S8 b2:=by
   grind
  have e2:∃b2,oP st.heap i2=S8 b2:=by
   grind
  obtain⟨_,e1⟩:=e1;obtain⟨_,e2⟩:=e2;exact h.inj _ _ _ _ qN e1 e2
 .have:=h.u5 b hs;omega
theorem ZQl(f:B->B)(l:S5 (Nat×B))(t:Nat):oP (l.map λp=>(p.1,f p.2)) t=(oP l t).map f:=by
 induction l with
 |nil=>rfl
 |cons p r ih=>
  grind[tD]
theorem ZBi{α β:Type}(d:α)(f:α->β)(l:S5 (Nat×α))(t:Nat):look (f d) (l.map λp=>(p.1,f p.2)) t=f (look d l t):=by
 induction l with
 |nil=>rfl
 |cons p r ih=>
  grind[Ox]
def xW(d:Nat):S5 (Nat×B)->Bool
 | []=>Tl
 | (k,b) :: r=>match Tg k d,b.pI d with
  |false,Tm=>xW d r
  |_,_=>Tm
def wP(st:St)(d:Nat):Nat->Bool
 | 0=>T6 d BD
 |n+1=>match (st.get n).pI d with
  |false=>wP st d n
  |true=>Tm
def so(N d:Nat)(st:St):Bool:=match wP st d N with
 |true=>xW d st.heap
 |false=>Tm
theorem Zyp{st:St}{d:Nat}:∀{n:Nat},wP st d n=Tl->∀t,t<n->(st.get t).pI d=Tm
 | 0,_,t,ht=>by omega
 |n+1,h,t,ht=>by
  simp only[wP]at h
  split at h
  .rename_i hq
   by_cases e:t=n
   .subst e;exact hq
   .exact Zyp h t (by omega)
  .cases h
theorem ZCa{st:St}{d:Nat}:∀{n:Nat},wP st d n=Tl->d<BD
 | 0,h=>Td h
 |n+1,h=>by
  simp[wP]at h
  split at h
  .exact ZCa h
  .cases h
theorem ZCb{st:St}(h:so N d st=Tl):d<BD:=by
 unfold so at h;split at h
 .rename_i hq;exact ZCa hq
 .cases h
theorem JM{d:Nat}:∀{l:S5 (Nat×B)},xW d l=Tl->oP l d=S_/\∀id b,oP l id=S8 b->b.pI d=Tm
 | [],_=>⟨rfl,λid b h=>by cases h⟩
 | (k,v) :: r,h=>by
  simp[xW]at h
  split at h
  .rename_i h1 h2
   obtain⟨h3,h4⟩:=JM h
   have hk:k≠d:=Tn h1
   refine⟨by rw[tD,aE_ hk];exact h3,λid b hb=>?_⟩
   rw[tD]at hb
   grind
  .cases h
theorem qB.vE{st:St}(h:qB N F S m st a w)(hq:so N d st=Tl) :
  (∀t,(st.get t).pI d=Tm)/\oP st.heap d=S_/\∀id b,oP st.heap id=S8 b->b.pI d=Tm:=by
 unfold so at hq;split at hq
 .rename_i he;refine⟨λt=>?_,JM hq⟩;by_cases ht:t<N
  .exact Zyp he t ht
  .rw[h.CG t (by omega)];rfl
 .cases hq
theorem se.other{b:B}(h:se S w m mb b)(hm:∀k,k≠id->m' k=m k)(hL:m'.L=m.L)(hs:b.pI id=Tm):se S w m' mb b:=by
 cases b with
 |box l=>
  obtain⟨b,bB,t,rfl,h2,h3⟩:=h;exact⟨b,_,t,rfl,h2,h3.other _ _ hm hL hs⟩
 |rows e sz len c=>exact h
 |map kt l=>exact h
 |hole e len c k x=>
  obtain⟨xs,h1,h2,h3⟩:=h;exact⟨xs,h1,λi hi=>by obtain⟨y,h4,h5,h6⟩:=h2 i hi;exact⟨y,h4,h5,λe=>(h6 e).other _ _ hm hL hs⟩,h3⟩
def ZCn(l:S5 (Nat×B)):S6 Nat->S5 (Nat×B)|some i=>ug l i|none=>l
theorem qB.renew{st:St}(h:qB N F S m st a w)(d:Nat)(hq:so N d st=Tl)(x:Value)(b:B)(wM:S6 Nat)(bf:w.heap.size<=w'.heap.size)
  (hk:∀k,k<w.heap.size->(∀i,wM=S8 i->(∃b0,oP st.heap i=S8 b0)->sU (m i)≠S8 k)->w'.heap[k]?=w.heap[k]?)
  (hv:∀k,sU x=S8 k->¬F.no k/\k<w'.heap.size/\((∃i b0,wM=S8 i/\oP st.heap i=S8 b0/\sU (m i)=S8 k)\/w.heap.size<=k))
  (hB:se S w' (zz m d x) x b):qB N F S (zz m d x) { st with heap:=(d,b) :: ZCn st.heap wM } a w':=by
 obtain⟨q1,q2,q3⟩:=h.vE hq;have hm:=JH m d x;have hw:tj S w w':=λk hs=>hk k (h.u5 k hs) λi hi ⟨b0,cn⟩ e=>(h.own i b0 cn k e).1 hs;have hL:tj m.L w w':=λk hl=>hk k (h.pJ k (h.len.2 k hl)) λi hi ⟨b0,cn⟩ e=>(h.own i b0 cn k e).2.1 (h.len.2 k hl);have key:∀{id b'},oP (ZCn st.heap wM) id=S8 b'->oP st.heap id=S8 b'/\wM≠S8 id:=by
  intro id b' bg;cases wM with
  |none=>exact⟨bg,by simp⟩
  |some i=>
   grind[Ha,ZCn]
 have kd:∀{id b'},oP st.heap id=S8 b'->id≠d:=by
  grind
 refine⟨h.size,λt=>((h.env t).rm hw (λ_ y=>y) hL).other _ d hm rfl (q1 t),h.CG,λid b' bg=>?_,λid b' bg k ur=>?_,λi1 i2 b1 b2 qN h1 h2 k cC sR=>?_,λk hs=>?_,h.defers,λk hk=>TC (h.pJ k hk) bf,λid hid=>by rw[hm id (λe=>by have:=ZCb hq;omega)];exact h.xg _ hid,h.len⟩
 .simp[tD]at bg;split at bg
  .grind[zr]
  .obtain⟨bg,ho⟩:=key bg;rw[hm _ (kd bg)];refine((h.heap id b' bg).rm (w':=w') hw (λ_ y=>y) hL λk ur=>hk k (h.own id b' bg k ur).2.2 λi hi ⟨b0,cn⟩ e'=>?_).other hm rfl (q3 id b' bg);exact h.inj i id _ _ (λe=>ho (e ▸ hi)) cn bg k e' ur
 .simp[tD]at bg;split at bg
  .rename_i e;subst e;rw[zr]at ur;obtain⟨h1,h2,h3⟩:=hv k ur;refine⟨λhs=>?_,h1,h2⟩;rcases h3 with⟨i,b0,_,cn,h3⟩|h3
   .exact(h.own i _ cn k h3).1 hs
   .have:=h.u5 _ hs;omega
  .obtain⟨bg,ho⟩:=key bg;rw[hm _ (kd bg)]at ur;obtain⟨h1,h2,h3⟩:=h.own id b' bg k ur
   grind
 .have other:∀{id b'},oP st.heap id=S8 b'->wM≠S8 id->∀k,sU x=S8 k->sU (m id)≠S8 k:=by
   intro id b' bg ho k ur sR;obtain⟨h1,h2,h3⟩:=hv k ur;rcases h3 with⟨i,b0,hi,cn,h3⟩|h3
   .exact h.inj i id _ _ (λe=>ho (e ▸ hi)) cn bg k h3 sR
   .have:=(h.own id b' bg k sR).2.2;omega
  simp[tD]at h1 h2;split at h1
  .rename_i e;subst e;rw[zr]at cC
   grind
  .obtain⟨h1,ho⟩:=key h1;rw[hm i1 (kd h1)]at cC;split at h2
   .rename_i e2;subst e2;rw[zr]at sR;simp_all
   .obtain⟨h2,_⟩:=key h2;rw[hm i2 (kd h2)]at sR;exact h.inj i1 i2 _ _ qN h1 h2 k cC sR
 .have:=h.u5 k hs;omega
def B.acl(f:C->C):B->B | .box l=>.box (l.map f) | .hole e len c k x=>.hole e len c k (f x)|b=>b
def St.map(st:St)(id:Nat)(f:C->C):St:=
 ⟨st.env.map λp=>(p.1,match p.2 with
  | .one c=>.one (f c)
  | .agg l=>.agg (l.map f)
  | .qw l=>.qw (l.map λq=>(q.1,q.2.map f))),(ug st.heap id).map λp=>(p.1,p.2.acl f)⟩
theorem qk.map{l:S5 C}{f:C->C}(h:qk S w m l xs)(hf:∀c x,oI S w m c x->oI S' w' m' (f c) x):qk S' w' m' (l.map f) xs:=by
 refine⟨by simpa using h.1,λj c hc=>?_,h.2.2⟩;simp_all;obtain⟨c0,h0,rfl⟩:=hc;obtain⟨x,h1,h2⟩:=h.2.1 j c0 h0;simp_all
def F_(id:Nat)(b:B):C->C
 | .p8 k n=>match Tg k id,b with
  |true,.rows _ sz len c=>.sl sz len c
  |_,_=>.p8 k n
 | .rK k vQ i off=>.rK k vQ i off
 | .ptr k off=>match Tg k id,b with
  |true,.box l=>match l.all C.pure with
   |true=>.rp Tm (S7 l-off) λj=>l.getD (off+j) .oF
   |false=>.ptr k off
  |_,_=>.ptr k off
 | .th t c=>match c with
  | .ptr k off=>match Tg k id,b with
   |true,.box l=>match l.all C.pure with
    |true=>.th t (.rp Tm (S7 l-off) λj=>l.getD (off+j) .oF)
    |false=>.th t (.ptr k off)
   |_,_=>.th t (.ptr k off)
  |c=>.th t c
 |c=>c
theorem ta{a b:Nat}(h:Tg a b=Tl):a=b:=TF h
theorem O0{b:Nat}{bB:Array Value}{t:TypeId}{fr:Nat×Nat}(h:w.heap[b]?=S8 (.cells bB t fr))(o:Nat):w.cell? ⟨b,o,S_⟩=bB[o]?:=by
 simp[World.cell?,h]
theorem Zwq{c:Nat->Nat->C}{b:Nat}(h:se S w m (.slice (S8 ⟨b,0,S_⟩) n cap) (.rows e sz len c)) :
  n=len/\len<=cap/\cap<=maxLen/\0<=b/\b<w.heap.size/\∀i j,i<len->j<sz->∃x,w.cell? ⟨b,i*sz+j,S_⟩=S8 x/\x.oneCell'=Tl/\oI S w ru (c i j) x:=by
 obtain⟨xs,h1,h2,h3⟩:=h;obtain⟨hl,h1⟩:=h1;rcases h1 with⟨h1,_⟩|⟨g,g3,cur,h1,hb,hg,hn,hm,hs,ht⟩
 .cases h1
 .simp at h1
  grind[O0]
theorem Lu{c:Nat->Nat->C}{a:S6 Addr}(h:se S w m (.slice a n cap) (.rows e sz len c)) :
  n=len/\len<=cap/\cap<=maxLen/\((a=S_/\n=0/\cap=0)\/∃b,a=S8 ⟨b,0,S_⟩):=by
 obtain⟨xs,⟨hl,h1⟩,h2,h3⟩:=h
 grind
theorem oI.wL{c:Nat->Nat->C}(h:se S w m v (.rows e sz len c))(hv:∃a cap,v=.slice a n cap)
  (hS:∀b,S b->S' b) (hb:∀k,sU v=S8 k->S' k):n=len/\oI S' w m' (.sl sz len c) v:=by
 obtain⟨a,cap,rfl⟩:=hv;obtain⟨rfl,h2,h3,h4⟩:=Lu h;refine⟨rfl,?_⟩;rcases h4 with⟨rfl,rfl,rfl⟩|⟨b,rfl⟩
 .exact .sl 0 0 (λ_ _=>undef) (Tq _) (λh=>aFe h (by omega)) (λi j h=>aFe h (by omega)) (λi j h=>aFe h (by omega)) (λi j h=>aFe h (by omega))
 .obtain⟨_,_,_,_,_,hc⟩:=Zwq h;have key:∀i j,∃x,i<n->j<sz->w.cell? ⟨b,i*sz+j,S_⟩=S8 x/\x.oneCell'=Tl/\oI S w ru (c i j) x:=by
   intro i j;by_cases hi:i<n/\j<sz
   .simp_all
   .exact⟨undef,λh1 h2=>aFe ⟨h1,h2⟩ hi⟩
  let qe:Nat->Nat->Value:=λi j=>(key i j).choose
  have hv:∀i j,i<n->j<sz->w.cell? ⟨b,i*sz+j,S_⟩=S8 (qe i j)/\(qe i j).oneCell'=Tl/\oI S w ru (c i j) (qe i j):=λi j=>(key i j).choose_spec;exact .sl b 0 qe h2 (λ_=>⟨rfl,hb b rfl⟩) (λi j hi hj=>by simp_all) (λi j hi hj=>(hv i j hi hj).2.1) (λi j hi hj=>((hv i j hi hj).2.2).rO (λ_ _=>rfl) hS)
theorem oI.CD{l:S5 C}{b off:Nat}(h:se S w m (.pointer (S8 ⟨b,0,S_⟩)) (.box l))(hp:l.all C.pure=Tl)
  (hS:∀b,S b->S' b) (hb:S' b):oI S' w m' (.rp Tm (S7 l-off) λj=>l.getD (off+j) .oF) (.pointer (S8 ⟨b,off,S_⟩)):=by
 obtain⟨b',bB,t,h1,h2,h3⟩:=h;simp at h1;subst h1;have hl:bB.size=S7 l:=by simpa using h3.1
 have hv:∀j,j<S7 l-off->bB[off+j]?=S8 (bB.getD (off+j) undef):=by
  intro j hj;have:off+j<bB.size:=by omega
  simp_all
 refine .rp b _ (λj=>bB.getD (off+j) undef) hb (λj hj=>?_) (λj hj=>?_) (λj hj=>?_)
 .rw[O0 h2];exact hv j hj
 .exact h3.2.2 _ (by grind)
 .have qI:off+j<S7 l:=by omega
  have hc:l[off+j]?=S8 (l.getD (off+j) .oF):=by simp_all
  obtain⟨x,h4,h5⟩:=h3.2.1 _ _ hc;have h6:=hv j hj;rw[<-Tv,h4]at h6;cases h6;exact((h5.anyM ru (Tt.1 hp _ (Tk hc))).rO (λ_ _=>rfl) hS)
theorem amu{b:B}(h:se S w m (m id) b)(hS:∀b,S b->S' b)(hb:∀k,sU (m id)=S8 k->S' k)(c:C)(x:Value)(hc:oI S w m c x) :
  oI S' w m (F_ id b c) x:=by
 have hk:=hc.rm (w':=w) (S':=S') (λ_ _=>rfl) hS (λ_ _=>rfl);unfold F_;split
 .split
  .rename_i e sz len cc hid;obtain rfl:=ta hid;cases hc with
   |p8 hm h0=>
    rw[hm]at h hb;obtain⟨rfl,h2⟩:=oI.wL (m':=m) h ⟨_,_,rfl⟩ hS hb;exact h2
  .exact hk
 .exact hk
 .rename_i k off;split
  .rename_i l hid;split
   .rename_i hp;obtain rfl:=ta hid;cases hc with
    |ptr hm=>
     rw[hm]at h hb;exact oI.CD h hp hS (hb _ rfl)
   .exact hk
  .exact hk
 .rename_i t c;split
  .rename_i k off;split
   .rename_i l hid;split
    .rename_i hp;obtain rfl:=ta hid;cases hc with
     |th hc=>
      cases hc with
      |ptr hm=>
       rw[hm]at h hb;exact .th (oI.CD h hp hS (hb _ rfl))
    .exact hk
   .exact hk
  .exact hk
 .exact hk
def St.freeze(st:St)(id:Nat)(b:B):St:=st.map id (F_ id b)
theorem qB.freeze{st:St}(h:qB N F S m st a w){b:B}(hb:oP st.heap id=S8 b) :
  qB N F (λk=>S k\/sU (m id)=S8 k) m (st.freeze id b) a w:=by
 have pQ:=h.heap id b hb;have hf:=amu pQ (S':=λk=>S k\/sU (m id)=S8 k) (λ_ x=>.inl x) (λ_ x=>.inr x);have key:∀{xn b'},oP (st.freeze id b).heap xn=S8 b'->id≠xn/\∃b2,oP st.heap xn=S8 b2/\b'=b2.acl (F_ id b):=by
  simp_all[ZQl,Ha,St.freeze,St.map]
 have he:∀t,(st.freeze id b).get t=(match st.get t with
   | .one c=>.one (F_ id b c)
   | .agg l=>.agg (l.map (F_ id b))
   | .qw l=>.qw (l.map λq=>(q.1,q.2.map (F_ id b)))):=by
  intro t;exact ZBi (α:=V) (β:=V) (.one .oF) (λv=>match v with
    | .one c=>.one (F_ id b c)
    | .agg l=>.agg (l.map (F_ id b))
    | .qw l=>.qw (l.map λq=>(q.1,q.2.map (F_ id b)))) st.env t
 refine⟨h.size,λt=>?_,λt ht=>by rw[he,h.CG t ht];rfl,λxn b' bg=>?_,λxn b' bg k ur=>?_,λi1 i2 ly b2' qN h1 h2=>?_,λk hs=>?_,h.defers,h.pJ,h.xg,h.len⟩
 .rw[he];have h0:=h.env t;cases hg:st.get t with
  |one c=>rw[hg]at h0;exact hf _ _ h0
  |agg l=>rw[hg]at h0;obtain⟨xs,h1,h2⟩:=h0;exact⟨xs,h1,h2.map hf⟩
  |qw l=>
   rw[hg]at h0;obtain⟨xs,h1,h2,h3⟩:=h0;refine⟨xs,h1,by simpa using h2,λj p hp=>?_⟩;simp only[TN,TD]at hp;obtain⟨p0,h0,rfl⟩:=hp;obtain⟨y,h4,h5⟩:=h3 j p0 h0;refine⟨y,h4,?_⟩;obtain⟨b,cs⟩:=p0
   match b,cs,h5 with
   |true,cs,h5=>obtain⟨ys,h6,h7⟩:=h5;exact⟨ys,h6,h7.map hf⟩
   |false,[c],h5=>exact hf _ _ h5
   |false,[],_=>trivial
   |false,_ :: _ :: _,_=>trivial
 .obtain⟨e,b2,bF,rfl⟩:=key bg;have h0:=h.heap xn b2 bF;cases b2 with
  |box l=>
   obtain⟨k,bB,t,h1,h2,h3⟩:=h0;exact⟨k,bB,t,h1,h2,h3.map hf⟩
  |rows e sz len c=>exact h0.rm (λ_ _=>rfl) (λ_ x=>.inl x) (λ_ _=>rfl) λ_ _=>rfl
  |map kt l=>exact h0.rm (λ_ _=>rfl) (λ_ x=>.inl x) (λ_ _=>rfl) λ_ _=>rfl
  |hole e len c k x=>
   obtain⟨xs,h1,h2,h3⟩:=h0;exact⟨xs,h1,λi hi=>by obtain⟨y,h4,h5,h6⟩:=h2 i hi;exact⟨y,h4,λe=>(h5 e).rO (λ_ _=>rfl) (λ_ x=>.inl x),λe=>hf _ _ (h6 e)⟩,h3⟩
 .obtain⟨e,b2,bF,rfl⟩:=key bg;obtain⟨h1,h2,h3⟩:=h.own xn b2 bF k ur;refine⟨λhs=>?_,h2,h3⟩;rcases hs with hs|hs
  .exact h1 hs
  .exact h.inj id xn _ _ e hb bF k hs ur
 .obtain⟨e1,c1,iP,rfl⟩:=key h1;obtain⟨e2,c2,zF,rfl⟩:=key h2;exact h.inj i1 i2 _ _ qN iP zF
 .rcases hs with hs|hs
  .exact h.u5 k hs
  .exact(h.own id b hb k hs).2.2
end
section
inductive TK where
 |bool|int (k:IntKind)|str|ptr (e:TypeId)|slice (e:TypeId)|array (n:Nat) (e:TypeId)|struct (fs:List (Nat×TypeId))|map (k v:TypeId)|func|iface|other
def TK.fits:TK->TypeDesc->Prop | .bool,.bool=>True | .int k,.int k'=>k=k' | .str,.string=>True | .ptr e,.pointer e'=>e=e' | .slice e,.slice e'=>e=e' | .array n e,.array n' e'=>n=n'/\e=e' | .struct fs,.struct fields=>fields.toList.map (λf=>(f.offset,f.type))=fs | .map k v,.map k' v'=>k=k'/\v=v' | .func,.func _ _ _=>True | .iface,.interface _=>True | .other,_=>True|_,_=>False
structure TI where
 k:TK
 size:Nat
 bytes:Nat
 zero:Option Value
abbrev qP:=S5 (Nat×TI)
def sv:qP->Nat->S6 TI
 | [],_=>S_
 | (k,v) :: r,t=>match Tg k t with
  |true=>S8 v
  |false=>sv r t
def ac7(P:Program)(t:TypeId)(ti:TI):Prop:=(P.info? t).map (λi=>(i.size,i.bytes))=S8 (ti.size,ti.bytes)/\(P.info? t).bind (·.zero)=ti.zero/\∃d,P.underlying t=S8 d/\ti.k.fits d
def rZ(P:Program)(T:qP):Prop:=∀t ti,sv T t=S8 ti->ac7 P t ti
theorem rZ.nil(P:Program):rZ P []:=λ_ _ h=>by cases h
variable{P:Program}{S:Nat->Prop}{w:World}{t:TypeId}{x:Value}
theorem rZ.cons{t:Nat}{ti:TI}{T:qP}(h:ac7 P t ti)(hT:rZ P T):rZ P ((t,ti) :: T):=by
 intro t' ti' hq;simp only[sv]at hq;split at hq
 .rename_i hb;obtain rfl:=TF hb;cases hq;exact h
 .exact hT _ _ hq
def TI.isAgg(ti:TI):Bool:=match ti.k with
 | .struct _ | .array _ _=>Tl
 |_=>Tm
def V.vW:Value->V
 | .agg cs=>match cs.toList.all Uz with
  |true=>.agg (cs.toList.map C.lit)
  |false=>.one .oF
 | .tuple _=>.one .oF
 |x=>.one (.lit x)
def pT(st:St):Operand->V | .tmp t=>st.get t | .const v=>V.vW v | .func f=>.one (.lit (.func (.func f) #[] #[])) | .global _=>.one .oF
theorem qk.lits{m:Mp}{l:S5 Value}(h:l.all Uz=Tl):qk S w m (l.map C.lit) l:=by
 refine⟨by simp,λj c hc=>?_,λx hx=>Tt.1 h x hx⟩;simp only[TN,TD]at hc;obtain⟨x,h0,rfl⟩:=hc;exact⟨x,h0,.lit⟩
theorem V.vH{m:Mp}(x:Value):o6 S w m (V.vW x) x:=by
 unfold V.vW;split
 .rename_i cs;split
  .rename_i h;exact⟨cs,rfl,qk.lits h⟩
  .exact oI.oF
 .exact oI.oF
 .exact oI.lit
theorem qB.pT{N:Nat}{F:tK}{m:Mp}{st:St}{a:Act}(h:qB N F S m st a w)(x:Operand):o6 S w m (pT st x) (a.eval x):=by
 cases x with
 |tmp t=>exact h.env t
 |const v=>exact V.vH v
 |func f=>exact oI.lit
 |global g=>exact oI.oF
def C.Be:C->Bool | .lit x=>x.oneCell' | .oF=>Tm | .uR _ _=>Tm|_=>Tl
theorem oI.Be{m:Mp}{c:C}(h:oI S w m c x)(h1:c.Be=Tl):x.oneCell'=Tl:=by
 cases h<;>first|exact h1|rfl|simp[C.Be]at h1
def V.cells:V->S6 (S5 C)
 | .one c=>match c.Be with
  |true=>S8 [c]
  |false=>S_
 | .agg l=>S8 l
 | .qw _=>S_
theorem V.uO{m:Mp}{v:V}{l:S5 C}(h:o6 S w m v x)(hv:v.cells=S8 l):qk S w m l x.cells.toList:=by
 cases v with
 |one c=>
  simp only[V.cells]at hv;split at hv
  .rename_i hc;cases hv;have h1:=oI.Be h hc;have hx:x.cells = #[x]:=by cases x<;>first|rfl|cases h1
   rw[hx];refine⟨rfl,λj c' hj=>?_,λy hy=>?_⟩
   .cases j with
    |zero=>simp only[List.getElem?_cons_zero,S9]at hj;subst hj;exact⟨x,rfl,h⟩
    |succ j=>simp at hj
   .simp at hy;subst hy;exact h1
  .cases hv
 |agg l'=>
  cases hv;obtain⟨xs,rfl,h⟩:=h;exact h
 |qw l'=>cases hv
def F6(agg:Bool)(l:S5 C):S6 V:=match agg,l with
 |true,l=>S8 (.agg l)
 |false,[c]=>S8 (.one c)
 |_,_=>S_
def cut(l:S5 C)(o n:Nat):S6 (S5 C):=match TB (o+n) l.length with
 |true=>S8 ((l.drop o).take n)
 |false=>S_
def xX(n:Nat)(f:Nat->C):S5 C:=(Tr n).map f
inductive sF where
 |b (v:Bool)
 |c (n:Nat) (cell:Nat->Nat->C)
 |own
 |r (v:V) (fz:List Nat)
 |id (n:Nat)
 |m (l:List (Value×V))
def act(op:BinOp)(k:IntKind)(x y:Int):S6 (Value×S5 Prop):=match op with
 | .add=>S8 (.int k (k.wrap (x+y)),[])
 | .sub=>S8 (.int k (k.wrap (x-y)),[])
 | .mul=>S8 (.int k (k.wrap (x*y)),[])
 | .quo=>S8 (.int k (k.wrap (x.tdiv y)),[y≠0])
 | .rem=>S8 (.int k (x.tmod y),[y≠0])
 | .and=>S8 (.int k (k.wrap (Tz k.bits x &&& Tz k.bits y).toNat),[])
 | .or=>S8 (.int k (k.wrap (Tz k.bits x |||Tz k.bits y).toNat),[])
 | .xor=>S8 (.int k (k.wrap (Tz k.bits x ^^^ Tz k.bits y).toNat),[])
 | .andNot=>S8 (.int k (k.wrap (Tz k.bits x &&& ~~~Tz k.bits y).toNat),[])
 | .eql=>S8 (.bool (x==y),[])
 | .neq=>S8 (.bool (x != y),[])
 | .lss=>S8 (.bool (x<y),[])
 | .leq=>S8 (.bool (x<=y),[])
 | .gtr=>S8 (.bool (x>y),[])
 | .geq=>S8 (.bool (x>=y),[])
 |_=>S_
def ZVW(op:BinOp)(k:IntKind)(x y:Int):S6 (Value×S5 Prop):=match op with
 | .shl=>S8 (.int k (k.wrap (x * 2 ^ (min y.toNat k.bits))),[0<=y])
 | .shr=>S8 (.int k (x.fdiv (2 ^ (min y.toNat k.bits))),[0<=y])
 |_=>S_
def acu(op:BinOp)(x y:ByteArray):S6 (Value×S5 Prop):=match op with
 | .add=>S8 (.string (x++y),[x.size+y.size<=maxLen])
 | .eql=>S8 (.bool (x.toList==y.toList),[])
 | .neq=>S8 (.bool (!(x.toList==y.toList)),[])
 | .lss=>S8 (.bool (Um x.toList y.toList),[])
 | .leq=>S8 (.bool (Um x.toList y.toList||x.toList==y.toList),[])
 | .gtr=>S8 (.bool (!(Um x.toList y.toList||x.toList==y.toList)),[])
 | .geq=>S8 (.bool (!Op.bytesLess x.toList y.toList),[])
 |_=>S_
def ZUS:BinOp->Bool | .shl | .shr=>Tl|_=>Tm
def ac1:IntKind->IntKind->Bool | .i8,.i8 | .i16,.i16 | .i32,.i32 | .i64,.i64 | .u8,.u8 | .u16,.u16 | .u32,.u32 | .u64,.u64=>Tl|_,_=>Tm
theorem ZWh{a b:IntKind}(h:ac1 a b=Tl):a=b:=by cases a<;>cases b<;>first|rfl|cases h
def NN(T:qP)(op:BinOp)(t:TypeId)(x y:Value):S6 (Value×S5 Prop):=match x,y with
 | .int k a,.int k' b=>match ZUS op with
  |true=>ZVW op k a b
  |false=>match ac1 k k' with
   |true=>act op k a b
   |false=>S_
 | .string a,.string b=>acu op a b
 | .bool a,.bool b=>match sv T t with
  |some ti=>match ti.k,op with
   | .bool,.eql=>S8 (.bool (a==b),[])
   | .bool,.neq=>S8 (.bool (!(a==b)),[])
   |_,_=>S_
  |none=>S_
 |_,_=>S_
theorem rZ.under{T:qP}(hT:rZ P T){ti:TI}(h:sv T t=S8 ti):∃d,P.underlying t=S8 d/\ti.k.fits d:=(hT t ti h).2.2
theorem ZKD(hu:P.underlying t=S8 .bool)(n:Nat)(a b:Bool)(w:World):(UQ (n+1) t (.bool a) (.bool b)).run P w=.ok (a==b) w:=by
 simp only[UQ,Ta,run_underlying hu,Tj,Tp]
theorem ZEP(hu:P.underlying t=S8 .bool)(a b:Bool)(w:World):(Op.equal t (.bool a) (.bool b)).run P w=.ok (a==b) w:=ZKD hu 9999 a b w
theorem ZWg  {T : qP} (hT : rZ P T) {op : BinOp}  {y r:Value} {o_ : S5 Prop} (h : NN T op t x y = S8 (r, o_)) (ho : ∀ p ∈ o_, p) (xo yo : Operand) (w : World) :
    (do eqGuard op t xo yo x y; binOp op t x y:Sem Value).run P w = .ok r w:=by
  unfold NN at h
  split at h
  . rename_i k a k' b
    split at h
    . rename_i hs
      unfold ZVW at h
      have hg:(eqGuard op t xo yo (.int k a) (.int k' b)).run P w = .ok () w:=by
        cases op <;> first | cases h; done | simp [eqGuard]
      cases op <;> (try (simp at h; done)) <;> (simp only [S9,Tc] at h; obtain ⟨rfl,rfl⟩:=h; have hy:0<=b:=ho _ (by simp); simp [Ta,hg,binOp,Op.shift,show ¬ b < 0 by omega])
    . rename_i hs
      split at h
      . rename_i hk
        obtain rfl:=ZWh hk
        have hg:(eqGuard op t xo yo (.int k a) (.int k b)).run P w = .ok () w:=by
          cases op <;> simp [eqGuard]
        unfold act at h
        cases op <;> (try (simp at h; done)) <;> (try (simp [ZUS] at hs; done)) <;> (simp only [S9,Tc] at h; obtain ⟨rfl,rfl⟩:=h) <;>
          first
          | (simp [Ta,hg,binOp,Op.intArith,Op.intBits,Op.intCmp]; done)
          | (have hy:b ≠ 0:=ho _ (by simp); simp [Ta,hg,binOp,Op.intDiv,hy])
      . cases h
  . rename_i a b
    have hg:(eqGuard op t xo yo (.string a) (.string b)).run P w = .ok () w:=by cases op <;> simp [eqGuard]
    unfold acu at h
    cases op <;> (try (simp at h; done)) <;> (simp only [S9,Tc] at h; obtain ⟨rfl,rfl⟩:=h) <;>
      first
      | (simp [Ta,hg,binOp,UP]; done)
      | (have hy : a.size + b.size <= maxLen := ho _ (by simp)
         have h2 : ¬ (((a.size + b.size:Nat):Int) > TZ.max):=by simp only [maxLen] at hy; simp only [UT,Ut,UB]; simp; omega
         simp only [Ta,hg,Tj,binOp,UP,aE_ h2,Tp])
  . rename_i a b
    have hg:(eqGuard op t xo yo (.bool a) (.bool b)).run P w = .ok () w:=by cases op <;> simp [eqGuard]
    split at h
    . rename_i ti bz
      obtain ⟨d,hu,hf⟩:=hT.under bz
      split at h
      . rename_i hk
        simp only [S9,Tc] at h
        obtain ⟨rfl,rfl⟩:=h
        rw [hk] at hf
        cases d <;> simp only [TK.fits] at hf
        simp only [Ta,hg,Tj,binOp,ZEP hu,Tp]
      . rename_i hk
        simp only [S9,Tc] at h
        obtain ⟨rfl,rfl⟩:=h
        rw [hk] at hf
        cases d <;> simp only [TK.fits] at hf
        simp only [Ta,hg,Tj,binOp,ZEP hu,Tp]
      . cases h
    . cases h
  . cases h
end
section
variable{T:qP}{S:Nat->Prop}{w:World}{m:Mp}{P:Program}{t:TypeId}{b o n N:Nat}{ti:TI}{l:S5 C}{v p:V}{st:St}{F:tK}{a:Act}{px:Value}{o_:S5 Prop}
theorem rZ.size(hT:rZ P T)(h:sv T t=S8 ti)(w:World):(sizeOf t).run P w=.ok ti.size w:=by
 have h1:=(hT t ti h).1;cases hq:P.info? t with
 |none=>simp_all
 |some i=>
  simp[hq]at h1;simp[sizeOf,typeInfo,hq,h1.1]
theorem rZ.info(hT:rZ P T)(h:sv T t=S8 ti):∃i,P.info? t=S8 i/\i.size=ti.size/\i.bytes=ti.bytes/\i.zero=ti.zero:=by
 have h1:=(hT t ti h).1;have h2:=(hT t ti h).2.1;cases hq:P.info? t with
 |none=>simp_all
 |some i=>
  simp_all
theorem rZ.isAgg(hT:rZ P T)(h:sv T t=S8 ti)(ho:ti.k≠.other)(w:World):(isAgg t).run P w=.ok ti.isAgg w:=by
 obtain⟨d,hu,hf⟩:=hT.under h;unfold Go.isAgg;rw[Ta,run_underlying hu w];unfold TI.isAgg;cases hk:ti.k<;>rw[hk]at hf ho<;>cases d<;>simp_all [TK.fits]
def TK.known:TK->Bool | .other=>Tm|_=>Tl
theorem TK.Bi{k:TK}(h:k.known=Tl):k≠.other:=by rintro rfl;cases h
def Bb(S:Nat->Prop)(w:World)(m:Mp)(b o:Nat)(l:S5 C):Prop:=∀(j:Nat)(c:C),l[j]?=S8 c->∃x,w.cell? ⟨b,o+j,S_⟩=S8 x/\x.oneCell'=Tl/\oI S w m c x
theorem Bb.list:∀{l:S5 C}{o:Nat},Bb S w m b o l->∃xs:S5 Value,qk S w m l xs/\w.rangeAt b o xs
 | [],o,_=>⟨[],⟨rfl,λj c h=>by simp at h,λx h=>by simp at h⟩,λj v h=>by simp at h⟩
 |c :: l,o,h=>by
  obtain⟨x,h1,h2,h3⟩:=h 0 c rfl
  have ht:Bb S w m b (o+1) l:=λj c hj=>by
   obtain⟨y,h4,h5⟩:=h (j+1) c (by simpa using hj)
   grind
  obtain⟨xs,⟨h4,h5,h6⟩,h7⟩:=ht.list
  refine⟨x :: xs,⟨by simp_all,λj c' hj=>?_,λy hy=>?_⟩,λj v hv=>?_⟩
  .grind
  .grind
  .cases j with
   |zero=>simp_all
   |succ j=>
    have:=h7 j v (by simpa using hv)
    grind
theorem RK(hT:rZ P T)(ht:sv T t=S8 ti)(hk:ti.k.known=Tl)
  (hl:Bb S w m b o l) (hn:S7 l=ti.size) (hv:F6 ti.isAgg l=S8 v):∃x,(TU t (.pointer (S8 ⟨b,o,S_⟩))).run P w=.ok x w/\o6 S w m v x:=by
 have cW:=hT.isAgg ht (TK.Bi hk) w;obtain⟨xs,hx,hr⟩:=hl.list;cases ha:ti.isAgg with
 |true=>
  rw[ha]at hv cW;simp[F6]at hv;subst hv;obtain⟨i,hi,hs,_,_⟩:=hT.info ht;obtain⟨d,hu,hf⟩:=hT.under ht;refine⟨.agg xs.toArray,run_loadAt_mid w b o t xs d hr hu ?_ (by simp[hi,hs,<-hn,hx.1]),xs.toArray,rfl,by simpa using hx⟩;unfold TI.isAgg at ha;cases sR:ti.k<;>rw[sR]at hf ha<;>cases d<;>simp_all [TK.fits,TypeDesc.isRow]
 |false=>
  rw[ha]at hv cW
  match l,hv with
  | [c],hv=>
   simp[F6]at hv;subst hv;obtain⟨x,h1,h2,h3⟩:=hl 0 c rfl;refine⟨x,?_,h3⟩;simp at h1;simp[TU,Tw,loadVar,cW,h1]
def EM(T:qP)(st:St)(t:TypeId)(p:V):S6 (V×S5 Prop):=match sv T t with
 |none=>S_
 |some ti=>match ti.k.known with
  |false=>S_
  |true=>match p with
   | .one (.ptr id off)=>match oP st.heap id with
    |some (.box l)=>match cut l off ti.size with
     |some l'=>match F6 ti.isAgg l' with
      |some v=>S8 (v,[])
      |none=>S_
     |none=>S_
    |_=>S_
   | .one (.rp Tm n cell)=>match TB ti.size n with
    |true=>match F6 ti.isAgg (xX ti.size cell)with
     |some v=>S8 (v,[])
     |none=>S_
    |false=>S_
   | .one (.yN n cell)=>match TB ti.size n with
    |true=>match F6 ti.isAgg (xX ti.size cell)with
     |some v=>S8 (v,[])
     |none=>S_
    |false=>S_
   | .one (.rK id sz i off)=>match oP st.heap id with
    |some (.rows e vQ len c)=>match Tg sz vQ,TB (off+ti.size) sz with
     |true,Tl=>match F6 ti.isAgg (xX ti.size λj=>c i (off+j))with
      |some v=>S8 (v,[i<len])
      |none=>S_
     |_,_=>S_
    |_=>S_
   |_=>S_
theorem ZQD{l':S5 C}(h:cut l o n=S8 l'):o+n<=S7 l/\l'=(l.drop o).take n:=by
 unfold cut at h;split at h
 .simp_all
 .cases h
theorem OR{f:Nat->C}{j:Nat}{c:C}(h:(xX n f)[j]?=S8 c):j<n/\c=f j:=by
 grind[xX]
theorem SK(n:Nat)(f:Nat->C):(xX n f).length=n:=by simp[xX]
theorem amL(h:se S w m (.pointer (S8 ⟨b,0,S_⟩)) (.box l)):Bb S w m b 0 l:=by
 obtain⟨b',bB,t,h1,h2,h3⟩:=h;simp at h1;subst h1;intro j c hc;obtain⟨x,h4,h5⟩:=h3.2.1 j c hc;refine⟨x,?_,h3.2.2 x (Tk h4),h5⟩;rw[O0 h2,TX,<-Tv];exact h4
theorem Bb.part(h:Bb S w m b o l)(p n:Nat):Bb S w m b (o+p) ((l.drop p).take n):=by
 intro j c hj;rw[Ur]at hj;split at hj
 .rw[Us]at hj;obtain⟨x,h1,h2⟩:=h _ c hj
  grind
 .cases hj
theorem ZEN(hT:rZ P T)(hs:qB N F S m st a w)
  (hp:o6 S w m p px) (h:EM T st t p=S8 (v,o_)) (ho:∀q∈o_,q):∃x,(TU t px).run P w=.ok x w/\o6 S w m v x:=by
 unfold EM at h;split at h
 .cases h
 rename_i ti bz;split at h
 .cases h
 rename_i hk;split at h
 .rename_i id off;split at h
  .rename_i l hl;split at h
   .rename_i l' iQ;split at h
    .rename_i v' hv;simp only[S9,Tc]at h;obtain⟨rfl,rfl⟩:=h;obtain⟨hle,rfl⟩:=ZQD iQ;cases hp with
     |ptr hm=>
      rename_i b;have hB:=hs.heap id _ hl;rw[hm]at hB;have h2:=(amL hB).part off ti.size;rw[TX]at h2;exact RK hT bz hk h2 (by simp;omega) hv
    .cases h
   .cases h
  .cases h
 .rename_i n cell;split at h
  .rename_i hn;split at h
   .rename_i v' hv;simp only[S9,Tc]at h;obtain⟨rfl,rfl⟩:=h;cases hp with
    |rp b off qe ha hc h1 hr=>
     refine RK hT bz hk (λj c hj=>?_) (SK _ _) hv;obtain⟨D9,rfl⟩:=OR hj;have:j<n:=TC D9 (Td hn);exact⟨_,hc j this,h1 j this,(hr j this).tR⟩
   .cases h
  .cases h
 .rename_i n cell;split at h
  .rename_i hn;split at h
   .rename_i v' hv;simp only[S9,Tc]at h;obtain⟨rfl,rfl⟩:=h;cases hp with
    |yN b off qe ha hc h1 hr=>
     refine RK hT bz hk (λj c hj=>?_) (SK _ _) hv;obtain⟨D9,rfl⟩:=OR hj;have:j<n:=TC D9 (Td hn);exact⟨_,hc j this,h1 j this,(hr j this).tR⟩
   .cases h
  .cases h
 .rename_i id sz i off;split at h
  .rename_i e vQ len c hl;split at h
   .rename_i hz hb;split at h
    .rename_i v' hv;simp only[S9,Tc]at h;obtain⟨rfl,rfl⟩:=h;obtain rfl:=ta hz;have hi:i<len:=ho _ (by simp);cases hp with
     |rK hm=>
      rename_i b n cp;have hB:=hs.heap id _ hl;rw[hm]at hB;obtain⟨rfl,_,_,_,_,hc⟩:=Zwq hB;refine RK hT bz hk (λj c' hj=>?_) (SK _ _) hv;obtain⟨D9,rfl⟩:=OR hj;have xp:off+j<sz:=by have:=Td hb;omega
      obtain⟨x,h1,h2,h3⟩:=hc i (off+j) hi xp;exact⟨x,by rw[<-h1];congr 2;omega,h2,h3.tR⟩
    .cases h
   .cases h
  .cases h
 .cases h
def Q5(T:qP)(st:St)(t:TypeId)(p:V)(su:Bool):S6 (V×S5 Prop):=match sv T t,p with
 |some ti,.one (.rK id sz i off)=>match ti.k.known,ti.isAgg,Tg ti.size 1,Tg sz 1,Tg off 0,oP st.heap id with
  |true,Tm,Tl,Tl,Tl,S8 (.hole e len c k x)=>match su with
   |true=>S8 (.one x,[i=k,i<len])
   |false=>S8 (.one (c i),[i≠k,i<len])
  |_,_,_,_,_,_=>S_
 |_,_=>S_
def BT(T:qP)(st:St)(t:TypeId)(p:V)(an:S6 sF):S6 (V×S5 Prop):=match an with
 |some (.b su)=>Q5 T st t p su
 |_=>EM T st t p
theorem ZSc{e:TypeId}{len:Nat}{c:Nat->C}{k:Nat}{x:C}{cap:Nat}(h:se S w m (.slice (S8 ⟨b,0,S_⟩) n cap) (.hole e len c k x)) :
  ∀i,i<len->∃y,w.cell? ⟨b,i,S_⟩=S8 y/\y.oneCell'=Tl/\(i≠k->oI S w ru (c i) y)/\(i=k->oI S w m x y):=by
 obtain⟨xs,⟨hl,h1⟩,h2,h3⟩:=h;rcases h1 with⟨h1,_⟩|⟨g,g3,cur,h1,hb,hg,hn,hm,hs,ht⟩
 .cases h1
 .obtain⟨rfl,rfl,rfl⟩:=h1;intro i hi;obtain⟨y,h4,h5⟩:=h2 i hi;refine⟨y,?_,h3 y (Tk h4),h5⟩;rw[O0 hg]
  grind
theorem ZOh(hT:rZ P T)(hs:qB N F S m st a w){an:S6 sF}
  (hp:o6 S w m p px) (h:BT T st t p an=S8 (v,o_)) (ho:∀q∈o_,q):∃x,(TU t px).run P w=.ok x w/\o6 S w m v x:=by
 unfold BT at h;split at h;rotate_left
 .exact ZEN hT hs hp h ho
 rename_i su;unfold Q5 at h;split at h;rotate_left
 .cases h
 rename_i ti id sz i off bz;split at h;rotate_left
 .cases h
 rename_i e len c k x hk ha h1 bf jE hl;obtain rfl:=ta bf;obtain rfl:=ta jE;have h1:=ta h1;cases hp with
 |rK hm=>
  rename_i b n cp;have hB:=hs.heap id _ hl;rw[hm]at hB;have hc:=ZSc hB;have go:∀c':C,i<len->(∀y,(i≠k->oI S w ru (c i) y)->(i=k->oI S w m x y)->oI S w m c' y)->∃y,(TU t (.pointer (S8 ⟨b,i * 1+0,S_⟩))).run P w=.ok y w/\o6 S w m (.one c') y:=λc' hi hr=>by
   obtain⟨y,q1,q2,q3,q4⟩:=hc i hi;refine RK hT bz hk (l:=[c']) (λj c2 hj=>?_) (by simp[h1]) (by rw[ha];rfl);cases j with
   |zero=>
    cases hj;exact⟨y,by rw[<-q1];congr 2;omega,q2,hr y q3 q4⟩
   |succ j=>simp at hj
  cases su with
  |true=>
   simp only[S9,Tc]at h;obtain⟨rfl,rfl⟩:=h;exact go x (ho _ (by simp)) λy _ q=>q (ho _ (by simp))
  |false=>
   simp only[S9,Tc]at h;obtain⟨rfl,rfl⟩:=h;exact go (c i) (ho _ (by simp)) λy q _=>(q (ho _ (by simp))).tR
theorem ZKx{st2:St}(hh:st2.heap=st.heap)(t:TypeId)(p:V)(an:S6 sF):BT T st2 t p an=BT T st t p an:=by
 unfold BT Q5 EM;rw[hh]
end
section
theorem Aj(b o j:Nat):(⟨b,o,S_⟩ : Addr).add j=⟨b,o+j,S_⟩:=by
 unfold Addr.add;simp_all
def ZPg(o:Nat):V->S6 V
 | .one (.ptr id off)=>S8 (.one (.ptr id (off+o)))
 | .one (.rp Tm n cell)=>match o with
  | 0=>S8 (.one (.rp Tm n cell))
  |o+1=>match TB (o+1) n with
   |true=>S8 (.one (.rp Tm (n-(o+1)) λj=>cell (o+1+j)))
   |false=>S_
 | .one (.rK id sz i off)=>S8 (.one (.rK id sz i (off+o)))
 |_=>S_
variable{w:World}{S:Nat->Prop}{m:Mp}{v x p i:V}{P:Program}{px pi:Value}{T:qP}{t o f ty sz len cap:Nat}{o_:S5 Prop}{l h:S6 Int}{gQ gR:S6 Value}{cell:Nat->Nat->C}{a:S6 Addr}
theorem ZDW(hp:o6 S w m p px)(h:ZPg o p=S8 v):∃b off,px=.pointer (S8 ⟨b,off,S_⟩)/\o6 S w m v (.pointer (S8 ⟨b,off+o,S_⟩)):=by
 unfold ZPg at h;split at h
 .cases h;cases hp with
  |ptr hm=>exact⟨_,_,rfl,oI.ptr hm⟩
 .split at h
  .cases h;cases hp with
   |rp b off qe ha hc h1 hr=>exact⟨b,_,rfl,oI.rp b _ _ ha hc h1 hr⟩
  .rename_i o;split at h
   .rename_i hb;cases h;cases hp with
    |rp b off qe ha hc h1 hr=>
     refine⟨b,off,rfl,oI.rp b (off+(o+1)) (λj=>qe (o+1+j)) ha (λj hj=>?_) (λj hj=>h1 _ (by omega)) (λj hj=>hr _ (by omega))⟩
     grind
   .cases h
 .cases h;cases hp with
  |rK hm=>rename_i b n c;exact⟨b,_,rfl,by rw[Nat.add_assoc];exact oI.rK hm⟩
 .cases h
def ZxQ(T:qP)(t:TypeId)(f:Nat)(p:V):S6 V:=match sv T t with
 |some ti=>match ti.k with
  | .struct fs=>match fs[f]? with
   |some (o,ty)=>match sv T ty with
    |some ti'=>match TB 1 ti'.size with
     |true=>ZPg o p
     |false=>S_
    |none=>S_
   |none=>S_
  |_=>S_
 |none=>S_
theorem ZAl{fields:Array Field}{fs:S5 (Nat×TypeId)}(h:fields.toList.map (λf=>(f.offset,f.type))=fs)(hf:fs[f]?=S8 (o,ty)):∃jF,fields[f]?=S8 jF/\jF.offset=o/\jF.type=ty:=by
 grind
theorem ZCQ(hT:rZ P T)(hp:o6 S w m p px)(h:ZxQ T t f p=S8 v) :
  ∃x,(UF t px f).run P w=.ok x w/\o6 S w m v x:=by
 unfold ZxQ at h;split at h
 .rename_i ti bz;obtain⟨d,hu,hf⟩:=hT.under bz;split at h
  .rename_i fs hk;rw[hk]at hf;split at h
   .rename_i o ty iR;split at h
    .rename_i ti' lY;split at h
     .rename_i hb;have hz:=Td hb;cases d<;>simp only[TK.fits]at hf;rename_i fields;obtain⟨jF,h1,h2,h3⟩:=ZAl hf iR;obtain⟨b,off,rfl,hv⟩:=ZDW hp h;refine⟨_,?_,hv⟩;have bf:=hT.size lY w;rw[<-h3]at bf;have cJ:ti'.size≠0:=by omega
      simp[UF,Ta,run_underlying hu,h1,Tw,fieldPlace,bf,cJ,Aj,h2]
     .cases h
    .cases h
   .cases h
  .cases h
 .cases h
def z7:V->S6 (IntKind×Int) | .one (.lit (.int k n))=>S8 (k,n)|_=>S_
theorem Lj{x:Value}{k:IntKind}{n:Int}(h:o6 S w m v x)(hv:z7 v=S8 (k,n)):x=.int k n:=by
 unfold z7 at hv;split at hv
 .cases hv;cases h;rfl
 .cases hv
def ZxO(T:qP)(t:TypeId)(x i:V):S6 (V×S5 Prop):=match sv T t with
 |some ti=>match z7 i with
  |some (k,n)=>match ti.k with
   | .slice e=>match sv T e with
    |some te=>match TB 1 te.size with
     |true=>match x with
      | .one (.sl sz len cell)=>match Tg sz te.size with
       |true=>S8 (.one (.rp Tm sz (cell n.toNat)),[0<=n/\n<len])
       |false=>S_
      | .one (.vd sz len cell)=>match Tg sz te.size with
       |true=>S8 (.one (.yN sz (cell n.toNat)),[0<=n/\n<len])
       |false=>S_
      | .one (.p8 id len)=>S8 (.one (.rK id te.size n.toNat 0),[0<=n/\n<len])
      | .one (.rL id sz lo len n0)=>match Tg sz te.size with
       |true=>S8 (.one (.rK id te.size (lo+n.toNat) 0),[0<=n/\n<len])
       |false=>S_
      |_=>S_
     |false=>S_
    |none=>S_
   | .array len e=>match sv T e with
    |some te=>match ZPg (n.toNat*te.size) x with
     |some v=>S8 (v,[0<=n/\n<len])
     |none=>S_
    |none=>S_
   |_=>S_
  |none=>S_
 |none=>S_
theorem ZCO(hT:rZ P T){t:TypeId}
  (hx:o6 S w m x px) (hi:o6 S w m i pi) (h:ZxO T t x i=S8 (v,o_)) (ho:∀q∈o_,q):∃y,(TH t px pi).run P w=.ok y w/\o6 S w m v y:=by
 unfold ZxO at h;split at h
 .rename_i ti bz;obtain⟨d,hu,hf⟩:=hT.under bz;split at h
  .rename_i k n hn;obtain rfl:=Lj hi hn;split at h
   .rename_i e hk;rw[hk]at hf;cases d<;>simp only[TK.fits]at hf;subst hf;split at h
    .rename_i te bU;have bf:=hT.size bU w;split at h
     .rename_i bL;have hz:=Td bL;split at h
      .rename_i sz len cell;split at h
       .rename_i hb;obtain rfl:=ta hb;simp only[S9,Tc]at h;obtain⟨rfl,rfl⟩:=h;obtain⟨h0,hl⟩ : 0<=n/\n<len:=ho _ (by simp);cases hx with
        |sl b off qe rN ha hc h1 hr=>
         obtain⟨rfl,hb⟩:=ha (by omega);refine⟨.pointer (S8 ⟨b,off+n.toNat*te.size,S_⟩),?_,oI.rp b _ (qe n.toNat) hb (λj hj=>hc _ j (by omega) hj) (λj hj=>h1 _ j (by omega) hj) (λj hj=>hr _ j (by omega) hj)⟩;simp[TH,asIntOf,Ta,run_underlying hu,h0,hl,bf,Aj]
       .cases h
      .rename_i sz len cell;split at h
       .rename_i hb;obtain rfl:=ta hb;simp only[S9,Tc]at h;obtain⟨rfl,rfl⟩:=h;obtain⟨h0,hl⟩ : 0<=n/\n<len:=ho _ (by simp);cases hx with
        |vd b off qe rN ha hc h1 hr=>
         obtain⟨rfl,hb⟩:=ha (by omega);refine⟨.pointer (S8 ⟨b,off+n.toNat*te.size,S_⟩),?_,oI.yN b _ (qe n.toNat) hb (λj hj=>hc _ j (by omega) hj) (λj hj=>h1 _ j (by omega) hj) (λj hj=>hr _ j (by omega) hj)⟩;simp[TH,asIntOf,Ta,run_underlying hu,h0,hl,bf,Aj]
       .cases h
      .rename_i id len;simp only[S9,Tc]at h;obtain⟨rfl,rfl⟩:=h;obtain⟨h0,hl⟩ : 0<=n/\n<len:=ho _ (by simp);cases hx with
       |p8 hm EK=>
        rcases EK with EK|⟨b,rfl⟩
        .omega
        .refine⟨.pointer (S8 ⟨b,n.toNat*te.size+0,S_⟩),?_,oI.rK hm⟩;simp[TH,asIntOf,Ta,run_underlying hu,h0,hl,bf,Aj]
      .rename_i id sz lo len n0;split at h
       .rename_i hb;obtain rfl:=ta hb;simp only[S9,Tc]at h;obtain⟨rfl,rfl⟩:=h;obtain⟨h0,hl⟩ : 0<=n/\n<len:=ho _ (by simp);cases hx with
        |rL hm hc Rc hn ha EK h1=>
         obtain⟨b,rfl⟩:=ha.resolve_left (by omega);have e0:=EK (by omega);rw[TT,Aj,TX]at e0;subst e0;refine⟨.pointer (S8 ⟨b,(lo+n.toNat)*te.size+0,S_⟩),?_,oI.rK hm⟩;have e:lo*te.size+n.toNat*te.size=(lo+n.toNat)*te.size:=by rw[TJ]
         simp[TH,asIntOf,Ta,run_underlying hu,h0,hl,bf,Aj,e]
       .cases h
      .cases h
     .cases h
    .cases h
   .rename_i len e hk;rw[hk]at hf;cases d<;>simp only[TK.fits]at hf;obtain⟨rfl,rfl⟩:=hf;split at h
    .rename_i te bU;have bf:=hT.size bU w;split at h
     .rename_i v' hv;simp only[S9,Tc]at h;obtain⟨rfl,rfl⟩:=h;obtain⟨h0,hl⟩ : 0<=n/\n<(len:Int):=ho _ (by simp);obtain⟨b,off,rfl,hr⟩:=ZDW hx hv;refine⟨_,?_,hr⟩;simp[TH,asIntOf,Tw,Ta,run_underlying hu,h0,hl,bf,Aj]
     .cases h
    .cases h
   .cases h
  .cases h
 .cases h
def ZQw(T:qP)(ty:TypeId)(l:S5 C)(o:Nat):S6 V:=match sv T ty with
 |some ti=>match ti.k.known with
  |true=>match cut l o ti.size with
   |some l'=>F6 ti.isAgg l'
   |none=>S_
  |false=>S_
 |none=>S_
theorem ZEK(hT:rZ P T){l:S5 C}{xs:Array Value}(hl:qk S w m l xs.toList)(h:ZQw T ty l o=S8 v) :
  ∃x,(part ty xs o).run P w=.ok x w/\o6 S w m v x:=by
 unfold ZQw at h;split at h
 .rename_i ti bz;split at h
  .rename_i hk;have cW:=hT.isAgg bz (TK.Bi hk) w;have bf:=hT.size bz w;split at h
   .rename_i l' iQ;obtain⟨hle,rfl⟩:=ZQD iQ;obtain⟨h1,h2,h3⟩:=hl;have oP:∀(j:Nat)(c:C),((l.drop o).take ti.size)[j]?=S8 c->∃x,xs.toList[o+j]?=S8 x/\oI S w m c x:=by
     grind
    cases ha:ti.isAgg with
    |true=>
     rw[ha]at h cW;simp[F6]at h;subst h;refine⟨.agg (xs.extract o (o+ti.size)),by simp[part,cW,bf],_,rfl,?_,λj c hj=>?_,λx hx=>h3 x ?_⟩
     .grind
     .grind
     grind[Array.toList_extract]
    |false=>
     rw[ha]at h cW
     match hq:(l.drop o).take ti.size,h with
     | [c],h=>
      simp[F6]at h;subst h;obtain⟨x,h4,h5⟩:=oP 0 c (by rw[hq];rfl);refine⟨x,?_,h5⟩;simp at h4;simp[part,cW,h4]
   .cases h
  .cases h
 .cases h
def ZOt(T:qP)(t f:Nat)(x:V):S6 V:=match sv T t with
 |some ti=>match ti.k,x with
  | .struct fs,.agg l=>match fs[f]? with
   |some (o,ty)=>ZQw T ty l o
   |none=>S_
  |_,_=>S_
 |none=>S_
theorem ZOs(hT:rZ P T)(hx:o6 S w m x px)(h:ZOt T t f x=S8 v) :
  ∃y,(UH t px f).run P w=.ok y w/\o6 S w m v y:=by
 unfold ZOt at h;split at h
 .rename_i ti bz;obtain⟨d,hu,hf⟩:=hT.under bz;split at h
  .rename_i fs l hk;rw[hk]at hf;cases d<;>simp only[TK.fits]at hf;split at h
   .rename_i o ty iR;obtain⟨jF,h1,h2,h3⟩:=ZAl hf iR;obtain⟨xs,rfl,hl⟩:=hx;obtain⟨y,h4,h5⟩:=ZEK hT hl h;refine⟨y,?_,h5⟩;simp[UH,run_underlying hu,h1,asAgg,h2,h3,h4]
   .cases h
  .cases h
 .cases h
def Ai(s:ByteArray)(n:Nat):Nat:=(s.data.toList.getD n 0).toNat
def ZOl(T:qP)(t:Nat)(x i:V):S6 (V×S5 Prop):=match sv T t with
 |some ti=>match z7 i with
  |some (k,n)=>match ti.k,x with
   | .array len e,.agg l=>match sv T e with
    |some te=>match ZQw T e l (n.toNat*te.size)with
     |some v=>S8 (v,[0<=n/\n<len])
     |none=>S_
    |none=>S_
   | .str,.one (.lit (.string s))=>S8 (.one (.lit (.int .u8 (Ai s n.toNat))),[0<=n/\n<s.size])
   |_,_=>S_
  |none=>S_
 |none=>S_
theorem ZOk(hT:rZ P T)(hx:o6 S w m x px)(hi:o6 S w m i pi)(h:ZOl T t x i=S8 (v,o_))(ho:∀q∈o_,q) :
  ∃y,(Ui t px pi).run P w=.ok y w/\o6 S w m v y:=by
 unfold ZOl at h;split at h
 .rename_i ti bz;obtain⟨d,hu,hf⟩:=hT.under bz;split at h
  .rename_i k n hn;obtain rfl:=Lj hi hn;split at h
   .rename_i len e l hk;rw[hk]at hf;cases d<;>simp only[TK.fits]at hf;obtain⟨rfl,rfl⟩:=hf;split at h
    .rename_i te bU;have bf:=hT.size bU w;split at h
     .rename_i v' hv;obtain⟨rfl,rfl⟩:=h;obtain⟨h0,hl⟩ : 0<=n/\n<(len:Int):=ho _ (by simp);obtain⟨xs,rfl,Rc⟩:=hx;obtain⟨y,h4,h5⟩:=ZEK hT Rc hv;refine⟨y,?_,h5⟩;simp[Ui,asIntOf,run_underlying hu,h0,hl,bf,h4]
     .cases h
    .cases h
   .rename_i s hk;rw[hk]at hf;cases d<;>simp only[TK.fits]at hf;simp only[S9,Tc]at h;obtain⟨rfl,rfl⟩:=h;obtain⟨h0,hl⟩ : 0<=n/\n<(s.size:Int):=ho _ (by simp);cases hx;refine⟨_,?_,oI.lit⟩;have qI:n.toNat<s.size:=by omega
    have w8:n.toNat<S7 s.data.toList:=by simpa using qI
    have:s[n.toNat]?=S8 s[n.toNat]:=by simp[qI]
    have hb:(s.data.toList.getD n.toNat 0)=s[n.toNat]:=by
     rw[Ty,List.getElem?_eq_getElem w8];rfl
    simp[Ui,asIntOf,Ta,run_underlying hu,h0,this,Ai,<-hb]
   .cases h
  .cases h
 .cases h
def ZCR(x:V)(i:Nat):S6 V:=match x with
 | .qw l=>match l[i]? with
  |some (Tl,cs)=>S8 (.agg cs)
  |some (Tm,[c])=>S8 (.one c)
  |_=>S_
 |_=>S_
theorem ZGI{i:Nat}(hx:o6 S w m x px)(h:ZCR x i=S8 v):∃y,(Ue px i).run P w=.ok y w/\o6 S w m v y:=by
 unfold ZCR at h;split at h
 .obtain⟨xs,rfl,h1,h2⟩:=hx;split at h
  .rename_i cs hl;cases h;obtain⟨y,h3,h4⟩:=h2 i _ hl;exact⟨y,by simp[Ue,h3],h4⟩
  .rename_i c hl;cases h;obtain⟨y,h3,h4⟩:=h2 i _ hl;exact⟨y,by simp[Ue,h3],h4⟩
  .cases h
 .cases h
def ZWd(T:qP)(st:St)(t:Nat)(x:V):S6 V:=match sv T t with
 |some ti=>match ti.k,x with
  | .slice _,.one (.sl _ len _)=>S8 (.one (.lit (.int .i64 len)))
  | .slice _,.one (.vd _ len _)=>S8 (.one (.lit (.int .i64 len)))
  | .slice _,.one (.p8 _ len)=>S8 (.one (.lit (.int .i64 len)))
  | .slice _,.one (.rL _ _ _ len _)=>S8 (.one (.lit (.int .i64 len)))
  | .slice _,.one (.lit (.slice _ len _))=>S8 (.one (.lit (.int .i64 len)))
  | .str,.one (.lit (.string s))=>S8 (.one (.lit (.int .i64 s.size)))
  | .array n _,_=>S8 (.one (.lit (.int .i64 n)))
  |_,_=>S_
 |none=>S_
theorem ZWc(hT:rZ P T){st:St}(hx:o6 S w m x px)(h:ZWd T st t x=S8 v) :
  ∃y,(Tx #[t] ty #[px]).run P w=.ok y w/\o6 S w m v y:=by
 unfold ZWd at h;split at h
 .rename_i ti bz;obtain⟨d,hu,hf⟩:=hT.under bz;split at h
  .rename_i hk;rw[hk]at hf;cases d<;>simp only[TK.fits]at hf;cases h;cases hx;exact⟨_,by simp[Tx,run_underlying hu,goInt],oI.lit⟩
  .rename_i hk;rw[hk]at hf;cases d<;>simp only[TK.fits]at hf;cases h;cases hx;exact⟨_,by simp[Tx,run_underlying hu,goInt],oI.lit⟩
  .rename_i hk;rw[hk]at hf;cases d<;>simp only[TK.fits]at hf;cases h;cases hx;exact⟨_,by simp[Tx,run_underlying hu,goInt],oI.lit⟩
  .rename_i hk;rw[hk]at hf;cases d<;>simp only[TK.fits]at hf;cases h;cases hx;exact⟨_,by simp[Tx,run_underlying hu,goInt],oI.lit⟩
  .rename_i hk;rw[hk]at hf;cases d<;>simp only[TK.fits]at hf;cases h;cases hx;exact⟨_,by simp[Tx,Ta,run_underlying hu,goInt],oI.lit⟩
  .rename_i hk;rw[hk]at hf;cases d<;>simp only[TK.fits]at hf;cases h;cases hx;exact⟨_,by simp[Tx,Ta,run_underlying hu,goInt],oI.lit⟩
  .rename_i hk;rw[hk]at hf;cases d<;>simp only[TK.fits]at hf;obtain⟨rfl,rfl⟩:=hf;cases h;exact⟨_,by simp[Tx,Ta,run_underlying hu,goInt],oI.lit⟩
  .cases h
 .cases h
def ZQv(sz:Nat)(x:V)(l h:S6 Int):S6 (V×S5 Prop):=match x with
 | .one (.p8 id len)=>S8 (.one (.rL id sz (l.getD 0).toNat ((h.getD len).toNat-(l.getD 0).toNat) len),[0<=l.getD 0/\l.getD 0<=h.getD len/\h.getD len<=(len:Int)])
 | .one (.rL id vQ lo len n)=>match Tg vQ sz with
  |true=>S8 (.one (.rL id sz (lo+(l.getD 0).toNat) ((h.getD len).toNat-(l.getD 0).toNat) n),[0<=l.getD 0/\l.getD 0<=h.getD len/\(lo:Int)+h.getD len<=(n:Int)])
  |false=>S_
 |_=>S_
def ZIB:S6 V->S6 (S6 Int)
 |none=>S8 S_
 |some v=>match z7 v with
  |some (_,n)=>S8 (S8 n)
  |none=>S_
def ZOb(T:qP)(t:Nat)(x:V)(lo hi mx:S6 V):S6 (V×S5 Prop):=match sv T t with
 |some ti=>match ZIB lo,ZIB hi,mx with
  |some l,S8 h,S_=>match ti.k,x with
   | .slice e,.one (.p8 id len)=>match sv T e with
    |some te=>ZQv te.size (.one (.p8 id len)) l h
    |none=>S_
   | .slice e,.one (.rL id sz lo len n)=>match sv T e with
    |some te=>ZQv te.size (.one (.rL id sz lo len n)) l h
    |none=>S_
   | .slice e,.one (.sl sz len cell)=>match sv T e with
    |some te=>match Tg sz te.size with
     |true=>match l,h with
      |none,S_=>S8 (.one (.sl sz len cell),[])
      |some l,S_=>S8 (.one (.sl sz (len-l.toNat) λi=>cell (l.toNat+i)),[0<=l/\l<=len])
      |none,S8 h=>S8 (.one (.sl sz h.toNat cell),[0<=h/\h<=len])
      |some l,S8 h=>S8 (.one (.sl sz (h.toNat-l.toNat) λi=>cell (l.toNat+i)),[0<=l/\l<=h/\h<=len])
     |false=>S_
    |none=>S_
   | .slice e,.one (.vd sz len cell)=>match sv T e with
    |some te=>match Tg sz te.size,l,h with
     |true,S8 l,S_=>S8 (.one (.vd sz (len-l.toNat) λi=>cell (l.toNat+i)),[0<=l/\l<=len])
     |_,_,_=>S_
    |none=>S_
   | .array n e,.one (.rp Tm q cell)=>match sv T e,l,h with
    |some te,S_,S_=>match Tg q (n*te.size),T6 0 n with
     |true,Tl=>S8 (.one (.sl te.size n λi j=>cell (i*te.size+j)),[])
     |_,_=>S_
    |_,_,_=>S_
   | .str,.one (.lit (.string s))=>S8 (.one (.lit (.string (s.extract (l.getD 0).toNat (h.getD s.size).toNat))),[0<=l.getD 0/\l.getD 0<=h.getD s.size/\h.getD s.size<=s.size])
   |_,_=>S_
  |some l,S8 h,S8 mv=>match ti.k,x,z7 mv with
   | .slice e,.one (.p8 id len),S8 (_,mm)=>match sv T e,h with
    |some te,S8 hh=>S8 (.one .oF,[0<=l.getD 0/\l.getD 0<=hh/\hh<=mm/\mm<=(len:Int)])
    |_,_=>S_
   |_,_,_=>S_
  |_,_,_=>S_
 |none=>S_
theorem oI.piece(h:oI S w m (.sl sz len cell) (.slice a len cap))(l n:Nat)(hn:l+n<=len)(m':Nat)(hm:n<=m')(f:Bool)(hf:f=Tl->l=len) :
  oI S w m (.sl sz n λi=>cell (l+i)) (.slice (if f=Tl then a else a.map (·.add (l*sz))) n m'):=by
 cases h with
 |sl b off qe rN ha hc h1 hr=>
  refine .sl b (off+l*sz) (λi=>qe (l+i)) hm (λhl=>?_) (λi j hi hj=>?_) (λi j hi hj=>h1 _ _ (by omega) hj) (λi j hi hj=>hr _ _ (by omega) hj)
  .obtain⟨rfl,hb⟩:=ha (by omega);refine⟨?_,hb⟩;have:¬(f=Tl):=λe=>by grind
   rw[aE_ this];simp[Aj]
  grind
theorem oI.N5(h:oI S w m (.vd sz len cell) (.slice a len cap))(l n:Nat)(hn:l+n<=len)(m':Nat)(hm:n<=m')(f:Bool)(hf:f=Tl->l=len) :
  oI S w m (.vd sz n λi=>cell (l+i)) (.slice (if f=Tl then a else a.map (·.add (l*sz))) n m'):=by
 cases h with
 |vd b off qe rN ha hc h1 hr=>
  refine .vd b (off+l*sz) (λi=>qe (l+i)) hm (λhl=>?_) (λi j hi hj=>?_) (λi j hi hj=>h1 _ _ (by omega) hj) (λi j hi hj=>hr _ _ (by omega) hj)
  .obtain⟨rfl,hb⟩:=ha (by omega);refine⟨?_,hb⟩;have:¬(f=Tl):=λe=>by grind
   rw[aE_ this];simp[Aj]
  grind
theorem ZRz{x:Value}(h:o6 S w m v x)(hl:ZIB (S8 v)=S8 l):∃k n,l=S8 n/\x=.int k n:=by
 unfold ZIB at hl;simp only at hl;split at hl
 .rename_i k n hn;cases hl;exact⟨k,n,rfl,Lj h hn⟩
 .cases hl
def FR(S:Nat->Prop)(w:World)(m:Mp):S6 V->S6 Value->Prop|none,S_=>True|some v,S8 x=>o6 S w m v x|_,_=>False
theorem Zur{v:S6 V}{x:S6 Value}(h:FR S w m v x)(hl:ZIB v=S8 l):(l=S_/\x=S_)\/∃k n,l=S8 n/\x=S8 (.int k n):=by
 match v,x,h with
 |none,S_,_=>cases hl;simp_all
 |some v,S8 x,h=>
  obtain⟨k,n,rfl,rfl⟩:=ZRz h hl;simp_all
theorem ZEY(e1:(l=S_/\gQ=S_)\/∃k n,l=S8 n/\gQ=S8 (.int k n))(e2:(h=S_/\gR=S_)\/∃k n,h=S8 n/\gR=S8 (.int k n))
  (o1:0<=l.getD 0) (o2:l.getD 0<=h.getD len) (o3:h.getD len<=(cap:Int)):(Te Tl len cap gQ gR S_).run P w=.ok ((l.getD 0).toNat,(h.getD len).toNat,cap) w:=by
 rcases e1 with⟨rfl,rfl⟩|⟨k1,n1,rfl,rfl⟩<;>rcases e2 with⟨rfl,rfl⟩|⟨k2,n2,rfl,rfl⟩<;>simp only[T5,T4]at o1 o2 o3 ⊢
 .rfl
 .simp[Te,Ti,asIntOf,o2,o3]
 .simp[Te,Ti,asIntOf,o1,o2]
 .have q2:0<=n2:=by omega
  have q3:n1<=max n2 0:=by omega
  simp[Te,Ti,asIntOf,o1,o3,q2,q3]
theorem ZWY(a:Addr):a.add 0=a:=by simp[Addr.add]
theorem ZEI{t e:TypeId}(hu:P.underlying t=S8 (.slice e))(bf:(sizeOf e).run P w=.ok sz w)
  (hx:o6 S w m x px) (e1:(l=S_/\gQ=S_)\/∃k n,l=S8 n/\gQ=S8 (.int k n)) (e2:(h=S_/\gR=S_)\/∃k n,h=S8 n/\gR=S8 (.int k n))
  (hv:ZQv sz x l h=S8 (v,o_)) (ho:∀q∈o_,q):∃y,(Th t px gQ gR S_).run P w=.ok y w/\o6 S w m v y:=by
 unfold ZQv at hv;split at hv
 .rename_i id len;obtain⟨rfl,rfl⟩:=hv;obtain⟨o1,o2,o3⟩ : 0<=l.getD 0/\l.getD 0<=h.getD len/\h.getD len<=(len:Int):=ho _ (by simp);cases hx with
  |p8 hm EK hle=>
   rename_i a c;refine⟨.slice (if c=(l.getD 0).toNat then a else a.map (·.add ((l.getD 0).toNat*sz))) ((h.getD len).toNat-(l.getD 0).toNat) (c-(l.getD 0).toNat),?_,oI.rL hm rfl (by omega) hle EK (λqI=>?_) (λh0=>?_)⟩
   .have hb:=ZEY (P:=P) (w:=w) (len:=len) (cap:=c) e1 e2 o1 o2 (by omega);simp[Th,To,run_underlying hu,bf,hb]
   .grind
   .rw[h0];simp_all[ZWY]
 .rename_i id vQ lo len n;split at hv
  .rename_i hb;obtain rfl:=ta hb;obtain⟨rfl,rfl⟩:=hv;obtain⟨o1,o2,o3⟩ : 0<=l.getD 0/\l.getD 0<=h.getD len/\(lo:Int)+h.getD len<=(n:Int):=ho _ (by simp);cases hx with
   |rL hm hc hl hn ha h0 h1=>
    rename_i c c' a a';subst hc;refine⟨.slice (if c-lo=(l.getD 0).toNat then a' else a'.map (·.add ((l.getD 0).toNat*vQ))) ((h.getD len).toNat-(l.getD 0).toNat) (c-lo-(l.getD 0).toNat),?_,oI.rL hm (by omega) (by omega) hn ha (λqI=>?_) (λh0'=>?_)⟩
    .have hb:=ZEY (P:=P) (w:=w) (len:=len) (cap:=c-lo) e1 e2 o1 o2 (by omega);simp[Th,To,Ta,run_underlying hu,bf,hb]
    .rw[aE_ (by omega),h0 (by omega)];rcases ha with rfl|⟨b,rfl⟩
     .grind
     .simp only[TT,Aj]
      grind
    grind
  .cases hv
 .cases hv
theorem ZOa(hT:rZ P T){lo hi mx:S6 V}{j0:S6 Value}(hx:o6 S w m x px)
  (h1:FR S w m lo gQ) (h2:FR S w m hi gR) (h3:FR S w m mx j0) (h:ZOb T t x lo hi mx=S8 (v,o_)) (ho:∀q∈o_,q):∃y,(Th t px gQ gR j0).run P w=.ok y w/\o6 S w m v y:=by
 unfold ZOb at h;split at h
 .rename_i ti bz;obtain⟨d,hu,hf⟩:=hT.under bz;split at h
  .rename_i l hh hl zD;obtain rfl:j0=S_:=by cases j0<;>first|rfl|exact h3.elim
   have e1:=Zur h1 hl;have e2:=Zur h2 zD;split at h
   .rename_i e id len hk;rw[hk]at hf;cases d<;>simp only[TK.fits]at hf;subst hf;split at h
    .rename_i te bU;exact ZEI hu (hT.size bU w) hx e1 e2 h ho
    .cases h
   .rename_i e id sz lo len n hk;rw[hk]at hf;cases d<;>simp only[TK.fits]at hf;subst hf;split at h
    .rename_i te bU;exact ZEI hu (hT.size bU w) hx e1 e2 h ho
    .cases h
   .rename_i e sz len cell hk;rw[hk]at hf;cases d<;>simp only[TK.fits]at hf;subst hf;split at h
    .rename_i te bU;have bf:=hT.size bU w;split at h
     .rename_i hb;obtain rfl:=ta hb;have dQ:=hx;cases hx with
      |sl b off qe rN ha hc Oc hr=>
       rename_i a cap;split at h
       .obtain⟨rfl,rfl⟩:=h;obtain⟨_,rfl⟩ : _:=e1.resolve_right (by simp);obtain⟨_,rfl⟩ : _:=e2.resolve_right (by simp);refine⟨.slice a _ _,?_,dQ⟩;by_cases Rf:cap=0
        .simp[Th,To,Te,run_underlying hu,bf,Rf]
        .simp[Th,To,Te,run_underlying hu,bf,Rf];cases a<;>simp[Addr.add]
       .rename_i l;obtain⟨rfl,rfl⟩:=h;obtain⟨k1,n1,hq,rfl⟩:=e1.resolve_left (by simp);cases hq;obtain⟨_,rfl⟩ : _:=e2.resolve_right (by simp);obtain⟨gc,df⟩ : 0<=l/\l<=len:=ho _ (by simp);have pQ:=oI.piece dQ l.toNat (len-l.toNat) (by omega) (cap-l.toNat) (by omega) (decide (cap=l.toNat)) (by grind);refine⟨_,?_,pQ⟩;simp[Th,To,Te,Ti,asIntOf,Ta,run_underlying hu,bf,gc,df]
       .rename_i hh;simp only[S9,Tc]at h;obtain⟨rfl,rfl⟩:=h;obtain⟨_,rfl⟩ : _:=e1.resolve_right (by simp);obtain⟨k2,n2,hq,rfl⟩:=e2.resolve_left (by simp);cases hq;obtain⟨gc,df⟩ : 0<=hh/\hh<=len:=ho _ (by simp);have pQ:=oI.piece dQ 0 hh.toNat (by omega) cap (by omega) (decide (cap=0)) (by grind);refine⟨_,?_,(by simp only[TX]at pQ;exact pQ)⟩;have:hh<=cap:=by omega
        simp[Th,To,Te,Ti,asIntOf,Ta,run_underlying hu,bf,gc,this]
       .rename_i l hh;simp only[S9,Tc]at h;obtain⟨rfl,rfl⟩:=h;obtain⟨k1,n1,hq,rfl⟩:=e1.resolve_left (by simp);cases hq;obtain⟨k2,n2,hq,rfl⟩:=e2.resolve_left (by simp);cases hq;obtain⟨gc,df,lz⟩ : 0<=l/\l<=hh/\hh<=len:=ho _ (by simp);have pQ:=oI.piece dQ l.toNat (hh.toNat-l.toNat) (by omega) (cap-l.toNat) (by omega) (decide (cap=l.toNat)) (by grind);refine⟨_,?_,pQ⟩;have q1:hh<=cap:=by omega
        have q2:0<=hh:=by omega
        have q3:l<=max hh 0:=by omega
        simp[Th,To,Te,Ti,asIntOf,Ta,run_underlying hu,bf,gc,q1,q2,q3]
     .cases h
    .cases h
   .rename_i e sz len cell hk;rw[hk]at hf;cases d<;>simp only[TK.fits]at hf;subst hf;split at h;rotate_left
    .cases h
    rename_i te bU;have bf:=hT.size bU w;split at h;rotate_left
    .cases h
    rename_i l hb;obtain rfl:=ta hb;have dQ:=hx;cases hx with
    |vd b off qe rN ha hc Oc hr=>
     rename_i a cap;simp only[S9,Tc]at h;obtain⟨rfl,rfl⟩:=h;obtain⟨k1,n1,hq,rfl⟩:=e1.resolve_left (by simp);cases hq;obtain⟨_,rfl⟩ : _:=e2.resolve_right (by simp);obtain⟨gc,df⟩ : 0<=l/\l<=len:=ho _ (by simp);have pQ:=oI.N5 dQ l.toNat (len-l.toNat) (by omega) (cap-l.toNat) (by omega) (decide (cap=l.toNat)) (by grind);refine⟨_,?_,pQ⟩;simp[Th,To,Te,Ti,asIntOf,Ta,run_underlying hu,bf,gc,df]
   .rename_i n e q cell hk;rw[hk]at hf;cases d<;>simp only[TK.fits]at hf;obtain⟨rfl,rfl⟩:=hf;split at h;rotate_left
    .cases h
    rename_i te bU;have bf:=hT.size bU w;split at h;rotate_left
    .cases h
    rename_i hq hn;simp only[S9,Tc]at h;obtain⟨rfl,rfl⟩:=h;have hq:=TF hq;have hn:0<n:=Td hn;obtain⟨_,rfl⟩ : _:=e1.resolve_right (by simp);obtain⟨_,rfl⟩ : _:=e2.resolve_right (by simp);cases hx with
    |rp b off qe ha hc Oc hr=>
     have qI:∀i j,i<n->j<te.size->i*te.size+j<q:=λi j hi hj=>by
      rw[hq]
      calc i*te.size+j<i*te.size+te.size:=by omega
       _=(i+1)*te.size:=by grind
       _<=n*te.size:=Tf _ hi
     refine⟨.slice (S8 ⟨b,off,S_⟩) n n,?_,oI.sl b off (λi j=>qe (i*te.size+j)) (Tq _) (λ_=>⟨rfl,ha⟩) (λi j hi hj=>?_) (λi j hi hj=>Oc _ (qI i j hi hj)) (λi j hi hj=>hr _ (qI i j hi hj))⟩
     .simp[Th,Tw,Te,Ta,run_underlying hu,bf,Addr.add]
     grind
   .rename_i s hk;rw[hk]at hf;cases d<;>simp only[TK.fits]at hf;simp only[S9,Tc]at h;obtain⟨rfl,rfl⟩:=h;obtain⟨gc,df,lz⟩ : 0<=l.getD 0/\l.getD 0<=hh.getD s.size/\hh.getD s.size<=s.size:=ho _ (by simp);cases hx;refine⟨_,?_,oI.lit⟩;rcases e1 with⟨rfl,rfl⟩|⟨k1,n1,rfl,rfl⟩<;>rcases e2 with⟨rfl,rfl⟩|⟨k2,n2,rfl,rfl⟩<;>simp only[T5,T4]at gc df lz ⊢
    .simp[Th,To,Te,Ti,asIntOf,Ta,run_underlying hu]
    .simp[Th,To,Te,Ti,asIntOf,Ta,run_underlying hu,df,lz]
    .simp[Th,To,Te,Ti,asIntOf,Ta,run_underlying hu,gc,df]
    .have q2:0<=n2:=by omega
     have q3:n1<=max n2 0:=by omega
     simp[Th,To,Te,Ti,asIntOf,Ta,run_underlying hu,gc,lz,q2,q3]
   .cases h
  .rename_i l hh mv hl zD;have e1:=Zur h1 hl;have e2:=Zur h2 zD;split at h
   .rename_i e id len mm0 mm hk lA;rw[hk]at hf;cases d<;>simp only[TK.fits]at hf;subst hf;split at h
    .rename_i te j3 bU;have bf:=hT.size bU w;simp only[S9,Tc]at h;obtain⟨rfl,rfl⟩:=h;obtain⟨o1,o2,o3,o4⟩ : 0<=l.getD 0/\l.getD 0<=j3/\j3<=mm/\mm<=(len:Int):=ho _ (by simp)
     match j0,h3 with
     |some pm,h3=>
      obtain rfl:=Lj h3 lA;obtain⟨k2,n2,hq,rfl⟩:=e2.resolve_left (by simp);cases hq;cases hx with
      |p8 hm EK hle=>
       rename_i a c;have q1:0<=mm:=by omega
       have q2:mm<=(c:Int):=by omega
       have q3:0<=j3:=by omega
       have q4:j3<=max mm 0:=by omega
       rcases e1 with⟨rfl,rfl⟩|⟨k1,n1,rfl,rfl⟩<;>simp only[T5,T4]at o1 o2
       .exact⟨_,by simp[Th,To,Te,Ti,asIntOf,Ta,run_underlying hu,bf,q1,q2,q3,q4];rfl,oI.oF⟩
       .have q5:n1<=max j3 0:=by omega
        exact⟨_,by simp[Th,To,Te,Ti,asIntOf,Ta,run_underlying hu,bf,q1,q2,q3,q4,o1,q5];rfl,oI.oF⟩
    .cases h
   .cases h
  .cases h
 .cases h
end
section
def wg{α:Type}(l:S5 α)(o:Nat)(cs:S5 α):S5 α:=l.take o++cs++l.drop (o+S7 cs)
variable{S:Nat->Prop}{w:World}{m:Mp}{l:S5 C}{xs ys:S5 Value}{P:Program}{T:qP}{t:Nat}
theorem qk.append{k:S5 C}(h:qk S w m l xs)(h':qk S w m k ys):qk S w m (l++k) (xs++ys):=by
 refine⟨by simp[h.1,h'.1],λj c hj=>?_,λx hx=>?_⟩
 .by_cases hl:j<S7 l
  .rw[Ud hl]at hj;rw[Ud (by rw[h.1];exact hl)];exact h.2.1 j c hj
  .rw[TM (by omega)]at hj;rw[TM (by rw[h.1];omega),h.1];exact h'.2.1 _ c hj
 .rcases T9.1 hx with hx|hx
  .exact h.2.2 x hx
  .exact h'.2.2 x hx
theorem qk.take(h:qk S w m l xs)(n:Nat):qk S w m (l.take n) (xs.take n):=by
 refine⟨by simp[h.1],λj c hj=>?_,λx hx=>h.2.2 x (Un hx)⟩;rw[Ur]at hj ⊢;split at hj
 .rename_i hn;rw[aFa hn];exact h.2.1 j c hj
 .cases hj
theorem qk.drop(h:qk S w m l xs)(n:Nat):qk S w m (l.drop n) (xs.drop n):=by
 refine⟨by simp[h.1],λj c hj=>?_,λx hx=>h.2.2 x (List.mem_of_mem_drop hx)⟩;rw[Us]at hj ⊢;exact h.2.1 _ c hj
theorem qk.spliced{cs:S5 C}{o:Nat}(h:qk S w m l xs)(h':qk S w m cs ys):qk S w m (wg l o cs) (wg xs o ys):=by
 unfold wg;rw[h'.1];exact((h.take o).append h').append (h.drop _)
theorem ZDY:∀(vs:S5 Value)(k off:Nat)(bB:Array Value),off+k+S7 vs<=bB.size ->
  ((vs.zipIdx k).foldl (λcs p=>cs.setIfInBounds (off+p.2) p.1) bB).toList=wg bB.toList (off+k) vs
 | [],k,off,bB,h=>by simp[wg]
 |v :: vs,k,off,bB,h=>by
  simp only[Uw]at h
  simp only[List.zipIdx_cons,List.foldl_cons]
  rw[ZDY vs (k+1) off _ (by simp;omega)]
  simp only[wg,Array.toList_setIfInBounds,Uw]
  have qI:off+k<S7 bB.toList:=by simp;omega
  have e1:(bB.toList.set (off+k) v).take (off+(k+1))=bB.toList.take (off+k)++[v]:=by
   rw[List.set_eq_take_append_cons_drop,aFa qI,TG];have e2:(bB.toList.take (off+k)).length=off+k:=by simp;omega
   rw[e2,TV (by rw[e2];omega)];have e3:off+(k+1)-(off+k)=1:=by omega
   rw[e3];rfl
  have e4:(bB.toList.set (off+k) v).drop (off+(k+1)+S7 vs)=bB.toList.drop (off+k+(S7 vs+1)):=by
   rw[List.drop_set_of_lt (by omega)];congr 1;omega
  rw[e1,e4];simp
def QL(dR:Nat->S6 (Nat×Nat)):S5 C->S5 (Nat×V)->S6 (S5 C)
 |cells,[]=>S8 cells
 |cells,(i,v) :: rest=>match dR i with
  |none=>S_
  |some (o,n)=>match v.cells with
   |none=>S_
   |some cs=>match Tg cs.length n,TB (o+n) cells.length with
    |true,Tl=>QL dR (wg cells o cs) rest
    |_,_=>S_
theorem ZBs{N:Nat}{F:tK}{S:Nat->Prop}{m:Mp}{st:St}{a:Act}{w:World}(hs:qB N F S m st a w){dR yA:Nat->S6 (Nat×Nat)}(hp:∀i p,dR i=S8 p->yA i=S8 p) :
  ∀(ps:S5 (Nat×Operand))(cells r:S5 C)(xs:Array Value),qk S w m cells xs.toList->QL dR cells (ps.map λp=>(p.1,pT st p.2))=S8 r ->
   ∃ys,UI yA xs (ps.map λp=>(p.1,a.eval p.2))=S8 ys/\qk S w m r ys.toList
 | [],cells,r,xs,hx,h=>by cases h;exact⟨xs,rfl,hx⟩
 | (i,x) :: ps,cells,r,xs,hx,h=>by
  simp only[UG,QL]at h
  split at h
  .cases h
  rename_i o n fS
  split at h
  .cases h
  rename_i cs xq
  split at h
  .rename_i bL bF
   obtain rfl:=ta bL
   have hle:=Td bF
   have hv:=V.uO (hs.pT x) xq
   have bf:(a.eval x).cells.size=S7 cs:=by simpa using hv.1
   have hsx:xs.size=S7 cells:=by simpa using hx.1
   have uK:=ZDY (a.eval x).cells.toList 0 o xs (by simp;omega)
   obtain⟨ys,h1,h2⟩:=ZBs hs hp ps _ r (((a.eval x).cells.toList.zipIdx 0).foldl (λcs p=>cs.setIfInBounds (o+p.2) p.1) xs) (by rw[uK,TY];exact hx.spliced hv) h
   refine⟨ys,?_,h2⟩
   simp only[UG,UI,hp i _ fS]
   rw[aE_ (by simp[bf];omega),<-h1]
   congr 1
   rw[<-Array.foldl_toList]
   simp[Array.toList_zipIdx]
  .cases h
def Fk(ti:TI):S6 (S5 C):=match ti.zero with
 |some z=>(V.vW z).cells
 |none=>S_
theorem RR(hT:rZ P T){ti:TI}(h:sv T t=S8 ti)(hz:Fk ti=S8 l) :
  ∃z,(zeroValue t).run P w=.ok z w/\qk S w m l z.cells.toList:=by
 unfold Fk at hz;obtain⟨i,h1,h2,h3,h4⟩:=hT.info h;split at hz
 .rename_i z hq;refine⟨z,?_,V.uO (V.vH z) hz⟩;simp[zeroValue,typeInfo,h1,h4,hq]
 .cases hz
def acQ(T:qP)(fs:S5 (Nat×TypeId))(i:Nat):S6 (Nat×Nat):=match fs[i]? with
 |some (o,ty)=>match sv T ty with
  |some ti=>S8 (o,ti.size)
  |none=>S_
 |none=>S_
def Jk(T:qP):S5 (Nat×TypeId)->Bool
 | []=>Tl
 | (_,ty) :: r=>match sv T ty with
  |some _=>Jk T r
  |none=>Tm
theorem ZLi{T:qP}:∀{fs:S5 (Nat×TypeId)},Jk T fs=Tl->∀p∈fs,∃ti,sv T p.2=S8 ti
 | [],_,p,h=>by cases h
 | (o,ty) :: r,h,p,hp=>by
  simp only[Jk]at h
  split at h
  .rename_i ti bz
   rcases List.mem_cons.1 hp with rfl|hp
   .exact⟨ti,bz⟩
   .exact ZLi h p hp
  .cases h
def ZCS(T:qP)(st:St)(t:Nat)(ps:S5 (Nat×V)):S6 V:=match sv T t with
 |some ti=>match Fk ti with
  |some z=>match ti.k with
   | .struct fs=>match Jk T fs with
    |true=>match QL (acQ T fs) z ps with
     |some l=>S8 (.agg l)
     |none=>S_
    |false=>S_
   | .array n e=>match sv T e with
    |some te=>match QL (λi=>S8 (i*te.size,te.size)) z ps with
     |some l=>S8 (.agg l)
     |none=>S_
    |none=>S_
   |_=>S_
  |none=>S_
 |none=>S_
theorem ZPk{α β:Type}(P:Program)(w:World)(f:α->Sem β)(g:α->β):∀(l:S5 α)(acc:Array β),(∀x∈l,(f x).run P w=.ok (g x) w)->(l.foldlM (λbs a=>bs.push <$> f a) acc).run P w=.ok (acc++(l.map g).toArray) w
 | [],acc,h=>by simp
 |x :: l,acc,h=>by
  have h1:=h x (by simp)
  simp only[List.foldlM_cons,Ta]
  rw[show ((acc.push <$> f x:Sem (Array β)).run P w)=.ok (acc.push (g x)) w by rw[map_eq_pure_bind,Ta,h1];rfl]
  simp only[Tj]
  rw[ZPk P w f g l _ λy hy=>h y (by simp[hy])]
  simp
theorem ZDA{α β:Type}(P:Program)(w:World)(f:α->Sem β)(g:α->β)(xs:Array α)(h:∀x∈xs.toList,(f x).run P w=.ok (g x) w):(xs.mapM f).run P w=.ok (xs.map g) w:=by
 rw[Array.mapM_eq_foldlM,<-Array.foldlM_toList,ZPk P w f g xs.toList _ h];congr 1;apply Array.ext';simp
theorem ZOx(hT:rZ P T){N:Nat}{F:tK}{st:St}{a:Act}(hs:qB N F S m st a w){ps:Array (Nat×Operand)}{v:V}
  (h:ZCS T st t (ps.toList.map λp=>(p.1,pT st p.2))=S8 v):∃x,(Uj t (ps.map λ(i,x)=>(i,a.eval x))).run P w=.ok x w/\o6 S w m v x:=by
 unfold ZCS at h;split at h
 .rename_i ti bz;obtain⟨d,hu,hf⟩:=hT.under bz;split at h
  .rename_i z hz;obtain⟨zv,BI,cJ⟩:=RR (S:=S) (w:=w) (m:=m) hT bz hz;have b9:(ps.map λ(i,x)=>(i,a.eval x)).toList=ps.toList.map λp=>(p.1,a.eval p.2):=by simp
   split at h
   .rename_i fs hk;rw[hk]at hf;cases d<;>simp only[TK.fits]at hf;rename_i fields;split at h
    .rename_i bH;split at h
     .rename_i l hl;cases h;have lZ:=ZDA P w (λf:Field=>do pure (f.offset,<-sizeOf f.type)) (λf=>(f.offset,((sv T f.type).map (·.size)).getD 0)) fields (λf j4=>by
       obtain⟨tf,lB⟩:=ZLi bH (f.offset,f.type) (by rw[<-hf];exact Uf.2 ⟨f,j4,rfl⟩);simp[Ta,hT.size lB w,lB])
      obtain⟨ys,h1,h2⟩:=ZBs hs (yA:=λi=>(fields.map λf=>(f.offset,((sv T f.type).map (·.size)).getD 0))[i]?) (λi p hp=>by
       unfold acQ at hp;split at hp
       .rename_i o ty iR;obtain⟨jF,h4,h5,h6⟩:=ZAl hf iR;split at hp
        .rename_i tf lB;cases hp;simp[h4,h5,h6,lB]
        .cases hp
       .cases hp) ps.toList z l zv.cells cJ hl
      refine⟨.agg ys,?_,ys,rfl,h2⟩;simp only[Uj,Ta,BI,Tj,run_underlying hu,lZ,b9,h1,Tp]
     .cases h
    .cases h
   .rename_i n e hk;rw[hk]at hf;cases d<;>simp only[TK.fits]at hf;obtain⟨rfl,rfl⟩:=hf;split at h
    .rename_i te bU;split at h
     .rename_i l hl;cases h;obtain⟨ys,h1,h2⟩:=ZBs hs (yA:=λi=>S8 (i*te.size,te.size)) (λi p hp=>hp) ps.toList z l zv.cells cJ hl;refine⟨.agg ys,?_,ys,rfl,h2⟩;simp only[Uj,Ta,BI,Tj,run_underlying hu,hT.size bU w,b9,h1,Tp]
     .cases h
    .cases h
   .cases h
  .cases h
 .cases h
end
section
structure x_ (F:Nat->Prop) (w w':World):Prop where
 os:w'.os=w.os
 tape:w'.tape=w.tape
 output:w'.output=w.output
 size:w.heap.size<=w'.heap.size
 block:∀k,F k->w'.heap[k]?=w.heap[k]?
 drawn:w.drawn<=w'.drawn
theorem x_.refl(F:Nat->Prop)(w:World):x_ F w w:=⟨rfl,rfl,rfl,Tq _,λ_ _=>rfl,Tq _⟩
variable{w w' w1:World}{S F S1:Nat->Prop}{N:Nat}{m:Mp}{a:Act}{l:S5 C}{xs:Array Value}{v:V}{o_:S5 Prop}
theorem x_.trans{a b c:World}(h:x_ F a b)(k:x_ F b c):x_ F a c:=
 ⟨k.os.trans h.os,k.tape.trans h.tape,k.output.trans h.output,Uh h.size k.size,λi hi=>(k.block i hi).trans (h.block i hi),Uh h.drawn k.drawn⟩
theorem x_.mono{F':Nat->Prop}(h:x_ F w w')(hF:∀k,F' k->F k):x_ F' w w':=⟨h.os,h.tape,h.output,h.size,λk hk=>h.block k (hF k hk),h.drawn⟩
theorem x_.alloc(hF:∀k,F k->k<w.heap.size)(o:Obj):x_ F w (w.alloc o):=
 ⟨rfl,rfl,rfl,by simp,λk hk=>Ts w o k (hF k hk),Tq _⟩
theorem x_.grown{r:S6 Nat}(h:w.grownBy w' r)(hd:w.drawn<=w'.drawn)(hF:∀k,F k->k<w.heap.size)(hr:∀k,F k->S8 k≠r):x_ F w w':=
 ⟨h.os,h.tape,h.output,h.size,λk hk=>h.block k (hF k hk) (hr k hk),hd⟩
structure p9 (F:Nat->Prop) (S S':Nat->Prop) (w w':World):Prop where
 below:x_ F w w'
 sub:∀b,S b->S' b
 sup:∀b,S' b->S b\/¬F b
theorem p9.refl(F S:Nat->Prop)(w:World):p9 F S S w w:=⟨x_.refl _ _,λ_ h=>h,λ_ h=>.inl h⟩
theorem p9.step{S2:Nat->Prop}{w2:World}(h:p9 F S S1 w w1)(hb:x_ F w1 w2)(hs:∀b,S1 b->S2 b)(bV:∀b,S2 b->S1 b\/¬F b):p9 F S S2 w w2:=
 ⟨h.below.trans hb,λb x=>hs b (h.sub b x),λb x=>(bV b x).elim (λy=>h.sup b y) .inr⟩
def qZ(N:Nat)(S0:Nat->Prop)(w0:t_)(st:St)(a:Act)(w:World):Prop:=∃S m,qB N w0.F S m st a w/\p9 w0.F.no S0 S w0.w w
def St.new(st:St)(d:Nat)(b:B):St:={ st with heap:=q_ st.heap d b }
theorem qB.FX{F:tK}{e:S5 (Nat×V)}{h h':S5 (Nat×B)}(hs:qB N F S m ⟨e,h⟩ a w)(hh:∀id b,oP h' id=S8 b->oP h id=S8 b):qB N F S m ⟨e,h'⟩ a w:=
 ⟨hs.size,hs.env,hs.CG,λid b hb=>hs.heap id b (hh id b hb),λid b hb=>hs.own id b (hh id b hb),λi j b b' qN h1 h2=>hs.inj i j b b' qN (hh _ _ h1) (hh _ _ h2),hs.u5,hs.defers,hs.pJ,hs.xg,hs.len⟩
theorem qB.yB{F:tK}{st:St}(h:qB N F S m st a w)(d:Nat)(hq:so N d st=Tl)(o:Obj)(x:Value)(b:B)(hx:sU x=S8 w.heap.size)(hB:se S (w.alloc o) (zz m d x) x b) :
  qB N F S (zz m d x) (st.new d b) a (w.alloc o):=
 qB.FX (h:=(d,b) :: st.heap) (h.renew d hq x b S_ (by simp) (λk hk _=>Ts w o k hk) (λk hk=>by
  rw[hx]at hk
  cases hk
  exact⟨λhF=>aFe (h.pJ _ hF) (Nat.lt_irrefl _),by simp,.inr (Tq _)⟩) hB) λid b' bg=>by grind[Az,tD]
theorem Sd(P:Program)(w:World)(e:TypeId)(cs:Array Value):(newRow e cs).run P w=.ok ⟨w.heap.size,0,S_⟩ (w.alloc (.cells cs e)):=rfl
theorem p9.alloc(h:p9 F S S1 w w1)(hb:∀k,F k->k<w1.heap.size)(o:Obj):p9 F S S1 w (w1.alloc o):=
 h.step (x_.alloc hb o) (λ_ x=>x) (λ_ x=>.inl x)
def Aq(N:Nat)(st:St)(d:Nat)(l:S5 C):S6 (V×S5 Prop×St):=match so N d st,l.any (C.pI d)with
 |true,Tm=>S8 (.one (.ptr d 0),[],st.new d (.box l))
 |_,_=>S_
theorem qB.FZ{F:tK}{st:St}(h:qB N F S m st a w)(d:Nat)(t:TypeId)(hl:qk S w m l xs.toList){pH:St}(he:Aq N st d l=S8 (v,o_,pH)) :
  ∃m',qB N F S m' pH a (w.alloc (.cells xs t))/\o6 S (w.alloc (.cells xs t)) m' v (.pointer (S8 ⟨w.heap.size,0,S_⟩)):=by
 unfold Aq at he;split at he
 .rename_i hq hs;cases he;refine⟨zz m d _,h.yB d hq _ _ _ rfl ⟨w.heap.size,_,t,rfl,heap_alloc_new _ _,?_⟩,oI.ptr (zr _ _ _)⟩;exact(hl.rm (w':=w.alloc _) (λb hb=>Ts _ _ _ (h.u5 b hb)) (λ_ x=>x) λb hb=>Ts _ _ _ (h.pJ b (h.len.2 b hb))).other _ d (JH m d _) rfl hs
 .cases he
theorem qB.C0{F:tK}{st:St}(h:qB N F S m st a w)(d:Nat)(hq:so N d st=Tl)(e:TypeId)(sz len cap:Nat)(c:Nat->Nat->C)(bB:Array Value)(hle:len<=cap)(rN:cap<=maxLen)
  (bf:bB.size=cap*sz) (h1:∀x∈bB.toList,x.oneCell'=Tl) (hc:∀i j,i<len->j<sz->∃x,bB[i*sz+j]?=S8 x/\oI S w ru (c i j) x) :
  qB N F S (zz m d (.slice (S8 ⟨w.heap.size,0,S_⟩) len cap)) (st.new d (.rows e sz len c)) a (w.alloc (.cells bB e)) /\
   o6 S (w.alloc (.cells bB e)) (zz m d (.slice (S8 ⟨w.heap.size,0,S_⟩) len cap)) (.one (.p8 d len)) (.slice (S8 ⟨w.heap.size,0,S_⟩) len cap):=by
 have cV:len*sz<=cap*sz:=Tf _ hle;refine⟨h.yB d hq _ _ _ rfl ⟨bB.toList.take (len*sz),⟨by simp;omega,.inr ⟨w.heap.size,cap,bB,rfl,UK _,heap_alloc_new _ _,hle,rN,bf,rfl⟩⟩,λi j hi hj=>?_,λx hx=>h1 x (Un hx)⟩,oI.p8 (zr _ _ _) (.inr ⟨_,rfl⟩) hle⟩;obtain⟨x,h2,h3⟩:=hc i j hi hj;have qI:i*sz+j<len*sz:=by
  have:(i+1)*sz<=len*sz:=Tf _ (by omega)
  grind
 refine⟨x,?_,h3.rO (λb hb=>Ts _ _ _ (h.u5 b hb)) λ_ x=>x⟩
 grind
theorem qB.F0{F:tK}{st:St}(h:qB N F S m st a w)(e:TypeId)(sz n:Nat)(hl:qk S w m l xs.toList)(hp:l.all C.pure=Tl)(hn:S7 l=n*sz) :
  qB N F (λb=>S b\/b=w.heap.size) m st a (w.alloc (.cells xs e)) /\
   o6 (λb=>S b\/b=w.heap.size) (w.alloc (.cells xs e)) m (.one (.sl sz n λi j=>l.getD (i*sz+j) .oF)) (.slice (S8 ⟨w.heap.size,0,S_⟩) n n):=by
 refine⟨h.grow (by simp) (λk hk=>Ts _ _ _ hk) (λ_ x=>.inl x) (λb hb=>hb.imp id λe=>⟨by omega,by simp;omega⟩),?_⟩;have hsx:xs.size=S7 l:=by simpa using hl.1
 have key:∀i j,i<n->j<sz->i*sz+j<S7 l:=by
  intro i j hi hj;have:(i+1)*sz<=n*sz:=Tf _ (by omega)
  grind
 have hx:∀i j,i<n->j<sz->xs[i*sz+j]?=S8 (xs.getD (i*sz+j) undef):=by
  simp_all
 refine oI.sl _ 0 (λi j=>xs.getD (i*sz+j) undef) (Tq _) (λ_=>⟨rfl,.inr rfl⟩) (λi j hi hj=>?_) (λi j hi hj=>?_) (λi j hi hj=>?_)
 .simp_all
 .have:=hx i j hi hj;rw[<-Tv]at this;exact hl.2.2 _ (Tk this)
 .have hc:l[i*sz+j]?=S8 (l.getD (i*sz+j) .oF):=by simp_all
  obtain⟨x,h4,h5⟩:=hl.2.1 _ _ hc;have h6:=hx i j hi hj;rw[<-Tv,h4]at h6;have h7:=UO h6;rw[<-h7];exact(h5.anyM ru (Tt.1 hp _ (Tk hc))).rO (λb hb=>Ts _ _ _ (h.u5 b hb)) λ_ x=>.inl x
theorem JN{α:Type}(l:S5 α)(o:Nat)(cs:S5 α)(h:o+S7 cs<=S7 l)(q:Nat):(wg l o cs)[q]?=if o<=q/\q<o+cs.length then cs[q-o]? else l[q]?:=by
 unfold wg;have e1:(l.take o).length=o:=by simp;omega
 grind
def zj(sz len:Nat)(c:Nat->Nat->C)(i off:Nat)(cs:S5 C)(c':Nat->Nat->C):Prop:=∀i' j,i'<len->j<sz->c' i' j=if i'=i/\off<=j/\j<off+cs.length then cs.getD (j-off) .oF else c i' j
def G1(T:qP)(st:St)(t:Nat)(p v:V)(an:S6 sF):S6 (S5 Prop×St):=match sv T t,v.cells with
 |some ti,S8 cs=>match Tg cs.length ti.size with
  |true=>match p with
   | .one (.ptr id off)=>match oP st.heap id with
    |some (.box l)=>match TB (off+S7 cs) l.length with
     |true=>S8 ([],{ st with heap:=uK st.heap id (.box (wg l off cs)) })
     |false=>S_
    |_=>S_
   | .one (.rK id sz i off)=>match oP st.heap id,an with
    |some (.rows e vQ len c),S8 (.c n' c')=>match Tg sz vQ,TB (off+S7 cs) sz,cs.all C.pure with
     |true,Tl,Tl=>S8 ([n'=len,i<len,zj sz len c i off cs c'],{ st with heap:=uK st.heap id (.rows e sz n' c') })
     |_,_,_=>S_
    |some (.rows e vQ len c),S8 .own=>match cs,Tg sz 1,Tg vQ 1,Tg off 0 with
     | [x],Tl,Tl,Tl=>S8 ([i<len],{ st with heap:=uK st.heap id (.hole e len (λi=>c i 0) i x) })
     |_,_,_,_=>S_
    |_,_=>S_
   |_=>S_
  |false=>S_
 |_,_=>S_
theorem ZNY{P:Program}{T:qP}(hT:rZ P T){S0:Nat->Prop}{w0:t_}{st:St}(hs:qB N w0.F S m st a w)(hg:p9 w0.F.no S0 S w0.w w)
  {t:Nat} {p:V} {px x:Value} {an:S6 sF}  {pH:St} (hp:o6 S w m p px) (hv:o6 S w m v x) (h:G1 T st t p v an=S8 (o_,pH)) (ho:∀q∈o_,q) :
  ∃w',(TA t px x).run P w=.ok () w'/\qB N w0.F S m pH a w'/\p9 w0.F.no S0 S w0.w w':=by
 unfold G1 at h;split at h
 .rename_i ti cs bz xq;have ek:=V.uO hv xq;have bf:=hT.size bz w;have gS:x.cells.size=S7 cs:=by simpa using ek.1
  split at h
  .rename_i hb;have hn:=ta hb;have qN:¬(x.cells.size≠ti.size):=by omega
   split at h
   .rename_i id off;split at h
    .rename_i l hl;split at h
     .rename_i bF;have hle:=Td bF;obtain⟨rfl,rfl⟩:=h;cases hp with
      |ptr hm=>
       rename_i b;have hB:=hs.heap id _ hl;rw[hm]at hB;obtain⟨b',bB,ty,h1,h2,h3⟩:=hB;simp at h1;subst h1;have iu:bB.size=S7 l:=by simpa using h3.1
       have cD:=run_storeCells_at P b off ty x.cells.toList 0 bB w h2 (by simp;omega) ek.2.2;have uL:(TA t (.pointer (S8 ⟨b,off,S_⟩)) x).run P w=.ok () (w.setRow b (TP (off+0) bB.toList++x.cells.toList++TR (off+0+S7 x.cells.toList) bB.toList).toArray):=by
        simp only[TA,Tw,storeVar,Ta,Tp,Tj,bf];simp_all
       refine⟨_,uL,hs.write (.box (wg l off cs)) hl (by simp) (λk hk el=>?_) ?_,?_⟩
       .exact setRow_other w b k _ (λe=>el (by rw[hm,e];rfl))
       .rw[hm];refine⟨b,_,_,rfl,setRow_heap w b _ _ _ _ h2,?_⟩;have:=(h3.spliced (o:=off) ek).rm (w':=w.setRow b (TP (off+0) bB.toList++x.cells.toList++TR (off+0+S7 x.cells.toList) bB.toList).toArray) (S':=S) (λk hk=>setRow_other w b k _ (λe=>(hs.own id _ hl b (by rw[hm];rfl)).1 (e ▸ hk))) (λ_ h=>h) (λk hk=>setRow_other w b k _ (λe=>(hs.own id _ hl b (by rw[hm];rfl)).2.1 (hs.len.2 _ (e ▸ hk))));simpa[wg]using this
       .refine hg.step ⟨rfl,rfl,rfl,by simp,λk hk=>setRow_other w b k _ (λe=>(hs.own id _ hl b (by rw[hm];rfl)).2.1 (e ▸ hk)),by simp⟩ (λ_ h=>h) (λ_ h=>.inl h)
     .cases h
    .cases h
   .rename_i id sz i off;split at h
    .rename_i e vQ len c n' c' hl;split at h
     .rename_i bL bF bI;obtain rfl:=ta bL;have hle:=Td bF;simp at h;obtain⟨rfl,rfl⟩:=h;have dS:n'=len:=ho _ (by simp);subst dS;have hi:i<n':=ho _ (by simp);have fy:zj sz n' c i off cs c':=ho _ (by simp);cases hp with
      |rK hm=>
       rename_i b n cp;have hB:=hs.heap id _ hl;rw[hm]at hB;obtain⟨xs,⟨hlen,cX⟩,hc,vS⟩:=hB;rcases cX with⟨cX,_⟩|⟨g,cap,cur,dA,bM,dU,dS,zB,fA,dB⟩
       .cases cX
       simp only[T1,S9,T_,aFw]at dA;obtain⟨rfl,rfl,rfl⟩:=dA;have eo:(i+1)*sz<=n*sz:=Tf _ (by omega);have j5:n*sz<=cp*sz:=Tf _ dS;rw[TJ,UL]at eo;have cD:=run_storeCells_at P b (i*sz+off) e x.cells.toList 0 cur w dU (by simp;omega) ek.2.2;have j6:=(hs.own id _ hl b (by rw[hm];rfl)).1;have uL:(TA t (.pointer (S8 ⟨b,i*sz+off,S_⟩)) x).run P w=.ok () (w.setRow b (TP (i*sz+off+0) cur.toList++x.cells.toList++TR (i*sz+off+0+S7 x.cells.toList) cur.toList).toArray):=by
        simp only[TA,Tw,storeVar,Ta,Tp,Tj,bf];simp_all
       refine⟨_,uL,hs.write (.rows e sz n c') hl (by simp[TE]) (λk hk el=>?_) ?_,?_⟩
       .exact setRow_other w b k _ (λe=>el (by rw[hm,e];rfl))
       .rw[hm];simp only[TY];have hxl:S7 x.cells.toList=S7 cs:=ek.1;refine⟨wg xs (i*sz+off) x.cells.toList,⟨?_,.inr ⟨b,cp,_,rfl,bM,setRow_heap w b cur _ e (0,0) dU,dS,zB,?_,?_⟩⟩,λi' j cO hj=>?_,λy hy=>?_⟩
        .simp only[wg,TL,TQ,Uv];omega
        .grind
        .simp only[wg,<-dB];rw[TG,TG,UD,UE];simp only[TQ,Uo,TL];rw[UA (by omega),TV (l:=x.cells.toList) (by omega)]
         grind
        .have eZ:=fy i' j cO hj;have j7:(i'+1)*sz<=n*sz:=Tf _ (by omega);rw[TJ,UL]at j7;have cK:tj S w (w.setRow b (TP (i*sz+off) cur.toList++x.cells.toList++TR (i*sz+off+S7 x.cells.toList) cur.toList).toArray):=λk hk=>setRow_other w b k _ (λe=>j6 (e ▸ hk));rw[JN _ _ _ (by omega)];by_cases uQ:i'=i/\off<=j/\j<off+S7 cs
         .rw[aFa uQ]at eZ;obtain⟨rfl,D9,xp⟩:=uQ;rw[aFa ⟨by omega,by omega⟩,eZ,show i'*sz+j-(i'*sz+off)=j-off by omega];have yO:cs[j-off]?=S8 (cs.getD (j-off) .oF):=by grind
          obtain⟨y,h4,h5⟩:=ek.2.1 _ _ yO;exact⟨y,h4,(h5.anyM ru (Tt.1 bI _ (Tk yO))).rO cK λ_ h=>h⟩
         .rw[aE_ uQ]at eZ;have co:¬(i*sz+off<=i'*sz+j/\i'*sz+j<i*sz+off+S7 x.cells.toList):=by
           rcases Nat.lt_trichotomy i' i with qI|rfl|qI
           .have:(i'+1)*sz<=i*sz:=Tf _ qI
            grind
           .omega
           .have:(i+1)*sz<=i'*sz:=Tf _ qI
            grind
          rw[aE_ co,eZ];obtain⟨y,h4,h5⟩:=hc i' j cO hj;exact⟨y,h4,h5.rO cK λ_ h=>h⟩
        .simp only[wg,T9]at hy;rcases hy with (hy|hy)|hy
         .grind
         .exact ek.2.2 y hy
         grind
       .refine hg.step ⟨rfl,rfl,rfl,by simp[TE],λk hk=>setRow_other w b k _ (λe=>(hs.own id _ hl b (by rw[hm];rfl)).2.1 (e ▸ hk)),by simp[TE]⟩ (λ_ h=>h) (λ_ h=>.inl h)
     .cases h
    .rename_i e vQ len c hl;split at h
     .rename_i cx bL bF dg;obtain rfl:=ta bL;obtain rfl:=ta bF;obtain rfl:=ta dg;simp only[S9,Tc]at h;obtain⟨rfl,rfl⟩:=h;have hi:i<len:=ho _ (by simp);cases hp with
      |rK hm=>
       rename_i b n cp;have hB:=hs.heap id _ hl;rw[hm]at hB;obtain⟨xs,⟨hlen,cX⟩,hc,vS⟩:=hB;rcases cX with⟨cX,_⟩|⟨g,cap,cur,dA,bM,dU,dS,zB,fA,dB⟩
       .cases cX
       simp only[T1,S9,T_,aFw]at dA;obtain⟨rfl,rfl,rfl⟩:=dA;have gf:S7 x.cells.toList=1:=ek.1;have dQ:x.cells.size=1:=gf;have cD:=run_storeCells_at P b (i * 1+0) e x.cells.toList 0 cur w dU (by rw[gf];simp;omega) ek.2.2;have j6:=(hs.own id _ hl b (by rw[hm];rfl)).1;have uL:(TA t (.pointer (S8 ⟨b,i * 1+0,S_⟩)) x).run P w=.ok () (w.setRow b (TP (i * 1+0+0) cur.toList++x.cells.toList++TR (i * 1+0+0+S7 x.cells.toList) cur.toList).toArray):=by
        simp only[TA,Tw,storeVar,Ta,Tp,Tj,bf];simp_all
       have cK:tj S w (w.setRow b (TP (i * 1+0+0) cur.toList++x.cells.toList++TR (i * 1+0+0+S7 x.cells.toList) cur.toList).toArray):=λk hk=>setRow_other w b k _ (λe=>j6 (e ▸ hk));have eq:tj m.L w (w.setRow b (TP (i * 1+0+0) cur.toList++x.cells.toList++TR (i * 1+0+0+S7 x.cells.toList) cur.toList).toArray):=λk hk=>setRow_other w b k _ (λe=>(hs.own id _ hl b (by rw[hm];rfl)).2.1 (hs.len.2 _ (e ▸ hk)));refine⟨_,uL,hs.write (.hole e n (λi=>c i 0) i cx) hl (by simp[TE]) (λk hk el=>?_) ?_,?_⟩
       .exact setRow_other w b k _ (λe=>el (by rw[hm,e];rfl))
       .rw[hm];refine⟨wg xs i x.cells.toList,⟨?_,.inr ⟨b,cp,_,rfl,bM,setRow_heap w b cur _ e (0,0) dU,dS,zB,?_,?_⟩⟩,λi' cO=>?_,λy hy=>?_⟩
        .simp only[wg,TL,TQ,Uv];omega
        .grind
        .simp only[wg,<-dB,UM,TY];rw[TG,TG,UD,UE];simp only[TQ,Uo,TL];rw[UA (by omega),TV (l:=x.cells.toList) (by omega)]
         grind
        .rw[JN _ _ _ (by omega)];by_cases uQ:i'=i
         .subst uQ;rw[aFa ⟨by omega,by omega⟩,Nat.sub_self];obtain⟨y,h4,h5⟩:=ek.2.1 0 cx rfl;exact⟨y,h4,λe=>aFe rfl e,λ_=>h5.rm cK (λ_ h=>h) eq⟩
         .rw[aE_ (by omega)];obtain⟨y,h4,h5⟩:=hc i' 0 cO (by omega);rw[UM,TY]at h4;exact⟨y,h4,λ_=>h5.rO cK λ_ h=>h,λe=>aFe e uQ⟩
        .simp only[wg,T9]at hy;rcases hy with (hy|hy)|hy
         .grind
         .exact ek.2.2 y hy
         grind
       .refine hg.step ⟨rfl,rfl,rfl,by simp[TE],λk hk=>setRow_other w b k _ (λe=>(hs.own id _ hl b (by rw[hm];rfl)).2.1 (e ▸ hk)),by simp[TE]⟩ (λ_ h=>h) (λ_ h=>.inl h)
     .cases h
    .cases h
   .cases h
  .cases h
 .cases h
end
section
variable{P:Program}{w:World}{N k n:Nat}{S S0:Nat->Prop}{m:Mp}{st:St}{a:Act}{x:V}{px:Value}{e:TypeId}{w0:t_}
theorem Zzo(w:World)(t ty e:TypeId)(i:TypeInfo)(z:Value)(size bytes:Nat)(ht:P.underlying t=S8 (.slice e))(hi:P.info? e=S8 i)(hz:i.zero=S8 z)
  (iv:i.size=size) (lC:i.bytes=bytes) (cu:z.cells.size=size) (bf:0<size)
  (v:Value) (n:Nat) (xs:S5 Value) (bm:w.ownsRow 0 e size v n xs)
  (a:Addr) (m c:Nat) (bC:S5 Value) (hl:S7 bC=m*size) (cw:∀j u,bC[j]?=S8 u->w.cell? (a.add j)=S8 u) (h1:∀u∈bC,u.oneCell'=Tl)
  (lE:n+m<=maxLen) (gg:(n+m)*bytes<=140737488355328) :
  ∃v' w',(Tu #[t,t] ty #[v,.slice (S8 a) m c]).run P w=.ok v' w'/\w'.ownsRow 0 e size v' (n+m) (xs++bC)/\w.grownBy w' v.ownBlock /\
   (v'.ownBlock=v.ownBlock\/∀k,v'.ownBlock=S8 k->w.heap.size<=k)/\w.drawn<=w'.drawn:=by
 obtain⟨v',w',hr,h2,h3,_⟩:=run_append_own (P:=P) w 0 t ty e i z size bytes ht hi hz iv lC cu bf v n xs bm a m c bC hl cw h1 lE gg (UK _);refine⟨v',w',hr,h2,h3,?_⟩;subst iv;subst lC
 have l5:n+m<=9223372036854775807:=by simp only[maxLen]at lE;omega
 rcases bm.2 with⟨rfl,rfl⟩|⟨g,cap,cur,rfl,hbg,hg,d7,iS,xq,fd⟩
 .have hx:xs=[]:=List.eq_nil_of_length_eq_zero (by simpa using bm.1);subst hx;by_cases hm:m=0
  .subst hm;rcases h2.2 with⟨rfl,_⟩|⟨g,cap,cur,rfl,_,_,_,_,_,_⟩
   .have fT:(Tu #[t,t] ty #[.slice S_ 0 0,.slice (S8 a) 0 c]).run P w=.ok (.slice S_ 0 0) w:=by
     simp[Tu,run_underlying ht,sizeOf,typeInfo,hi,Ux,Uk,loadCells,loadCellsFrom]
    simp_all
   simp_all
  .have fT:=run_append_nil (P:=P) w t ty e i z ht hi hz a m c bC hl cw (by omega) (by omega) (by grind);have:=hr.symm.trans fT;simp only[T3]at this;rw[this.1,this.2];exact⟨.inr λk hk=>by simp[Uy]at hk;omega,UN _⟩
 .by_cases rP:n+m<=cap
  .have gh:n*i.size+S7 bC<=cur.size:=by rw[hl,xq,<-TJ];exact Tf _ rP
   have fT:=run_append_room (P:=P) w t ty e i ht hi g n cap cur hg a m c bC hl cw h1 rP gh;have:=hr.symm.trans fT;simp only[T3]at this;rw[this.1,this.2];exact⟨.inl rfl,by simp[TE]⟩
  .have holds:∀j u,xs[j]?=S8 u->w.cell? ((⟨g,0,S_⟩ : Addr).add j)=S8 u:=bm.cells (g:=g) rfl;have fT:=run_append_grow (P:=P) w t ty e i z ht hi hz ⟨g,0,S_⟩ n cap xs bm.1 holds a m c bC hl cw (by omega) (by omega) (growslice_fits (by omega) gg);have:=hr.symm.trans fT;simp only[T3]at this;rw[this.1,this.2];exact⟨.inr λk hk=>by simp[Uy]at hk;omega,UN _⟩
theorem ZDQ(w:World)(t ty e:TypeId)(i:TypeInfo)(ht:P.underlying t=S8 (.slice e))(hi:P.info? e=S8 i)(a:S6 Addr)(n cap c:Nat)(h:n<=cap) :
  (Tu #[t,t] ty #[.slice a n cap,.slice S_ 0 c]).run P w=.ok (.slice a n cap) w:=by
 cases a<;>simp[Tu,run_underlying ht,sizeOf,typeInfo,hi,Ux,Uk,h,storeCells]
structure Ext (sz len k:Nat) (c cx:Nat->Nat->C) (n:Nat) (c':Nat->Nat->C):Prop where
 num:n=len+k
 wM:∀i j,i<len->j<sz->c' i j=c i j
 new:∀i j,i<k->j<sz->c' (len+i) j=cx i j
def MP(st:St)(size:Nat):V->S6 (Nat×(Nat->Nat->C))
 | .one (.sl sz k c)=>match Tg sz size with
  |true=>S8 (k,c)
  |false=>S_
 | .one (.p8 id k)=>match oP st.heap id with
  |some (.rows _ sz len c)=>match Tg sz size with
   |true=>S8 (len,c)
   |false=>S_
  |_=>S_
 | .one (.lit (.slice S_ 0 _))=>S8 (0,λ_ _=>.oF)
 | .one (.lit (.slice (S8 _) 0 _))=>S8 (0,λ_ _=>.oF)
 |_=>S_
theorem ZTB{F:tK}(hs:qB N F S m st a w){size:Nat}{c:Nat->Nat->C}(bf:0<size)(hx:o6 S w m x px)(h:MP st size x=S8 (k,c)) :
  (∃cap,px=.slice S_ 0 cap/\k=0)\/∃(ad:Addr)(cap:Nat)(bC:S5 Value),px=.slice (S8 ad) k cap/\S7 bC=k*size/\(∀(j:Nat)(u:Value),bC[j]?=S8 u->w.cell? (ad.add j)=S8 u)/\(∀u∈bC,u.oneCell'=Tl) /\
   ∀i j,i<k->j<size->∃y,bC[i*size+j]?=S8 y/\oI S w ru (c i j) y:=by
 have aF:∀{len:Nat}{cell:Nat->Nat->C}{pv:Value},oI S w m (.sl size len cell) pv->∃a cap,pv=.slice a len cap/\((a=S_/\len=0)\/∃(ad:Addr)(bC:S5 Value),a=S8 ad/\S7 bC=len*size/\(∀(j:Nat)(u:Value),bC[j]?=S8 u->w.cell? (ad.add j)=S8 u)/\(∀u∈bC,u.oneCell'=Tl) /\
   ∀i j,i<len->j<size->∃y,bC[i*size+j]?=S8 y/\oI S w ru (cell i j) y):=by
  intro len cell pv hr;cases hr with
  |sl b off qe rN ha hc h1 hr=>
   rename_i a cap;refine⟨a,cap,rfl,?_⟩;by_cases hl:0<len
   .obtain⟨rfl,hb⟩:=ha hl;have idx:∀q,q<len*size->q / size<len/\q % size<size/\q / size*size+q % size=q:=by
     intro q hq;refine⟨(Nat.div_lt_iff_lt_mul bf).2 hq,Ub _ bf,?_⟩;rw[Ug];exact Nat.div_add_mod _ _
    refine .inr ⟨⟨b,off,S_⟩,(Tr (len*size)).map λq=>qe (q / size) (q % size),rfl,by simp,λj u hu=>?_,λu hu=>?_,λi j hi hj=>?_⟩
    .simp only[TN,TD]at hu;obtain⟨q,hq,rfl⟩:=hu;obtain⟨er,dw⟩:=Uc.1 hq;simp at er dw;subst dw;obtain⟨e1,e2,e3⟩:=idx j er;rw[Aj,<-hc _ _ e1 e2];congr 2;omega
    .grind
    .refine⟨qe i j,?_,hr i j hi hj⟩;have qI:i*size+j<len*size:=by
      have:(i+1)*size<=len*size:=Tf _ (by omega)
      grind
     have e1:(i*size+j) / size=i:=by rw[Ug,Nat.mul_add_div bf,Nat.div_eq_of_lt hj,TY]
     have e2:(i*size+j) % size=j:=by grind
     simp[qI,e1,e2]
   .have:len=0:=by omega
    subst this;cases a with
    |none=>simp_all
    |some ad=>simp_all
 unfold MP at h;split at h
 .rename_i sz k' c';split at h
  .rename_i hb;obtain rfl:=ta hb;simp only[S9,Tc]at h;obtain⟨rfl,rfl⟩:=h;obtain⟨a',cap,rfl,h2|⟨ad,bC,rfl,h3⟩⟩:=aF hx
   all_goals grind
  .cases h
 .rename_i id k';split at h
  .rename_i e sz len c' hl;split at h
   .rename_i bL;obtain rfl:=ta bL;simp only[S9,Tc]at h;obtain⟨rfl,rfl⟩:=h;cases hx with
    |p8 hm EK=>
     have hB:=hs.heap id _ hl;rw[hm]at hB;rename_i a0 cp;obtain⟨rfl,_,_,h4⟩:=Lu hB;rcases h4 with⟨rfl,rfl,rfl⟩|⟨b,rfl⟩
     .simp_all
     .obtain⟨xs,⟨hlen,cX⟩,hc,vS⟩:=hB;rcases cX with⟨cX,_⟩|⟨g,cap,cur,dA,bM,dU,dS,zB,fA,dB⟩
      .cases cX
      simp only[T1,S9,T_,aFw]at dA;obtain⟨rfl,_,rfl⟩:=dA;refine .inr ⟨_,_,xs,rfl,hlen,λj u hu=>?_,vS,hc⟩;rw[Aj,TX,O0 dU]
      grind
   .cases h
  .cases h
 .simp only[S9,Tc]at h;obtain⟨rfl,rfl⟩:=h;cases hx;simp_all
 .rename_i ad cap;simp only[S9,Tc]at h;obtain⟨rfl,rfl⟩:=h;cases hx;simp_all
 .cases h
def Eg(N:Nat)(T:qP)(st:St)(d t:Nat)(s x:V)(an:S6 sF):S6 (V×S5 Prop×St):=match sv T t with
 |some ti=>match ti.k with
  | .slice e=>match sv T e with
   |some te=>match TB 1 te.size,Fk te,MP st te.size x,an,so N d st with
    |true,S8 z,S8 (k,cx),S8 (.c n c'),Tl=>match Tg z.length te.size with
     |true=>match s with
      | .one (.p8 id l)=>match oP st.heap id with
       |some (.rows e' sz len c)=>match Tg e' e,Tg sz te.size with
        |true,Tl=>S8 (.one (.p8 d n),[Ext sz len k c cx n c',n*te.bytes<=140737488355328,n<=maxLen],{ st with heap:=(d,.rows e sz n c') :: ug st.heap id })
        |_,_=>S_
       |_=>S_
      | .one (.lit (.slice S_ 0 0))=>S8 (.one (.p8 d n),[Ext te.size 0 k (λ_ _=>.oF) cx n c',n*te.bytes<=140737488355328,n<=maxLen],st.new d (.rows e te.size n c'))
      |_=>S_
     |false=>S_
    |_,_,_,_,_=>S_
   |none=>S_
  |_=>S_
 |none=>S_
theorem ZMM{sz:Nat}{v:Value}{xs:S5 Value}(h:w.ownsRow 0 e sz v n xs):v.ownBlock=sU v/\∃a c,v=.slice a n c/\n<=c:=by
 rcases h.2 with⟨rfl,rfl⟩|⟨g,cap,cur,rfl,_,_,h1,_⟩
 .exact⟨rfl,_,_,rfl,Tq _⟩
 .exact⟨rfl,_,_,rfl,h1⟩
theorem ZDl(hs:qB N w0.F S m st a w)(hg:p9 w0.F.no S0 S w0.w w){t ty:TypeId}{i:TypeInfo}{z:Value}(ht:P.underlying t=S8 (.slice e))(hi:P.info? e=S8 i)(hz:i.zero=S8 z)
  (cu:z.cells.size=i.size) (bf:0<i.size) (d:Nat) (hq:so N d st=Tl) (wM:S6 Nat) (v:Value) (len:Nat) (c:Nat->Nat->C) (xs:S5 Value) (bm:w.ownsRow 0 e i.size v len xs) (hc:∀i' j,i'<len->j<i.size->∃x,xs[i'*i.size+j]?=S8 x/\oI S w ru (c i' j) x) (vS:∀x∈xs,x.oneCell'=Tl)
  (eo:(wM=S_/\sU v=S_)\/∃id b0,wM=S8 id/\oP st.heap id=S8 b0/\sU v=sU (m id))  {cx c':Nat->Nat->C}   (hx:o6 S w m x px) (fB:MP st i.size x=S8 (k,cx)) (fy:Ext i.size len k c cx n c') (hb:n*i.bytes<=140737488355328) (hn:n<=maxLen) :
  ∃v' w',(Tu #[t,t] ty #[v,px]).run P w=.ok v' w'/\qB N w0.F S (zz m d v') { st with heap:=(d,.rows e i.size n c') :: ZCn st.heap wM } a w'/\p9 w0.F.no S0 S w0.w w'/\o6 S w' (zz m d v') (.one (.p8 d n)) v':=by
 obtain rfl:=fy.num;obtain⟨iT,av,cv,rfl,hle⟩:=ZMM bm;have hnF:∀k,sU (.slice av len cv)=S8 k->¬w0.F.no k:=by
  intro k hk;rcases eo with⟨_,h3⟩|⟨id,b0,h3,h4,h5⟩
  .rw[h3]at hk;cases hk
  .exact(hs.own id b0 h4 k (h5 ▸ hk)).2.1
 rcases ZTB hs bf hx fB with⟨cap,rfl,rfl⟩|⟨ad,cap,bC,rfl,hl,cw,h1,l6⟩
 .have gT:len=0\/∃b,av=S8 ⟨b,0,S_⟩:=by
   rcases bm.2 with⟨h3,h4⟩|⟨g,g3,cur,h3,_⟩
   all_goals simp_all
  refine⟨_,w,ZDQ w t ty e i ht hi av len cv cap hle,?_,hg,oI.p8 (zr _ _ _) gT hle⟩;refine hs.renew d hq _ _ wM (Tq _) (λ_ _ _=>rfl) (λk hk=>?_) ⟨xs,by omega,λi' j cO hj=>?_,vS⟩
  .have h2:=bm.lt k (by rw[iT];exact hk)
   grind
  .obtain⟨y,h3,h4⟩:=hc i' j (by omega) hj;exact⟨y,h3,by rw[fy.wM i' j (by omega) hj];exact h4⟩
 .obtain⟨v',w',hr,cY,bJ,lA,fC⟩:=Zzo (P:=P) w t ty e i z i.size i.bytes ht hi hz rfl rfl cu bf _ len xs bm ad k cap bC hl cw h1 hn hb;obtain⟨iw,av',cv',rfl,l7⟩:=ZMM cY;have g4:w.grownBy w' (sU (.slice av len cv)):=by simp_all
  have cK:tj S w w':=λq hq=>g4.block q (hs.u5 q hq) (by
   intro e';rcases eo with⟨_,h3⟩|⟨id,b0,_,cn,h3⟩
   .rw[h3]at e';cases e'
   .exact(hs.own id b0 cn q (by simp_all)).1 hq)
  have gT:len+k=0\/∃b,av'=S8 ⟨b,0,S_⟩:=by
   rcases cY.2 with⟨h3,h4⟩|⟨g,g3,cur,h3,_⟩
   all_goals simp_all
  refine⟨_,w',hr,?_,?_,oI.p8 (zr _ _ _) gT l7⟩
  .refine hs.renew d hq _ _ wM g4.size (λq cZ qN=>g4.block q cZ (λe'=>?_)) (λq cZ=>?_) ⟨xs++bC,cY,λi' j cO hj=>?_,λy hy=>?_⟩
   .grind
   .have h2:=cY.lt q (by rw[iw];exact cZ);rw[iw,iT]at lA;refine⟨lA.elim (λh3=>hnF q (h3 ▸ cZ)) (λh3 hF=>aFe (hs.pJ q hF) (Nat.not_lt.2 (h3 q cZ))),h2.2,?_⟩
    grind
   .by_cases qI:i'<len
    .obtain⟨y,h3,h4⟩:=hc i' j qI hj;refine⟨y,?_,by rw[fy.wM i' j qI hj];exact h4.rO cK λ_ h=>h⟩
     grind
    .obtain⟨y,h3,h4⟩:=l6 (i'-len) j (by omega) hj;have e3:=fy.new (i'-len) j (by omega) hj;rw[show len+(i'-len)=i' by omega]at e3;refine⟨y,?_,by rw[e3];exact h4.rO cK λ_ h=>h⟩;have e4:i'*i.size=len*i.size+(i'-len)*i.size:=by rw[<-TJ];congr 1;omega
     rw[TM (by rw[bm.1];omega),bm.1,<-h3];congr 1;omega
   grind
  .refine hg.step (x_.grown g4 fC hs.pJ λq hq=>?_) (λ_ h=>h) (λ_ h=>.inl h)
   grind
theorem ZAH{T:qP}(hT:rZ P T)(hs:qB N w0.F S m st a w)(hg:p9 w0.F.no S0 S w0.w w)
  {d t ty:Nat} {s v:V} {ps:Value} {an:S6 sF} {o_:S5 Prop} {pH:St} (b9:o6 S w m s ps) (di:o6 S w m x px) (h:Eg N T st d t s x an=S8 (v,o_,pH)) (ho:∀q∈o_,q) :
  ∃y w' m',(Tu #[t,t] ty #[ps,px]).run P w=.ok y w'/\qB N w0.F S m' pH a w'/\p9 w0.F.no S0 S w0.w w'/\o6 S w' m' v y:=by
 unfold Eg at h;split at h
 .rename_i ti bz;obtain⟨dd,hu,hf⟩:=hT.under bz;split at h
  .rename_i e hk;rw[hk]at hf;cases dd<;>simp only[TK.fits]at hf;subst hf;split at h
   .rename_i te bU;obtain⟨i,hi,yE,bE,j8⟩:=hT.info bU;split at h
    .rename_i z k cx n c' bL hz fB hq;have bf:=Td bL;split at h
     .rename_i iy;have iy:=ta iy;obtain⟨zv,hzv,cu⟩ : ∃zv,i.zero=S8 zv/\zv.cells.size=i.size:=by
       unfold Fk at hz;split at hz
       .rename_i zv hq;have hr:=V.uO (S:=S) (w:=w) (m:=m) (V.vH zv) hz;exact⟨zv,by rw[j8,hq],by have:=hr.1;simp at this;omega⟩
       .cases hz
      split at h
      .rename_i id l;split at h
       .rename_i e' sz len c hl;split at h
        .rename_i he iU;obtain rfl:=ta he;have iU:=ta iU;simp only[S9,Tc]at h;obtain⟨rfl,rfl,rfl⟩:=h;subst iU;rw[<-yE]at *
         rw[<-bE]at *
         cases b9 with
         |p8 hm EK=>
          have hB:=hs.heap id _ hl;rw[hm]at hB;obtain⟨rfl,_⟩:=Lu hB;obtain⟨xs,bm,hc,vS⟩:=hB;have o1:Ext i.size l k c cx n c':=ho _ (by simp);have o2:n*i.bytes<=140737488355328:=ho _ (by simp);have o3:n<=maxLen:=ho _ (by simp);obtain⟨v',w',h2,h3,h4,h5⟩:=ZDl (ty:=ty) hs hg hu hi hzv cu (by omega) d hq (S8 id) _ l c xs bm hc vS (.inr ⟨id,_,rfl,hl,by rw[hm]⟩) di fB o1 o2 o3;exact⟨v',w',_,h2,h3,h4,h5⟩
        .cases h
       .cases h
      .simp only[S9,Tc]at h;obtain⟨rfl,rfl,rfl⟩:=h;rw[<-yE]at *
       rw[<-bE]at *
       cases b9;have o1:Ext i.size 0 k (λ_ _=>.oF) cx n c':=ho _ (by simp);have o2:n*i.bytes<=140737488355328:=ho _ (by simp);have o3:n<=maxLen:=ho _ (by simp);obtain⟨v',w',h2,h3,h4,h5⟩:=ZDl (ty:=ty) hs hg hu hi hzv cu (by omega) d hq S_ _ 0 _ [] (World.ownsRow_nil _ _ _ _) (λi' j h=>aFe h (by omega)) (by simp) (.inl ⟨rfl,rfl⟩) di fB o1 o2 o3;exact⟨v',w',_,h2,qB.FX h3 (λid b hb=>by rw[Az]at hb;simpa only[ZCn,tD]using hb),h4,h5⟩
      .cases h
     .cases h
    .cases h
   .cases h
  .cases h
 .cases h
end
section
def zJ(a b:C):Prop:=b=a\/(a=.lit (.slice S_ 0 0)/\∃sz f,b=.sl sz 0 f)
variable{S S0:Nat->Prop}{w:World}{m:Mp}{P:Program}{T:qP}{N d t:Nat}{w0:t_}{st pH:St}{a:Act}{v:V}{an:S6 sF}{o_:S5 Prop}
theorem ZIA{a b:C}{x:Value}(h:oI S w m a x)(ho:zJ a b):oI S w m b x:=by
 rcases ho with rfl|⟨rfl,sz,f,rfl⟩
 .exact h
 .cases h;exact .sl 0 0 (λ_ _=>undef) (Tq _) (λh=>aFe h (by omega)) (λi j h=>aFe h (by omega)) (λi j h=>aFe h (by omega)) (λi j h=>aFe h (by omega))
def BQ(N:Nat)(T:qP)(st:St)(d t:Nat)(l c:V)(an:S6 sF):S6 (V×S5 Prop×St):=match sv T t with
 |some ti=>match ti.k with
  | .slice e=>match sv T e with
   |some te=>match Fk te,z7 l,z7 c,an with
    |some z,S8 (_,x),S8 (_,y),S8 (.c n c')=>match Tg z.length te.size,TB 1 te.size,so N d st with
     |true,Tl,Tl=>S8 (.one (.p8 d n),[x=n,n<=y,y<=140737488355328,y*te.bytes<=140737488355328,∀i j,i<n->j<te.size->zJ (z.getD j .oF) (c' i j)],st.new d (.rows e te.size n c'))
     |_,_,_=>S_
    |_,_,_,_=>S_
   |none=>S_
  |_=>S_
 |none=>S_
theorem ZzK{α:Type}(f:Nat->α):(T2 0).map f = #[]:=by apply Array.ext<;>simp
theorem B0{y:Int}(h0:0<=y:=by omega)(h:y<=140737488355328:=by omega):TZ.wrap y=y:=by
 simp only[US,UB,Ut];have:y % 2 ^ 64=y:=Int.emod_eq_of_lt h0 (by omega);simp[this];omega
theorem ZTi(z:Array Value)(sz:Nat)(hz:z.size=sz)(k i j:Nat)(hi:i<k)(hj:j<sz):((T2 (k*sz)).map (z[·% z.size]!))[i*sz+j]?=z[j]?:=by
 have qI:i*sz+j<k*sz:=by
  have:(i+1)*sz<=k*sz:=Tf _ (by omega);rw[TJ]at this;omega
 have e2:(i*sz+j) % sz=j:=by rw[Ug,Nat.mul_add_mod,Nat.mod_eq_of_lt hj]
 have w8:j<z.size:=by omega
 simp only[Uq,Ul,qI,aFg,hz,e2,TT];rw[aFs z j w8,Array.getElem?_eq_getElem w8]
theorem ZEM(hT:rZ P T)(hs:qB N w0.F S m st a w)(hg:p9 w0.F.no S0 S w0.w w)
   {l c:V} {pl pc:Value}    (hl:o6 S w m l pl) (hc:o6 S w m c pc) (h:BQ N T st d t l c an=S8 (v,o_,pH)) (ho:∀q∈o_,q) :
  ∃y w' m',(TW t pl pc).run P w=.ok y w'/\qB N w0.F S m' pH a w'/\p9 w0.F.no S0 S w0.w w'/\o6 S w' m' v y:=by
 unfold BQ at h;split at h
 .rename_i ti bz;obtain⟨dd,hu,hf⟩:=hT.under bz;split at h
  .rename_i e hk;rw[hk]at hf;cases dd<;>simp only[TK.fits]at hf;subst hf;split at h
   .rename_i te bU;split at h
    .rename_i z k1 x k2 y n c' hz hx hy;split at h
     .rename_i bL bF hq;have iy:=ta bL;have bf:=Td bF;obtain rfl:=Lj hl hx;obtain rfl:=Lj hc hy;simp only[S9,Tc]at h;obtain⟨rfl,rfl,rfl⟩:=h;have o1:x=n:=ho _ (by simp);have o2:(n:Int)<=y:=ho _ (by simp);have o3:y<=140737488355328:=ho _ (by simp);have o4:y*te.bytes<=140737488355328:=ho _ (by simp);have o5:∀i j,i<n->j<te.size->zJ (z.getD j .oF) (c' i j):=ho _ (by simp);subst o1;obtain⟨zv,BI,cJ⟩:=RR (S:=S) (w:=w) (m:=ru) hT bU hz;have cu:zv.cells.size=te.size:=by have:=cJ.1;simp at this;omega
      obtain⟨i,hi,yE,bE,j8⟩:=hT.info bU;have fU:TZ.wrap (n:Int)=n:=B0;have fW:TZ.wrap y=y:=B0 (by omega) o3;obtain⟨k,rfl⟩:=Int.eq_ofNat_of_zero_le (show 0<=y by omega);have hnk:n<=k:=by omega
      have uL:(TW t (.int k1 n) (.int k2 k)).run P w=.ok (.slice (S8 ⟨w.heap.size,0,S_⟩) n k) (w.alloc (.cells (if k*te.size=0 then #[]else(T2 (k*te.size)).map (zv.cells[·% zv.cells.size]!)) e)):=by
       have h48:¬((te.bytes:Int)*(k:Int)>2 ^ 48):=by
        rw[Int.mul_comm];have:(2:Int) ^ 48=281474976710656:=by decide
        omega
       have rP:¬(k*i.bytes>roomBytes):=by
        have:((k*te.bytes:Nat):Int)<=140737488355328:=by simpa using o4
        simp only[roomBytes];rw[bE];omega
       by_cases Ae:k*te.size=0
       .have h0:k=0:=by
         rcases UC.1 Ae with h|h
         .exact h
         .omega
        subst h0;have hn0:n=0:=by omega
        subst hn0;have lF:TZ.wrap 0=0:=B0;simp[TW,Ta,run_underlying hu,asInt,asIntOf,lF,typeInfo,hi,askRoom,hT.size bU,Sd,roomBytes,ZzK]
       .simp[TW,Ta,run_underlying hu,asInt,asIntOf,fU,fW,typeInfo,hi,askRoom,hT.size bU,Sd,Ae,BI,rP];have aEl:(i.bytes:Int)*(k:Int)<=281474976710656:=by
         rw[bE];have:(2:Int) ^ 48=281474976710656:=by decide
         omega
        intro hc;exfalso;omega
      have qN:k*te.size=0->k=0:=λAe=>by
       rcases UC.1 Ae with h|h
       .exact h
       .omega
      obtain⟨h1,h2⟩:=hs.C0 d hq e te.size n k c' (if k*te.size=0 then #[]else(T2 (k*te.size)).map (zv.cells[·% zv.cells.size]!)) hnk (by simp only[maxLen];omega) (by
       by_cases Ae:k*te.size=0
       .rw[aFa Ae,Ae];rfl
       .rw[aE_ Ae];simp) (λx hx=>by
       by_cases Ae:k*te.size=0
       .rw[aFa Ae]at hx;simp at hx
       .rw[aE_ Ae]at hx;simp only[Uu,Uf]at hx;obtain⟨q,_,rfl⟩:=hx;have qI:q % zv.cells.size<zv.cells.size:=Ub _ (by omega);rw[aFs zv.cells _ qI];exact cJ.2.2 _ (by simp)) (λi j hi hj=>by
       have Ae:¬k*te.size=0:=λAe=>by have:=qN Ae;omega
       rw[aE_ Ae,ZTi _ _ cu k i j (by omega) hj];have hc:z[j]?=S8 (z.getD j .oF):=by simp[Ty,show j<z.length by omega]
       obtain⟨x,h3,h4⟩:=cJ.2.1 j _ hc;exact⟨x,by simpa using h3,ZIA h4 (o5 i j hi hj)⟩)
      exact⟨_,_,_,uL,h1,hg.alloc hs.pJ _,h2⟩
     .cases h
    .cases h
   .cases h
  .cases h
 .cases h
def BX(N:Nat)(T:qP)(st:St)(d t n:Nat)(ps:S5 (Nat×V))(an:S6 sF):S6 (V×S5 Prop×St):=match sv T t with
 |some ti=>match ti.k with
  | .slice e=>match sv T e with
   |some te=>match Fk te with
    |some z=>match TB 1 te.size,TB (n*te.size) 16777216,Tg z.length te.size,QL (λi=>S8 (i*te.size,te.size)) ((Tr (n*te.size)).map λq=>z.getD (q % te.size) .oF) ps with
     |true,Tl,Tl,S8 l=>match l.all C.pure,Tg l.length (n*te.size)with
      |true,Tl=>match an with
       |some (.c n' c')=>match so N d st with
        |false=>S_
        |true=>S8 (.one (.p8 d n'),[n'=n,∀i j,i<n->j<te.size->c' i j=l.getD (i*te.size+j) .oF],st.new d (.rows e te.size n' c'))
       |_=>S8 (.one (.sl te.size n λi j=>l.getD (i*te.size+j) .oF),[],st)
      |_,_=>S_
     |_,_,_,_=>S_
    |none=>S_
   |none=>S_
  |_=>S_
 |none=>S_
theorem ZDJ(hT:rZ P T)(hs:qB N w0.F S m st a w)(hg:p9 w0.F.no S0 S w0.w w)
  {n:Nat} {ps:Array (Nat×Operand)}     (h:BX N T st d t n (ps.toList.map λp=>(p.1,pT st p.2)) an=S8 (v,o_,pH)) (ho:∀q∈o_,q) :
  ∃y w' S' m',(T7 t n (ps.map λ(i,x)=>(i,a.eval x))).run P w=.ok y w'/\qB N w0.F S' m' pH a w'/\p9 w0.F.no S0 S' w0.w w'/\o6 S' w' m' v y:=by
 unfold BX at h;split at h
 .rename_i ti bz;obtain⟨dd,hu,hf⟩:=hT.under bz;split at h
  .rename_i e hk;rw[hk]at hf;cases dd<;>simp only[TK.fits]at hf;subst hf;split at h
   .rename_i te bU;split at h
    .rename_i z hz;split at h
     .rename_i l bL bF iy hl;have bf:=Td bL;have dC:=Td bF;have iy:=ta iy;obtain⟨zv,BI,cJ⟩:=RR (S:=S) (w:=w) (m:=m) hT bU hz;have cu:zv.cells.size=te.size:=by have:=cJ.1;simp at this;omega
      have b9:(ps.map λ(i,x)=>(i,a.eval x)).toList=ps.toList.map λp=>(p.1,a.eval p.2):=by simp
      have gi:qk S w m ((Tr (n*te.size)).map λq=>z.getD (q % te.size) .oF) ((T2 (n*te.size)).map (zv.cells[·% zv.cells.size]!)).toList:=by
       refine⟨by simp,λj c hj=>?_,λx hx=>?_⟩
       .simp only[TN,TD]at hj;obtain⟨q,hq,rfl⟩:=hj;obtain⟨er,dw⟩:=Uc.1 hq;simp at er dw;subst dw;have aEb:j % te.size<te.size:=Ub _ (by omega);have hc:z[j % te.size]?=S8 (z.getD (j % te.size) .oF):=by simp[Ty,show j % te.size<z.length by omega]
        obtain⟨x,h3,h4⟩:=cJ.2.1 _ _ hc;refine⟨x,?_,h4⟩;rw[Tv,Uq,Ul,aFa er,TT,cu,<-h3,aFs zv.cells _ (by omega)];simp[show j % te.size<zv.cells.size by omega]
       .simp only[Uu,Uf]at hx;obtain⟨q,_,rfl⟩:=hx;have qI:q % zv.cells.size<zv.cells.size:=Ub _ (by omega);rw[aFs zv.cells _ qI];exact cJ.2.2 _ (by simp)
      obtain⟨ys,h1,h2⟩:=ZBs hs (yA:=λi=>S8 (i*te.size,te.size)) (λi p hp=>hp) ps.toList _ l _ gi hl;have uL:(T7 t n (ps.map λ(i,x)=>(i,a.eval x))).run P w=.ok (.slice (S8 ⟨w.heap.size,0,S_⟩) n n) (w.alloc (.cells ys e)):=by
       have lG:¬(n*te.size>2 ^ 24):=by omega
       simp only[T7,Ta,run_underlying hu,Tj,hT.size bU,b9];rw[aE_ lG];by_cases h0:n*te.size=0
       .rw[aFa h0];rw[h0,ZzK]at h1;simp only[Tp,Tj,h0,ZzK,h1,Ta,Sd]
       .rw[aE_ h0];simp[Ta,BI,h1,Sd]
      split at h
      .rename_i hp l8;have l8:=ta l8;split at h
       .rename_i n' c';split at h
        .cases h
        rename_i hq;simp only[S9,Tc]at h;obtain⟨rfl,rfl,rfl⟩:=h;have o1:n'=n:=ho _ (by simp);have o2:∀i j,i<n->j<te.size->c' i j=l.getD (i*te.size+j) .oF:=ho _ (by simp);subst o1;have l9:ys.size=n'*te.size:=by have:=h2.1;simp at this;omega
        have hnm:n'<=16777216:=Uh (Nat.le_mul_of_pos_right n' bf) dC;obtain⟨h3,h4⟩:=hs.C0 d hq e te.size n' n' c' ys (Tq _) (by simp only[maxLen];omega) l9 h2.2.2 (λi j hi hj=>by
         have qI:i*te.size+j<n'*te.size:=by
          have:(i+1)*te.size<=n'*te.size:=Tf _ (by omega);rw[TJ]at this;omega
         have hc:l[i*te.size+j]?=S8 (l.getD (i*te.size+j) .oF):=by simp[Ty,show i*te.size+j<l.length by omega]
         obtain⟨x,h5,h6⟩:=h2.2.1 _ _ hc;refine⟨x,by simpa using h5,?_⟩;rw[o2 i j hi hj];exact h6.anyM ru (Tt.1 hp _ (Tk hc)))
        exact⟨_,_,_,_,uL,h3,hg.alloc hs.pJ _,h4⟩
       .simp only[S9,Tc]at h;obtain⟨rfl,rfl,rfl⟩:=h;obtain⟨h3,h4⟩:=hs.F0 e te.size n h2 hp l8;exact⟨_,_,_,_,uL,h3,hg.step (x_.alloc hs.pJ _) (λ_ h=>.inl h) (λb hb=>hb.imp id λe hF=>by have:=hs.pJ _ hF;omega),h4⟩
      .cases h
     .cases h
    .cases h
   .cases h
  .cases h
 .cases h
end
end Go.Proofs.YtmcnjofonpkfmaaGreat
