import Derived.WalkKit
import Derived.ProofKit
import Derived.Below
import Derived.Laws.Tables
import Derived.Laws.Rows
import Derived.Deep.MidRow
namespace Go.Proofs.YtnigiacmmedkhaaGreat
open Go.RowKit
set_option linter.unusedSimpArgs false
inductive C where
 |lit (x:Value)
 |sl (sz len:Nat) (cell:Nat->Nat->C)
 |rp (nil:Bool) (n:Nat) (cell:Nat->C)
 |ptr (id off:Nat)
 |osl (id len:Nat)
 |eptr (id sz i off:Nat)
 |osub (id sz lo len n:Nat)
 |clo (fn:Fn) (na nb:Nat) (a b:Nat->C)
 |ifc (t:TypeId) (c:C)
 |ifa (t:TypeId) (n:Nat) (cell:Nat->C)
 |agv (n:Nat) (cell:Nat->C)
 |mp (id:Nat)
 |lsl (sz len:Nat) (cell:Nat->Nat->C)
 |lrp (n:Nat) (cell:Nat->C)
 |junk
 deriving Inhabited
inductive V where
 |one (c:C)
 |agg (l:List C)
 |tup (l:List (Bool×List C))
 deriving Inhabited
inductive B where
 |box (l:List C)
 |rows (e:TypeId) (sz len:Nat) (c:Nat->Nat->C)
 |map (kt:TypeId) (l:List (Value×V))
 |hole (e:TypeId) (len:Nat) (c:Nat->C) (k:Nat) (x:C)
structure St where
 env:List (Nat×V)
 heap:List (Nat×B)
def look{α:Type}(d:α):List (Nat×α)->Nat->α
 | [],_=>d
 | (k,v) :: r,t=>match Nat.beq k t with
  |true=>v
  |false=>look d r t
theorem Zrp{α:Type}(d:α)(k:Nat)(v:α)(r:List (Nat×α))(t:Nat):look d ((k,v) :: r) t=if k=t then v else look d r t:=by
 simp only[look];by_cases h:k=t
 .subst h;simp
 .have:Nat.beq k t=false:=by
   cases hb:Nat.beq k t
   .rfl
   .exact absurd (Nat.eq_of_beq_eq_true hb) h
  simp[this,h]
def hget:List (Nat×B)->Nat->Option B
 | [],_=>none
 | (k,v) :: r,t=>match Nat.beq k t with
  |true=>some v
  |false=>hget r t
theorem Zbk(k:Nat)(v:B)(r:List (Nat×B))(t:Nat):hget ((k,v) :: r) t=if k=t then some v else hget r t:=by
 simp only[hget];by_cases h:k=t
 .subst h;simp
 .have:Nat.beq k t=false:=by
   cases hb:Nat.beq k t
   .rfl
   .exact absurd (Nat.eq_of_beq_eq_true hb) h
  simp[this,h]
def hdel:List (Nat×B)->Nat->List (Nat×B)
 | [],_=>[]
 | (k,v) :: r,t=>match Nat.beq k t with
  |true=>hdel r t
  |false=>(k,v) :: hdel r t
theorem Zlk(h:List (Nat×B))(t s:Nat):hget (hdel h t) s=if t=s then none else hget h s:=by
 induction h with
 |nil=>simp[hdel,hget]
 |cons p r ih=>
  obtain⟨k,v⟩:=p;simp only[hdel];by_cases hk:k=t
  .subst hk;simp only[Nat.beq_refl,ih,Zbk];split<;>rfl
  .have:Nat.beq k t=false:=by
    cases hb:Nat.beq k t
    .rfl
    .exact absurd (Nat.eq_of_beq_eq_true hb) hk
   simp only[this,Zbk,ih];by_cases h1:k=s
   .subst h1;simp[Ne.symm hk]
   .simp[h1]
def hset(h:List (Nat×B))(t:Nat)(v:B):List (Nat×B):=(t,v) :: hdel h t
theorem Zpw(h:List (Nat×B))(t s:Nat)(v:B):hget (hset h t v) s=if t=s then some v else hget h s:=by
 simp only[hset,Zbk,Zlk];split<;>simp_all
def hins:List (Nat×B)->Nat->B->List (Nat×B)
 | [],d,b=>[(d,b)]
 | (k,v) :: r,d,b=>match Nat.beq k d with
  |true=>(d,b) :: r
  |false=>match Nat.blt d k with
   |true=>(d,b) :: (k,v) :: r
   |false=>(k,v) :: hins r d b
theorem Zfb(d:Nat)(b:B)(t:Nat):∀(h:List (Nat×B)),hget (hins h d b) t=if d=t then some b else hget h t
 | []=>by simp only[hins,Zbk]
 | (k,v) :: r=>by
  simp only[hins]
  split
  .rename_i e
   have e:=Nat.eq_of_beq_eq_true e
   subst e
   simp only[Zbk]
   split<;>rfl
  .rename_i e
   have e:=Nat.ne_of_beq_eq_false e
   split
   .simp only[Zbk]
   .simp only[Zbk,Zfb d b t r]
    by_cases h1:k=t
    .rw[if_pos h1,if_pos h1,if_neg (by omega)]
    .rw[if_neg h1,if_neg h1]
theorem ZBh(d e:Nat)(b c:B)(hne:d≠e):∀(h:List (Nat×B)),hins (hins h d b) e c=hins (hins h e c) d b:=by
 have f1:∀{x y:Nat},x≠y->Nat.beq x y=false:=fun{x y} h=>by
  cases hb:Nat.beq x y
  .rfl
  .exact absurd (Nat.eq_of_beq_eq_true hb) h
 have f2:∀{x y:Nat},x<y->Nat.blt x y=true:=fun h=>Nat.ble_eq_true_of_le h;have f3:∀{x y:Nat},¬x<y->Nat.blt x y=false:=fun{x y} h=>by
  cases hb:Nat.blt x y
  .rfl
  .exact absurd (Nat.le_of_ble_eq_true hb) h
 intro h;induction h with
 |nil=>
  by_cases h1:d<e
  .simp[hins,f1 hne,f1 (Ne.symm hne),f2 h1,f3 (show ¬e<d by omega)]
  .simp[hins,f1 hne,f1 (Ne.symm hne),f3 h1,f2 (show e<d by omega)]
 |cons p r ih=>
  obtain⟨k,v⟩:=p;by_cases hd:k=d
  .subst hd;by_cases h1:e<k
   .simp[hins,f1 hne,f1 (Ne.symm hne),f2 h1,f3 (show ¬k<e by omega)]
   .simp[hins,f1 hne,f3 h1]
  .by_cases he:k=e
   .subst he;by_cases h1:d<k
    .simp[hins,f1 hne,f1 (Ne.symm hne),f2 h1,f3 (show ¬k<d by omega)]
    .simp[hins,f1 (Ne.symm hne),f3 h1]
   .by_cases h1:d<k
    .by_cases h2:e<k
     .by_cases h3:d<e
      .simp[hins,f1 hd,f1 he,f1 hne,f1 (Ne.symm hne),f2 h1,f2 h2,f2 h3,f3 (show ¬e<d by omega)]
      .simp[hins,f1 hd,f1 he,f1 hne,f1 (Ne.symm hne),f2 h1,f2 h2,f3 h3,f2 (show e<d by omega)]
     .simp[hins,f1 hd,f1 he,f1 hne,f1 (Ne.symm hne),f2 h1,f3 h2,f3 (show ¬e<d by omega)]
    .by_cases h2:e<k
     .simp[hins,f1 hd,f1 he,f1 hne,f1 (Ne.symm hne),f3 h1,f2 h2,f3 (show ¬d<e by omega)]
     .simp[hins,f1 hd,f1 he,f3 h1,f3 h2,ih]
def C.says(id:Nat):C->Bool | .ptr k _ | .osl k _ | .eptr k _ _ _ | .osub k _ _ _ _ | .mp k=>Nat.beq k id | .clo _ na nb a b=>(List.range na).any (fun i=>(a i).says id)||(List.range nb).any (fun i=>(b i).says id) | .ifc _ c=>c.says id | .ifa _ n c=>(List.range n).any fun i=>(c i).says id | .agv n c=>(List.range n).any fun i=>(c i).says id|_=>false
def V.says(id:Nat):V->Bool | .one c=>c.says id | .agg l=>l.any (C.says id) | .tup l=>l.any fun p=>p.2.any (C.says id)
def B.says(id:Nat):B->Bool | .box l=>l.any (C.says id) | .rows _ _ _ _=>false | .map _ _=>false | .hole _ _ _ _ x=>x.says id
def St.get(st:St)(t:Nat):V:=look (.one .junk) st.env t
structure Mp where
 f:Nat->Value
 L:Nat->Prop
instance:CoeFun Mp (fun _=>Nat->Value):=⟨Mp.f⟩
theorem Mp.ext'{m m':Mp}(h:∀k,m k=m' k)(hL:m.L=m'.L):m=m':=by
 cases m;cases m';cases hL;have:=funext h;cases this;rfl
def ZcK:Mp:=⟨fun _=>.tuple #[],fun _=>False⟩
inductive RepC (S:Nat->Prop) (w:World):Mp->C->Value->Prop
 |lit {m:Mp} {x:Value}:RepC S w m (.lit x) x
 |sl {m:Mp} {sz len:Nat} {cell:Nat->Nat->C} {a:Option Addr} {cap:Nat} (b off:Nat) (vals:Nat->Nat->Value) (hcap:len<=cap) (ha:0<len->a=some ⟨b,off,none⟩/\S b)
   (hc:∀i j,i<len->j<sz->w.cell? ⟨b,off+i*sz+j,none⟩=some (vals i j)) (h1:∀i j,i<len->j<sz->(vals i j).oneCell'=true)
   (hr:∀i j,i<len->j<sz->RepC S w ZcK (cell i j) (vals i j)):RepC S w m (.sl sz len cell) (.slice a len cap)
 |rp {m:Mp} {n:Nat} {cell:Nat->C} (b off:Nat) (vals:Nat->Value) (ha:S b) (hc:∀j,j<n->w.cell? ⟨b,off+j,none⟩=some (vals j)) (h1:∀j,j<n->(vals j).oneCell'=true)
   (hr:∀j,j<n->RepC S w ZcK (cell j) (vals j)):RepC S w m (.rp false n cell) (.pointer (some ⟨b,off,none⟩))
 |rpn {m:Mp} {n:Nat} {cell:Nat->C}:RepC S w m (.rp true n cell) (.pointer none)
 |ptr {m:Mp} {id off b:Nat} (h:m id=.pointer (some ⟨b,0,none⟩)):RepC S w m (.ptr id off) (.pointer (some ⟨b,off,none⟩))
 |osl {m:Mp} {id n:Nat} {a:Option Addr} {c:Nat} (h:m id=.slice a n c) (h0:n=0\/∃b,a=some ⟨b,0,none⟩) (hle:n<=c):RepC S w m (.osl id n) (.slice a n c)
 |eptr {m:Mp} {id sz i off b n c:Nat} (h:m id=.slice (some ⟨b,0,none⟩) n c):RepC S w m (.eptr id sz i off) (.pointer (some ⟨b,i*sz+off,none⟩))
 |osub {m:Mp} {id sz lo len n c c':Nat} {a a':Option Addr} (h:m id=.slice a n c) (hc:c'=c-lo) (hl:lo+len<=n) (hn:n<=c) (ha:n=0\/∃b,a=some ⟨b,0,none⟩) (h0:lo<c->a'=a.map (·.add (lo*sz))) (h1:lo=0->a'=a) :
   RepC S w m (.osub id sz lo len n) (.slice a' len c')
 |clo {m:Mp} {fn:Fn} {a b:Nat->C} (xs ys:Array Value) (ha:∀i,i<xs.size->RepC S w m (a i) (xs.getD i undef)) (hb:∀i,i<ys.size->RepC S w m (b i) (ys.getD i undef)) :
   RepC S w m (.clo fn xs.size ys.size a b) (.func fn xs ys)
 |ifc {m:Mp} {t:TypeId} {c:C} {x:Value} (h:RepC S w m c x):RepC S w m (.ifc t c) (.iface t x)
 |ifa {m:Mp} {t:TypeId} {c:Nat->C} (xs:Array Value) (h1:∀x∈xs.toList,x.oneCell'=true) (h:∀i,i<xs.size->RepC S w m (c i) (xs.getD i undef)):RepC S w m (.ifa t xs.size c) (.iface t (.agg xs))
 |agv {m:Mp} {c:Nat->C} (xs:Array Value) (h1:∀x∈xs.toList,x.oneCell'=true) (h:∀i,i<xs.size->RepC S w m (c i) (xs.getD i undef)):RepC S w m (.agv xs.size c) (.agg xs)
 |mp {m:Mp} {id b:Nat} (h:m id=.map (some b)):RepC S w m (.mp id) (.map (some b))
 |lsl {m:Mp} {sz len:Nat} {cell:Nat->Nat->C} {a:Option Addr} {cap:Nat} (b off:Nat) (vals:Nat->Nat->Value) (hcap:len<=cap) (ha:0<len->a=some ⟨b,off,none⟩/\m.L b)
   (hc:∀i j,i<len->j<sz->w.cell? ⟨b,off+i*sz+j,none⟩=some (vals i j)) (h1:∀i j,i<len->j<sz->(vals i j).oneCell'=true)
   (hr:∀i j,i<len->j<sz->RepC S w ZcK (cell i j) (vals i j)):RepC S w m (.lsl sz len cell) (.slice a len cap)
 |lrp {m:Mp} {n:Nat} {cell:Nat->C} (b off:Nat) (vals:Nat->Value) (ha:m.L b) (hc:∀j,j<n->w.cell? ⟨b,off+j,none⟩=some (vals j)) (h1:∀j,j<n->(vals j).oneCell'=true)
   (hr:∀j,j<n->RepC S w ZcK (cell j) (vals j)):RepC S w m (.lrp n cell) (.pointer (some ⟨b,off,none⟩))
 |junk {m:Mp} {x:Value}:RepC S w m .junk x
def RepL(S:Nat->Prop)(w:World)(m:Mp)(l:List C)(xs:List Value):Prop:=xs.length=l.length/\(∀(j:Nat)(c:C),l[j]?=some c->∃x,xs[j]?=some x/\RepC S w m c x)/\∀x∈xs,x.oneCell'=true
def RepV(S:Nat->Prop)(w:World)(m:Mp):V->Value->Prop
 | .one c,x=>RepC S w m c x
 | .agg l,x=>∃xs,x=.agg xs/\RepL S w m l xs.toList
 | .tup l,x=>∃xs,x=.tuple xs/\xs.size=l.length/\∀(j:Nat)(p:Bool×List C),l[j]?=some p->∃y,xs[j]?=some y /\
   match p with
   | (true,cs)=>∃ys,y=.agg ys/\RepL S w m cs ys.toList
   | (false,[c])=>RepC S w m c y
   |_=>True
def Zgs(S:Nat->Prop)(w w':World):Prop:=∀b,S b->w'.heap[b]?=w.heap[b]?
theorem Zgs.cell{S:Nat->Prop}{w w':World}(h:Zgs S w w'){b o:Nat}(hb:S b):w'.cell? ⟨b,o,none⟩=w.cell? ⟨b,o,none⟩:=World.cell?_of_block (h b hb)
theorem Zgs.none{w w':World}:Zgs ZcK.L w w':=fun _ h=>h.elim
theorem RepC.keepL{S S':Nat->Prop}{w w':World}{m:Mp}{c:C}{x:Value}(h:RepC S w m c x)(hw:Zgs S w w')(hS:∀b,S b->S' b):Zgs m.L w w'->RepC S' w' m c x:=by
 induction h with
 |lit=>exact fun _=>.lit
 |sl b off vals hcap ha hc h1 hr ih=>
  refine fun _=>.sl b off vals hcap (fun hl=>⟨(ha hl).1,hS _ (ha hl).2⟩) (fun i j hi hj=>?_) h1 (fun i j hi hj=>ih i j hi hj Zgs.none);rw[hw.cell (ha (by omega)).2];exact hc i j hi hj
 |rpn=>exact fun _=>.rpn
 |rp b off vals ha hc h1 hr ih=>
  refine fun _=>.rp b off vals (hS _ ha) (fun j hj=>?_) h1 (fun j hj=>ih j hj Zgs.none);rw[hw.cell ha];exact hc j hj
 |ptr h=>exact fun _=>.ptr h
 |osl h h0 hle=>exact fun _=>.osl h h0 hle
 |eptr h=>exact fun _=>.eptr h
 |osub h hc hl hn ha h0 h1=>exact fun _=>.osub h hc hl hn ha h0 h1
 |clo xs ys ha hb iha ihb=>exact fun hL=>.clo xs ys (fun i hi=>iha i hi hL) (fun i hi=>ihb i hi hL)
 |ifc h ih=>exact fun hL=>.ifc (ih hL)
 |ifa xs h1 h ih=>exact fun hL=>.ifa xs h1 (fun i hi=>ih i hi hL)
 |agv xs h1 h ih=>exact fun hL=>.agv xs h1 (fun i hi=>ih i hi hL)
 |mp h=>exact fun _=>.mp h
 |lsl b off vals hcap ha hc h1 hr ih=>
  refine fun hL=>.lsl b off vals hcap ha (fun i j hi hj=>?_) h1 (fun i j hi hj=>ih i j hi hj Zgs.none);rw[hL.cell (ha (by omega)).2];exact hc i j hi hj
 |lrp b off vals ha hc h1 hr ih=>
  refine fun hL=>.lrp b off vals ha (fun j hj=>?_) h1 (fun j hj=>ih j hj Zgs.none);rw[hL.cell ha];exact hc j hj
 |junk=>exact fun _=>.junk
theorem RepC.keep{S S':Nat->Prop}{w w':World}{c:C}{x:Value}(h:RepC S w ZcK c x)(hw:Zgs S w w')(hS:∀b,S b->S' b):RepC S' w' ZcK c x:=h.keepL hw hS Zgs.none
theorem RepC.other{S:Nat->Prop}{w:World}{m:Mp}{c:C}{x:Value}(h:RepC S w m c x)(m':Mp)(id:Nat)(hm:∀k,k≠id->m' k=m k)(hL:m'.L=m.L):c.says id=false->RepC S w m' c x:=by
 induction h with
 |lit=>exact fun _=>.lit
 |sl b off vals hcap ha hc h1 hr ih=>exact fun _=>.sl b off vals hcap ha hc h1 hr
 |rpn=>exact fun _=>.rpn
 |rp b off vals ha hc h1 hr ih=>exact fun _=>.rp b off vals ha hc h1 hr
 |ptr h=>exact fun hs=>.ptr (by rw[hm _ (Nat.ne_of_beq_eq_false hs)];exact h)
 |osl h h0 hle=>exact fun hs=>.osl (by rw[hm _ (Nat.ne_of_beq_eq_false hs)];exact h) h0 hle
 |eptr h=>exact fun hs=>.eptr (by rw[hm _ (Nat.ne_of_beq_eq_false hs)];exact h)
 |osub h hc hl hn ha h0 h1=>exact fun hs=>.osub (by rw[hm _ (Nat.ne_of_beq_eq_false hs)];exact h) hc hl hn ha h0 h1
 |clo xs ys ha hb iha ihb=>
  intro hs;simp only[C.says,Bool.or_eq_false_iff,List.any_eq_false,List.mem_range,Bool.not_eq_true]at hs;exact .clo xs ys (fun i hi=>iha i hi hm hL (hs.1 i hi)) (fun i hi=>ihb i hi hm hL (hs.2 i hi))
 |ifc h ih=>exact fun hs=>.ifc (ih hm hL hs)
 |ifa xs h1 h ih=>
  intro hs;simp only[C.says,List.any_eq_false,List.mem_range,Bool.not_eq_true]at hs;exact .ifa xs h1 (fun i hi=>ih i hi hm hL (hs i hi))
 |agv xs h1 h ih=>
  intro hs;simp only[C.says,List.any_eq_false,List.mem_range,Bool.not_eq_true]at hs;exact .agv xs h1 (fun i hi=>ih i hi hm hL (hs i hi))
 |mp h=>exact fun hs=>.mp (by rw[hm _ (Nat.ne_of_beq_eq_false hs)];exact h)
 |lsl b off vals hcap ha hc h1 hr ih=>exact fun _=>.lsl b off vals hcap (fun hl=>⟨(ha hl).1,by rw[hL];exact(ha hl).2⟩) hc h1 hr
 |lrp b off vals ha hc h1 hr ih=>exact fun _=>.lrp b off vals (by rw[hL];exact ha) hc h1 hr
 |junk=>exact fun _=>.junk
theorem RepL.keepL{S S':Nat->Prop}{w w':World}{m:Mp}{l:List C}{xs:List Value}(h:RepL S w m l xs)(hw:Zgs S w w')(hS:∀b,S b->S' b)(hL:Zgs m.L w w'):RepL S' w' m l xs:=
 ⟨h.1,fun j c hc=>by obtain⟨x,h1,h2⟩:=h.2.1 j c hc;exact⟨x,h1,h2.keepL hw hS hL⟩,h.2.2⟩
theorem RepL.other{S:Nat->Prop}{w:World}{m:Mp}{l:List C}{xs:List Value}(h:RepL S w m l xs)(m':Mp)(id:Nat)(hm:∀k,k≠id->m' k=m k)(hL:m'.L=m.L)(hs:l.any (C.says id)=false):RepL S w m' l xs:=by
 refine⟨h.1,fun j c hc=>?_,h.2.2⟩;obtain⟨x,h1,h2⟩:=h.2.1 j c hc;refine⟨x,h1,h2.other m' id hm hL ?_⟩;have:=List.any_eq_false.1 hs c (List.mem_of_getElem? hc);simpa using this
theorem RepV.keepL{S S':Nat->Prop}{w w':World}{m:Mp}{v:V}{x:Value}(h:RepV S w m v x)(hw:Zgs S w w')(hS:∀b,S b->S' b)(hL:Zgs m.L w w'):RepV S' w' m v x:=by
 cases v with
 |one c=>exact RepC.keepL h hw hS hL
 |agg l=>obtain⟨xs,h1,h2⟩:=h;exact⟨xs,h1,h2.keepL hw hS hL⟩
 |tup l=>
  obtain⟨xs,h1,h2,h3⟩:=h;refine⟨xs,h1,h2,fun j p hp=>?_⟩;obtain⟨y,h4,h5⟩:=h3 j p hp;refine⟨y,h4,?_⟩;obtain⟨b,cs⟩:=p
  match b,cs,h5 with
  |true,cs,h5=>obtain⟨ys,h6,h7⟩:=h5;exact⟨ys,h6,h7.keepL hw hS hL⟩
  |false,[c],h5=>exact RepC.keepL h5 hw hS hL
  |false,[],_=>trivial
  |false,_ :: _ :: _,_=>trivial
theorem RepV.keep{S S':Nat->Prop}{w w':World}{v:V}{x:Value}(h:RepV S w ZcK v x)(hw:Zgs S w w')(hS:∀b,S b->S' b):RepV S' w' ZcK v x:=h.keepL hw hS Zgs.none
theorem RepV.other{S:Nat->Prop}{w:World}{m:Mp}{v:V}{x:Value}(h:RepV S w m v x)(m':Mp)(id:Nat)(hm:∀k,k≠id->m' k=m k)(hL:m'.L=m.L)(hs:v.says id=false):RepV S w m' v x:=by
 cases v with
 |one c=>exact RepC.other h m' id hm hL hs
 |agg l=>obtain⟨xs,h1,h2⟩:=h;exact⟨xs,h1,h2.other m' id hm hL hs⟩
 |tup l=>
  obtain⟨xs,h1,h2,h3⟩:=h;refine⟨xs,h1,h2,fun j p hp=>?_⟩;obtain⟨y,h4,h5⟩:=h3 j p hp;have hq:=List.any_eq_false.1 hs p (List.mem_of_getElem? hp);refine⟨y,h4,?_⟩;obtain⟨b,cs⟩:=p
  match b,cs,h5,hq with
  |true,cs,h5,hq=>obtain⟨ys,h6,h7⟩:=h5;exact⟨ys,h6,h7.other m' id hm hL (by simpa using hq)⟩
  |false,[c],h5,hq=>exact RepC.other h5 m' id hm hL (by simpa using hq)
  |false,[],_,_=>trivial
  |false,_ :: _ :: _,_,_=>trivial
def blk:Value->Option Nat | .pointer (some a)=>some a.block | .slice (some a) _ _=>some a.block | .map (some b)=>some b|_=>none
structure RepE (S:Nat->Prop) (w:World) (l:List (Value×V)) (es:List MapEntry) (am:Nat):Prop where
 len:es.length=l.length
 at_:∀(j:Nat)(p:Value×V)(e:MapEntry),l[j]?=some p->es[j]?=some e->e.key=p.1/\e.born<am/\RepV S w ZcK p.2 e.val
 keys:(l.map (·.1)).Nodup
 born:(es.map (·.born)).Nodup
theorem RepE.keep{S S':Nat->Prop}{w w':World}{l:List (Value×V)}{es:List MapEntry}{c:Nat}(h:RepE S w l es c)(hw:Zgs S w w')(hS:∀b,S b->S' b):RepE S' w' l es c:=
 ⟨h.len,fun j p e h1 h2=>by obtain⟨q1,q2,q3⟩:=h.at_ j p e h1 h2;exact⟨q1,q2,q3.keep hw hS⟩,h.keys,h.born⟩
def ZCx(kt:TypeId)(es:List MapEntry)(am:Nat):Prop:=Nat.blt kt 1000000=true->am=es.length/\∀(j:Nat)(e:MapEntry),es[j]?=some e->e.born=j
def RepB(S:Nat->Prop)(w:World)(m:Mp)(mb:Value):B->Prop | .box l=>∃b a8 t,mb=.pointer (some ⟨b,0,none⟩)/\w.heap[b]?=some (.cells a8 t (0,0))/\RepL S w m l a8.toList | .rows e sz len c=>∃xs,w.ownsRow 0 e sz mb len xs/\(∀i j,i<len->j<sz->∃x,xs[i*sz+j]?=some x/\RepC S w ZcK (c i j) x)/\∀x∈xs,x.oneCell'=true | .map kt l=>∃b es am,mb=.map (some b)/\w.heap[b]?=some (.map es am)/\RepE S w l es.toList am/\ZCx kt es.toList am | .hole e len c k x=>∃xs,w.ownsRow 0 e 1 mb len xs/\(∀i,i<len->∃y,xs[i]?=some y/\(i≠k->RepC S w ZcK (c i) y)/\(i=k->RepC S w m x y))/\∀y∈xs,y.oneCell'=true
structure Keep where
 no:Nat->Prop
 pin:Mp
structure ZeC where
 w:World
 F:Keep
def Zpq:Nat:=100000
structure Sim (N:Nat) (F:Keep) (S:Nat->Prop) (m:Mp) (st:St) (a:Act) (w:World):Prop where
 size:a.tmps.size=N
 env:∀t,RepV S w m (st.get t) (a.tmps.getD t undef)
 far:∀t,N<=t->st.get t=.one .junk
 heap:∀id b,hget st.heap id=some b->RepB S w m (m id) b
 own:∀id b,hget st.heap id=some b->∀k,blk (m id)=some k->¬S k/\¬F.no k/\k<w.heap.size
 inj:∀id id' b b',id≠id'->hget st.heap id=some b->hget st.heap id'=some b'->∀k,blk (m id)=some k->blk (m id')≠some k
 dom:∀b,S b->b<w.heap.size
 defers:a.defers=[]
 base_le:∀k,F.no k->k<w.heap.size
 pin:∀id,Zpq<=id->m id=F.pin id
 len:m.L=F.pin.L/\∀b,m.L b->F.no b
def upd(m:Mp)(id:Nat)(x:Value):Mp:=⟨fun k=>if k=id then x else m k,m.L⟩
theorem ZfL(m:Mp)(id:Nat)(x:Value):upd m id x id=x:=if_pos rfl
theorem Zlf(m:Mp)(id:Nat)(x:Value):∀k,k≠id->upd m id x k=m k:=fun _ h=>if_neg h
def St.put(st:St)(d:Nat)(v:V):St:={ st with env:=(d,v) :: st.env }
theorem St.get_put(st:St)(d t:Nat)(v:V):(st.put d v).get t=if d=t then v else st.get t:=Zrp _ _ _ _ _
theorem Sim.put{N:Nat}{F:Keep}{S:Nat->Prop}{m:Mp}{st:St}{a:Act}{w:World}(h:Sim N F S m st a w){d:Nat}{v:V}{x:Value}(hv:RepV S w m v x)(hd:d<N) :
  Sim N F S m (st.put d v) (a.put (some d) x) w:=by
 refine⟨by simp[Act.put,h.size],fun t=>?_,fun t ht=>by rw[St.get_put,if_neg (by omega)];exact h.far t ht,h.heap,h.own,h.inj,h.dom,h.defers,h.base_le,h.pin,h.len⟩;rw[St.get_put];have hs:=h.size;by_cases ht:d=t
 .subst ht;simp only[if_true,Act.put,Array.getD_eq_getD_getElem?];rw[Array.getElem?_setIfInBounds_self_of_lt (by omega)];exact hv
 .simp only[if_neg ht,Act.put,Array.getD_eq_getD_getElem?];rw[Array.getElem?_setIfInBounds_ne ht];have:=h.env t;simpa[Array.getD_eq_getD_getElem?]using this
end Go.Proofs.YtnigiacmmedkhaaGreat
