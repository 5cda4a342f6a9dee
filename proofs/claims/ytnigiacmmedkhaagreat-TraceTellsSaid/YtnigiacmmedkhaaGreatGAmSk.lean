import Derived.Test.YtnigiacmmedkhaaGreatGAmU
namespace Go.Proofs.YtnigiacmmedkhaaGreat
open Go.RowKit
set_option linter.unusedVariables false
inductive Ev where
 |c (p:Prop) (v:V)
 |h (p:Prop) (h1:List (Nat×B)) (v:V)
 |b (x v:Bool)
 |f (p:Prop)
 |x (k:Nat) (ra:RA)
@[reducible] def Ev.one:Ev->Prop
 | .c q _=>q
 | .h q _ _=>q
 | .b y z=>y=z
 | .f q=>q
 | .x _ _=>True
def ZlA:List Ev->List Prop->List Prop | [],l=>l | .c p _ :: r,l=>ZlA r (p :: l) | .h p _ _ :: r,l=>ZlA r (p :: l) | .b x v :: r,l=>ZlA r ((x=v) :: l) | .f p :: r,l=>ZlA r (p :: l) | .x _ _ :: r,l=>ZlA r l
def ZxC:List Ev->List Ev->List Ev | [],l=>l | .x _ _ :: r,l=>ZxC r l|e :: r,l=>ZxC r (e :: l)
def raAdd(a b:RA):RA:=⟨a.an++b.an,a.bl++b.bl,a.fz++b.fz,a.ct++b.ct,a.dn++b.dn,a.rl++b.rl,a.hc++b.hc⟩
def xAt(k:Nat):List Ev->RA
 | []=>rz
 | .x j ra :: r=>match Nat.beq j k with
  |true=>raAdd (xAt k r) ra
  |false=>xAt k r
 |_ :: r=>xAt k r
def popC:List Ev->Option (Ev×List Ev) | .c p v :: r=>some (.c p v,r) | .h p h1 v :: r=>some (.h p h1 v,r) | .f _ :: r=>popC r|_=>none
def popB:List Ev->Option (Bool×List Ev) | .b _ v :: r=>some (v,r) | .f _ :: r=>popB r|_=>none
def ZPw(o:Oper):Bool:=match o.op with
 | .call { callee:=.value _,.. }=>true
 |_=>false
def ZEC(i:Nat):List Oper->Bool
 | []=>false
 |o :: r=>match o.guard with
  |some (j,_)=>match Nat.beq j i with
   |true=>true
   |false=>ZEC i r
  |none=>ZEC i r
def skips(bl:List (Nat×Bool))(sk:List Nat)(o:Oper):Bool:=match o.guard with
 |none=>false
 |some (j,w)=>match memN j sk with
  |true=>true
  |false=>match Zcw bl j,w with
   |some true,false=>true
   |some false,true=>true
   |_,_=>false
def ZCl(x:RA):Nat->List Oper->List Ev->List (Nat×Ans)->List (Nat×Bool)->List (Nat×HA)->List Nat->RA×List Ev
 |_,[],ev,an,bl,hc,_=>(⟨x.an++an,x.bl++bl,x.fz,x.ct,x.dn,x.rl,hc++x.hc⟩,ev)
 |i,o :: r,ev,an,bl,hc,sk=>match skips bl sk o with
  |true=>ZCl x (i+1) r ev an bl hc (i :: sk)
  |false=>match (match ZPw o with
    |true=>match popC ev with
     |some (.c _ v,ev')=>((i,.r v []) :: an,hc,ev')
     |some (.h _ h1 v,ev')=>match Zcw x.hc i with
      |some ha=>(an,(i,⟨ha.lend,ha.new,h1,v⟩) :: hc,ev')
      |none=>(an,hc,ev')
     |_=>(an,hc,ev)
    |false=>(an,hc,ev))with
   | (an',hc',ev')=>match ZEC i r with
    |true=>match popB ev' with
     |some (b,ev2)=>ZCl x (i+1) r ev2 an' ((i,b) :: bl) hc' sk
     |none=>ZCl x (i+1) r ev' an' bl hc' sk
    |false=>ZCl x (i+1) r ev' an' bl hc' sk
def ZPX(ZaL:List It)(k:Nat)(ev all:List Ev):List RA×List Bool×Nat×List Ev:=match ZaL with
 | .code (.region _ ops _) :: _=>match ZCl (xAt k all) 0 ops.toList ev [] [] [] []with
  | (ra,ev')=>([ra],[],k+1,ev')
 | .code (.cond _ _ _) :: _=>match popB ev with
  |some (b,ev')=>([],[b],k,ev')
  |none=>([],[],k,ev)
 |_=>([],[],k,ev)
def ZLa:List It->Bool | []=>true | .code .ret :: _=>true|_=>false
def runA(P:Program)(N:Nat)(T:Tab)(all:List Ev):Nat->Nat->List It->St->List Ev->Option (List It×St×List Prop)
 | 0,_,ZaL,st,_=>some (ZaL,st,[])
 |n+1,k,ZaL,st,ev=>match ZLa ZaL with
  |true=>some (ZaL,st,[])
  |false=>match ZPX ZaL k ev all with
   | (ras,bs,k',ev')=>match ZLE P N T ZaL st ras bs with
    |none=>none
    |some (it1,st1,_,_,o1)=>match runA P N T all n k' it1 st1 ev' with
     |none=>none
     |some (it2,st2,o2)=>some (it2,st2,o1++o2)
class Tb (P:Program) (T:outParam Tab):Prop where
 ok:Zyf P T
structure Zw where
 S:Nat->Prop
 w:ZeC
def Chk(P:Program)(N:Nat)(z:Zw){R:Type}(Q:R->Exit->Act->World->Prop)(ZaL:List It)(st:St)(acc:List Ev)(o:Option R):Prop:=Zqr (ZlA acc [])->∀r,o=some r->Good P N z.S z.w (Q r) ZaL st
class Con {ρ:Type} (o:Option ρ) (ev:outParam (ρ->Ev)):Prop where
 ok:∀{x},o=some x->(ev x).one
class ConH {ρ:Type} (o:Option ρ) (ev:outParam (ρ->Ev)):Prop where
 ok:∀{x},o=some x->(ev x).one
theorem ZjD:∀(acc:List Ev)(l:List Prop),Zqr (ZlA acc l)↔Zqr (ZlA acc [])/\Zqr l
 | [],l=>by simp[ZlA,Zqr]
 | .c p v :: r,l=>by simp only[ZlA];rw[ZjD r,ZjD r [p]];simp only[Zqr];constructor<;>intro h<;>simp_all
 | .h p h1 v :: r,l=>by simp only[ZlA];rw[ZjD r,ZjD r [p]];simp only[Zqr];constructor<;>intro h<;>simp_all
 | .b x v :: r,l=>by simp only[ZlA];rw[ZjD r,ZjD r [x=v]];simp only[Zqr];constructor<;>intro h<;>simp_all
 | .f p :: r,l=>by simp only[ZlA];rw[ZjD r,ZjD r [p]];simp only[Zqr];constructor<;>intro h<;>simp_all
 | .x k ra :: r,l=>by simp only[ZlA];exact ZjD r l
theorem Zdb{acc:List Ev}{e:Ev}(h:Zqr (ZlA acc []))(he:e.one):Zqr (ZlA (e :: acc) []):=by
 cases e<;>simp only[ZlA]<;>simp only[Ev.one]at he<;>first|exact h | (rw[ZjD];exact⟨h,he,trivial⟩)
section
variable {P:Program} {N:Nat} {z:Zw} {R:Type} {Q:R->Exit->Act->World->Prop} {ZaL:List It} {st:St} {acc:List Ev}
theorem kC{ρ:Type}{o:Option ρ}{k:ρ->Option R}{ev:ρ->Ev}[q:Con o ev](h:∀x,Chk P N z Q ZaL st (ev x :: acc) (k x)):Chk P N z Q ZaL st acc (o.bind k):=fun ha r hr=>by
 obtain⟨x,h1,h2⟩:=Zbj hr
 exact h x (Zdb ha (q.ok h1)) r h2
theorem kC1{ρ:Type}{o:Option ρ}{k:ρ->Option R}{ev:ρ->Ev}[q:Con o ev](h:∀{x},Chk P N z Q ZaL st (ev x :: acc) (k x)):Chk P N z Q ZaL st acc (o.bind k):=kC fun _=>h
theorem kCq{ρ:Type}{o:Option ρ}{k:ρ->Option R}{ev:ρ->Ev}[q:Con o ev](h:∀x,o=some x->Chk P N z Q ZaL st (ev x :: acc) (k x)):Chk P N z Q ZaL st acc (o.bind k):=fun ha r hr=>by
 obtain⟨x,h1,h2⟩:=Zbj hr
 exact h x h1 (Zdb ha (q.ok h1)) r h2
theorem kDq{ρ:Type}{o:Option ρ}{k:ρ->Option R}{ev:ρ->Ev}[q:ConH o ev](n i:Nat)(lend new:List (Nat×Nat))(h:∀x,o=some x->Chk P N z Q ZaL st (.x n ⟨[],[],[],[],[],[],[(i,⟨lend,new,[],.one .junk⟩)]⟩ :: ev x :: acc) (k x)):Chk P N z Q ZaL st acc (o.bind k):=fun ha r hr=>by
 obtain⟨x,h1,h2⟩:=Zbj hr
 exact h x h1 (Zdb (e:=.x _ _) (Zdb ha (q.ok h1)) trivial) r h2
theorem kD{ρ:Type}{o:Option ρ}{k:ρ->Option R}{ev:ρ->Ev}[q:ConH o ev](n i:Nat)(lend new:List (Nat×Nat))(h:∀x,Chk P N z Q ZaL st (.x n ⟨[],[],[],[],[],[],[(i,⟨lend,new,[],.one .junk⟩)]⟩ :: ev x :: acc) (k x)):Chk P N z Q ZaL st acc (o.bind k):=kDq n i lend new fun x _=>h x
theorem kE{ρ:Type}{o:Option ρ}{k:ρ->Option R}(h:∀x,o=some x->Chk P N z Q ZaL st acc (k x)):Chk P N z Q ZaL st acc (o.bind k):=fun ha r hr=>by
 obtain⟨x,h1,h2⟩:=Zbj hr
 exact h x h1 ha r h2
theorem kB{c:Bool}{a b:Option R}(h1:Chk P N z Q ZaL st (.b c true :: acc) a)(h2:Chk P N z Q ZaL st (.b c false :: acc) b):Chk P N z Q ZaL st acc (bif c then a else b):=fun ha r hr=>by
 rcases ZpK hr with⟨h,hr⟩|⟨h,hr⟩
 .exact h1 (Zdb (e:=.b _ _) ha h) r hr
 .exact h2 (Zdb (e:=.b _ _) ha h) r hr
theorem kN{p:Prop}[Decidable p]{k:Option R}(h:Chk P N z Q ZaL st (.f p :: acc) k):Chk P N z Q ZaL st acc (need p k):=fun ha r hr=>by
 obtain⟨h1,hr⟩:=Zkn hr
 exact h (Zdb (e:=.f _) ha h1) r hr
theorem kNq{p:Prop}[Decidable p]{k:Option R}(h:p->Chk P N z Q ZaL st (.f p :: acc) k):Chk P N z Q ZaL st acc (need p k):=fun ha r hr=>by
 obtain⟨h1,hr⟩:=Zkn hr
 exact h h1 (Zdb (e:=.f _) ha h1) r hr
theorem kNm{p:Prop}[Decidable p]{k:Option R}(h:p->Chk P N z Q ZaL st acc k):Chk P N z Q ZaL st acc (need p k):=fun ha r hr=>by
 obtain⟨h1,hr⟩:=Zkn hr
 exact h h1 ha r hr
theorem kQ{o:Option R}(n i:Nat){f:Sem Value}{v:Bool}(hp:∀w,f.run P w=.ok (.bool v) w)(h:Chk P N z Q ZaL st (.x n (rA [(i,aB v)]) :: .f (∀w,f.run P w=.ok (.bool v) w) :: acc) o):Chk P N z Q ZaL st acc o:=fun ha r hr=>h (Zdb (e:=.x _ _) (Zdb (e:=.f _) ha hp) trivial) r hr
theorem kH{o:Option R}{p:Prop}(hp:p)(h:Chk P N z Q ZaL st (.f p :: acc) o):Chk P N z Q ZaL st acc o:=fun ha r hr=>h (Zdb (e:=.f _) ha hp) r hr
theorem kI1{o:Option R}(a:Int)(n:Nat)(h:Chk P N z Q ZaL st (.f (0<=a/\a<(n:Int))::acc) o)(q:0<=a/\a<(n:Int):=by decide):Chk P N z Q ZaL st acc o:=kH q h
theorem kN1{a:Int}{n:Nat}{k:Option R}(h:Chk P N z Q ZaL st (.f (a.toNat<n)::.f (0<=a/\a<(n:Int))::acc) k):Chk P N z Q ZaL st acc (need (0<=a/\a<(n:Int)) k):=kNq fun q=>kH (by omega) h
theorem kT{o:Option R}{p:Prop}(v:V)(hp:p)(h:Chk P N z Q ZaL st (.c p v :: acc) o):Chk P N z Q ZaL st acc o:=fun ha r hr=>h (Zdb (e:=.c p v) ha hp) r hr
theorem kJ{ρ:Type}{o:Option R}{o':Option ρ}{ev:ρ->Ev}[q:Con o' ev]{x:ρ}(hp:o'=some x)(h:Chk P N z Q ZaL st (ev x :: acc) o):Chk P N z Q ZaL st acc o:=fun ha r hr=>h (Zdb ha (q.ok hp)) r hr
theorem kK{o:Option R}(b:Bool)(h:Chk P N z Q ZaL st (.b b b :: acc) o):Chk P N z Q ZaL st acc o:=fun ha r hr=>h (Zdb (e:=.b b b) ha rfl) r hr
theorem kX{o:Option R}(k:Nat)(ra:RA)(h:Chk P N z Q ZaL st (.x k ra :: acc) o):Chk P N z Q ZaL st acc o:=fun ha r hr=>h (Zdb (e:=.x k ra) ha trivial) r hr
structure Ec (α:Type) where
 sz:Nat
 e:α->List C
 d:α
def Ec.c{α:Type}(E:Ec α)(l:List α):C:=cL E.sz E.e E.d l
def Ec.cs{α:Type}(E:Ec α)(l:List α):List C:=[cL E.sz E.e E.d l]
def Ec.v{α:Type}(E:Ec α)(l:List α):V:=.one (cL E.sz E.e E.d l)
def Ec.r{α:Type}(E:Ec α)(t:Nat)(l:List α):B:=.rows t E.sz l.length (Zax E.e E.d l)
def eI(k:IntKind):Ec Int:=⟨1,cI k,0⟩
def eB:Ec Bool:=⟨1,cB,false⟩
theorem kW{o:Option R}{α:Type}(k i:Nat)(E:Ec α)(l:List α)(ix:Nat)(x:α)(hx:ix<l.length)(h:Chk P N z Q ZaL st (.x k (rA [(i,.c (l.set ix x).length (Zax E.e E.d (l.set ix x)))]) :: .f (ExtU E.sz l.length (Zax E.e E.d l) ix 0 (E.e x) (Zax E.e E.d (l.set ix x))) :: .f (ix<l.length) :: .f ((l.set ix x).length=l.length) :: acc) o)
  (he:(E.e x).length=E.sz:=by exact rfl):Chk P N z Q ZaL st acc o:=fun ha r hr=>
 h (Zdb (e:=.x _ _) (Zdb (e:=.f _) (Zdb (e:=.f _) (Zdb (e:=.f _) ha List.length_set) hx) (ZDX l ix x he)) trivial) r hr
theorem kM{o:Option R}{α:Type}(k i:Nat)(E:Ec α)(l:List α)(h:Chk P N z Q ZaL st (.x k ⟨[],[],[],[],[],[(i,(l.length,Zax E.e E.d l))],[]⟩ :: .f (l.length=l.length/\∀i j,i<l.length->j<E.sz->Zax E.e E.d l i j=(l.flatMap E.e).getD (i*E.sz+j) .junk) :: acc) o)
  (he:∀x,(E.e x).length=E.sz:=by exact fun _=>rfl):Chk P N z Q ZaL st acc o:=fun ha r hr=>
 h (Zdb (e:=.x _ _) (Zdb (e:=.f _) ha ⟨rfl,Zbr he l⟩) trivial) r hr
theorem kA{α:Type}{l m:List α}{b q:Nat}[Decidable ((l++m).length*b<=q/\(l++m).length<=maxLen)]{t:Option R}(k i:Nat)(E:Ec α)(h:Chk P N z Q ZaL st (.x k (rA [(i,.c (l++m).length (Zax E.e E.d (l++m)))]) :: .f ((l++m).length<=maxLen) :: .f ((l++m).length*b<=q) :: .f (Ext E.sz l.length m.length (Zax E.e E.d l) (Zax E.e E.d m) (l++m).length (Zax E.e E.d (l++m))) :: acc) t) :
  Chk P N z Q ZaL st acc (need ((l++m).length*b<=q/\(l++m).length<=maxLen) t):=fun ha r hr=>by
 obtain⟨h1,hr⟩:=Zkn hr
 exact h (Zdb (e:=.x _ _) (Zdb (e:=.f _) (Zdb (e:=.f _) (Zdb (e:=.f _) ha (ZPn l m)) h1.1) h1.2) trivial) r hr
theorem kZ:Chk P N z Q ZaL st acc none:=fun _ _ h=>by cases h
theorem Zrb{S0:Nat->Prop}{w0:ZeC}{T:Tab}{Q:Exit->Act->World->Prop}(hT:Zyf P T)(hE:Ends Q){all:List Ev}:∀{n k:Nat}{ZaL bT:List It}{st st':St}{ev:List Ev}{obl:List Prop},runA P N T all n k ZaL st ev=some (bT,st',obl)->(∀q∈obl,q)->Good P N S0 w0 Q bT st'->Good P N S0 w0 Q ZaL st
 | 0,k,ZaL,bT,st,st',ev,obl,h,ho,hk=>by cases h;exact hk
 |n+1,k,ZaL,bT,st,st',ev,obl,h,ho,hk=>by
  simp only[runA]at h
  split at h
  .cases h;exact hk
  generalize ZPX ZaL k ev all=z at h
  obtain⟨ras,bs,k',ev'⟩:=z
  simp only at h
  split at h
  .cases h
  rename_i it1 st1 ras1 bs1 o1 h1
  split at h
  .cases h
  rename_i it2 st2 o2 h2
  cases h
  exact Zvl hT hE h1 (fun q hq=>ho q (List.mem_append.2 (.inl hq))) (Zrb hT hE h2 (fun q hq=>ho q (List.mem_append.2 (.inr hq))) hk)
end
def qS{R:Type}(P:Program)(fn:Func)(z:Zw)(vr:R->V):R->Exit->Act->World->Prop:=fun r=>bodyPost P fn (Post z.S z.w (vr r))
def qH{R:Type}(P:Program)(fn:Func)(z:Zw)(h1:R->List (Nat×B))(vr:R->V):R->Exit->Act->World->Prop:=fun r=>bodyPost P fn (ZER z.S z.w (h1 r) (vr r))
def finS(N:Nat)(T:Tab)(r:Option (List It×St×List Prop))(fz:List Nat)(dh dn:List (Nat×List (Nat×C)))(rs:List ResultVar):Option (V×List Prop):=match r with
 |some (it,st1,obl)=>match ZLa it,tidy N fz dh dn st1 with
  |true,some st2=>match ZBF T st2 rs with
   |some v=>match v.pure with
    |true=>some (v,obl)
    |false=>none
   |none=>none
  |_,_=>none
 |none=>none
def outH(st:St):Option (List Nat)->Option (List (Nat×B))|some l=>ZJp st l|none=>some st.heap
theorem ZMt{st:St}{l:Option (List Nat)}{h:List (Nat×B)}(e:outH st l=some h)(id:Nat)(b:B)(hb:hget h id=some b):hget st.heap id=some b:=by
 cases l with
 |none=>cases e;exact hb
 |some l=>exact Zsi st e id b hb
def finH(N:Nat)(T:Tab)(r:Option (List It×St×List Prop))(na:NA)(gX:Option (List Nat))(rs:List ResultVar):Option (V×List (Nat×B)×List Prop):=match r with
 |some (it,st1,obl)=>match ZLa it,norm N na st1 with
  |true,some (st2,o2)=>match ZBF T st2 rs,outH st2 gX with
   |some v,some h=>some (v,h,obl++o2)
   |_,_=>none
  |_,_=>none
 |none=>none
def finK(N:Nat)(r:Option (List It×St×List Prop))(na:NA):Option (List It×St×List Prop):=match r with
 |some (it,st1,obl)=>match norm N na st1 with
  |some (st2,o2)=>some (it,st2,obl++o2)
  |none=>none
 |none=>none
theorem ZFW{P:Program}{N:Nat}{S0:Nat->Prop}{w0:ZeC}{fn:Func}{E:Ending->World->Prop}{it:List It}{st:St}(he:ZLa it=true)(h:∀a w,ZcI N S0 w0 st a w->bodyPost P fn E .normal a w/\bodyPost P fn E .ret a w):Good P N S0 w0 (bodyPost P fn E) it st:=by
 unfold ZLa at he;split at he
 .exact fun a w hs=>(h a w hs).1
 .exact fun a w hs=>wp_ret (ZpJ (h a w hs).2 _)
 .cases he
section
variable {P:Program} {z:Zw} {R:Type} {T:Tab} [tb:Tb P T] {ZaL:List It} {st:St} {acc:List Ev}
theorem kR{fn:Func}{vr:R->V}{v:R}(fz:List Nat)(dh dn:List (Nat×List (Nat×C)))
  (h:finS fn.ntmps T (runA P fn.ntmps T acc 100000 0 ZaL st (ZxC acc [])) fz dh dn fn.results.toList=some (vr v,ZlA acc []):=by kernel_rfl):Chk P fn.ntmps z (qS P fn z vr) ZaL st acc (some v):=fun ha r hr=>by
 cases hr
 unfold finS at h
 split at h
 rotate_left
 .cases h
 rename_i it st1 obl h1
 split at h
 rotate_left
 .cases h
 rename_i st2 e1 e2
 split at h
 rotate_left
 .cases h
 rename_i v' e3
 split at h
 rotate_left
 .cases h
 rename_i hp
 simp only[Option.some.injEq,Prod.mk.injEq]at h
 obtain⟨rfl,rfl⟩:=h
 exact Zrb tb.ok Post.ends h1 (ZjN ha) (ZFW e1 fun a w hs=>⟨ZwS tb.ok.1 (hs.tidied e2) e3 hp,ZwS tb.ok.1 (hs.tidied e2) e3 hp⟩)
theorem kR0{fn:Func}{vr:R->V}{v:R}
  (h:finS fn.ntmps T (runA P fn.ntmps T acc 100000 0 ZaL st (ZxC acc [])) [] [] [] fn.results.toList=some (vr v,ZlA acc []):=by kernel_rfl):Chk P fn.ntmps z (qS P fn z vr) ZaL st acc (some v):=kR [] [] [] h
theorem kRH{fn:Func}{vr:R->V}{h1:R->List (Nat×B)}{v:R}(na:NA)(gX:Option (List Nat))
  (h:finH fn.ntmps T (runA P fn.ntmps T acc 100000 0 ZaL st (ZxC acc [])) na gX fn.results.toList=some (vr v,h1 v,ZlA acc []):=by kernel_rfl):Chk P fn.ntmps z (qH P fn z h1 vr) ZaL st acc (some v):=fun ha r hr=>by
 cases hr
 unfold finH at h
 split at h
 rotate_left
 .cases h
 rename_i it st1 obl e0
 split at h
 rotate_left
 .cases h
 rename_i st2 o2 e1 e2
 split at h
 rotate_left
 .cases h
 rename_i v' hh e3 e4
 simp only[Option.some.injEq,Prod.mk.injEq]at h
 obtain⟨rfl,rfl,hl⟩:=h
 rw[<-hl]at ha
 have hg:=ZMt e4
 exact Zrb tb.ok ZER.ends e0 (fun q hq=>ZjN ha q (List.mem_append.2 (.inl hq))) (ZFW e1 fun a w hs=>
  have:=ZMO tb.ok.1 (hs.norm e2 fun q hq=>ZjN ha q (List.mem_append.2 (.inr hq))) e3 hg
  ⟨this,this⟩)
class ZHZ {R:Type} (Q:R->Exit->Act->World->Prop):Prop where
 ends : ∀ r, Ends (Q r)
instance endsQS {fn:Func} {vr:R->V}:ZHZ (qS P fn z vr):=⟨fun _=>Post.ends⟩
instance endsQH {fn:Func} {h1:R->List (Nat×B)} {vr:R->V}:ZHZ (qH P fn z h1 vr):=⟨fun _=>ZER.ends⟩
def ZPJ:List (Nat×Nat)->Nat->Nat
 | [],k=>k
 | (o,n) :: r,k=>match Nat.beq n k with
  |true=>o
  |false=>ZPJ r k
def naK(st':St)(fz:List Nat)(dh dn:List (Nat×List (Nat×C)))(rl:List (Nat×Nat))(ado:List (Nat×Nat×Nat×Nat×(Nat->Nat->C)))(ren:List (Nat×Nat)):NA:=⟨fz,dh,dn,rl,ado,st'.env.map (·.1),st'.heap.map fun p=>ZPJ ren p.1,ren⟩
theorem kLn{N:Nat}{Q:R->Exit->Act->World->Prop}[e:ZHZ Q]{bT:List It}{st':St}{o:Option R}(n:Nat)(na:NA)(hk:Chk P N z Q bT st' [] o)
  (h:finK N (runA P N T acc n 0 ZaL st (ZxC acc [])) na=some (bT,st',ZlA acc []):=by kernel_rfl):Chk P N z Q ZaL st acc o:=fun ha r hr=>by
 unfold finK at h
 split at h
 rotate_left
 .cases h
 rename_i it st1 obl e0
 split at h
 rotate_left
 .cases h
 rename_i st2 o2 e1
 simp only[Option.some.injEq,Prod.mk.injEq]at h
 obtain⟨rfl,rfl,hl⟩:=h
 rw[<-hl]at ha
 exact Zrb tb.ok (e.ends r) e0 (fun q hq=>ZjN ha q (List.mem_append.2 (.inl hq))) (ZBr e1 (fun q hq=>ZjN ha q (List.mem_append.2 (.inr hq))) (hk trivial r hr))
theorem kL{N:Nat}{Q:R->Exit->Act->World->Prop}[e:ZHZ Q]{bT:List It}{st':St}{o:Option R}(n:Nat)(hk:Chk P N z Q bT st' [] o)
  (h:finK N (runA P N T acc n 0 ZaL st (ZxC acc [])) (naK st' [] [] [] [] [] [])=some (bT,st',ZlA acc []):=by kernel_rfl):Chk P N z Q ZaL st acc o:=kLn n _ hk h
theorem kLr{N:Nat}{Q:R->Exit->Act->World->Prop}[e:ZHZ Q]{bT:List It}{st':St}{o:Option R}(n:Nat)(ren:List (Nat×Nat))(hk:Chk P N z Q bT st' [] o)
  (h:finK N (runA P N T acc n 0 ZaL st (ZxC acc [])) (naK st' [] [] [] [] [] ren)=some (bT,st',ZlA acc []):=by kernel_rfl):Chk P N z Q ZaL st acc o:=kLn n _ hk h
theorem kLx{N:Nat}{Q:R->Exit->Act->World->Prop}[e:ZHZ Q]{bT:List It}{st':St}{o:Option R}(n:Nat)(fz:List Nat)(dh dn:List (Nat×List (Nat×C)))(rl:List (Nat×Nat))(ado:List (Nat×Nat×Nat×Nat×(Nat->Nat->C)))(ren:List (Nat×Nat))(hk:Chk P N z Q bT st' [] o)
  (h:finK N (runA P N T acc n 0 ZaL st (ZxC acc [])) (naK st' fz dh dn rl ado ren)=some (bT,st',ZlA acc []):=by kernel_rfl):Chk P N z Q ZaL st acc o:=kLn n _ hk h
end
def fnOk(fn:Func)(n:Nat):Bool:=match fn.body with
 | some _ => match fn.name == "runtime.NumGoroutine" with
  |false=>Nat.ble n fn.ntmps
  |true=>false
 |none=>false
theorem ZBx {fn : Func} {n : Nat} (h : fnOk fn n = true) : fn.body = some (ZuB fn) /\ (fn.name == "runtime.NumGoroutine") = false /\ Nat.ble n fn.ntmps = true := by
 unfold fnOk at h;split at h
 .rename_i c hc;split at h
  .rename_i hn;exact⟨by simp[ZuB,hc],hn,h⟩
  .cases h
 .cases h
theorem kS{P:Program}{f:FuncId}{fn:Func}{R:Type}{o:Option R}{args:List V}{vr:R->V}(hf:P.funcs[f]?=some fn)(h:∀{z:Zw},Chk P fn.ntmps z (qS P fn z vr) [.code (ZuB fn)] (St.init args) [] o)(hb:fnOk fn args.length=true:=by kernel_rfl) :
  Con o fun r=>.c (Zgo P f args (vr r)) (vr r):=
 ⟨fun{r} hr=>show Zgo P f args (vr r)from by obtain⟨b1,b2,b3⟩:=ZBx hb;exact Zgo.of hf b1 b2 rfl b3 fun S0 w0=>h (z:=⟨S0,w0⟩) trivial r hr⟩
theorem kHC{P:Program}{f:FuncId}{fn:Func}{R:Type}{o:Option R}{h0:List (Nat×B)}{args:List V}{h1:R->List (Nat×B)}{vr:R->V}(hf:P.funcs[f]?=some fn)(h:∀{z:Zw},Chk P fn.ntmps z (qH P fn z h1 vr) [.code (ZuB fn)] (St.initH args h0) [] o)(hb:fnOk fn args.length=true:=by kernel_rfl) :
  ConH o fun r=>.h (Zix P f h0 args (h1 r) (vr r)) (h1 r) (vr r):=
 ⟨fun{r} hr=>show Zix P f h0 args (h1 r) (vr r)from by obtain⟨b1,b2,b3⟩:=ZBx hb;exact Zix.of hf b1 b2 rfl b3 fun S0 w0=>h (z:=⟨S0,w0⟩) trivial r hr⟩
theorem Con.of{R:Type}{o:Option R}{P:Program}{f:FuncId}{args:List V}{vr:R->V}(h:∀r,o=some r->Zgo P f args (vr r)):Con o fun r=>.c (Zgo P f args (vr r)) (vr r):=⟨fun{r} hr=>show Zgo _ _ _ _ from h r hr⟩
theorem ConH.of{R:Type}{o:Option R}{P:Program}{f:FuncId}{h0:List (Nat×B)}{args:List V}{h1:R->List (Nat×B)}{vr:R->V}(h:∀r,o=some r->Zix P f h0 args (h1 r) (vr r)):ConH o fun r=>.h (Zix P f h0 args (h1 r) (vr r)) (h1 r) (vr r):=⟨fun{r} hr=>show Zix _ _ _ _ _ _ from h r hr⟩
theorem nI{p:Nat->Prop}(h0:p 0)(h1:∀{n},p n->p (n+1)):∀{n},p n:=fun{n}=>n.rec h0 fun _ h=>h1 h
end Go.Proofs.YtnigiacmmedkhaaGreat
