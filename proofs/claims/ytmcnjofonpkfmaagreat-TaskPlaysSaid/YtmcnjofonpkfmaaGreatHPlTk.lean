import Derived.Test.YtmcnjofonpkfmaaGreatHPlH
open Bool renaming not_true->YP,false->Tm,true->Tl,not_false->YT,false_eq_true->YQ,true_and->YV,and_eq_true->VQ
open Int renaming toNat_natCast->YO,natCast_zero->YX,fdiv->Xo
open Go.IntKind renaming bits->UB,u64->Wn,signed->Ut,i64->TZ,wrap->US,min->ZB,max->UT
open List renaming mem_singleton->Y9,mem_append->T9,nil_append->YY,mem_filter->VU,drop_zero->YZ,mem_map->Uf,drop_eq_nil_of_le->Y_,length_map->Vo,take_of_length_le->TV,length_filter_le->Zn,length_append->TL,length_drop->Uv,drop_length->Zx,length_nil->XB,length->S7
open Nat renaming zero_le->UK,testBit_div_two_pow->Zl,testBit_lt_two_pow->YU,div_div_eq_div_mul->aE',pow_le_pow_right->YS,lt_of_lt_of_le->TC
open Option renaming some->S8,bind_some->Xt
open Option.some renaming injEq->S9
namespace Go.Proofs.YtmcnjofonpkfmaaGreat
set_option linter.unusedSimpArgs false
set_option linter.unusedVariables false
def w_(a:oV)(j:Nat):Int:=if a.qt then a.rk / 2 ^ (63-j) % 2 else a.qX / 2 ^ (31-j) % 2
theorem acU(n k:Nat)(o:k<64:=by omega)(d:n<2 ^ 64:=by omega):TZ.wrap (Wn.wrap (((BitVec.ofInt (UB .u64) (Xo (n:Int) (2 ^ (min (Wn.wrap (k:Int)).toNat (UB .u64))))) &&& (BitVec.ofInt (UB .u64) (1:Int))).toNat:Int))=(n:Int) / 2 ^ k % 2:=by
 have g:(Wn.wrap (k:Int)).toNat=k:=by rw[Ay (by omega) (by omega)];rfl
 rw[g,show min k (UB .u64)=k from Nat.min_eq_left (by simp[UB];omega)];have e:Xo (n:Int) (2 ^ k)=((n / 2 ^ k:Nat):Int):=by
  grind
 have h:n / 2 ^ k<2 ^ 64:=Nat.lt_of_le_of_lt (Nat.div_le_self _ _) d;rw[e,show (1:Int)=((1:Nat):Int)from rfl,ZGV _ 1 h,Nat.and_one_is_mod];have t:n / 2 ^ k % 2<2:=Nat.mod_lt _ (by omega);have j:TZ.wrap ((n / 2 ^ k % 2:Nat):Int)=((n / 2 ^ k % 2:Nat):Int):=by
  simp only[US,UB,Ut];simp;omega
 rw[j];simp
theorem acV(a:oV)(h:a.ok)(j:Nat)(d:j<if a.qt then 32 else 16):CT a (j:Int)=S8 (w_ a j):=by
 obtain⟨v,hi,lo⟩:=a;obtain⟨_,g,o,_⟩:=h;have g:=BC g;have o:=BC o;simp only at g o;obtain⟨n,t⟩:=yQ g.1;obtain⟨m,hm⟩:=yQ o.1;subst t hm;cases v with
 |false=>
  have d:j<16:=by simpa using d
  have e:pR (31:Int) (j:Int)=((31-j:Nat):Int):=by rw[tq (by omega) (by omega)];omega
  simp only[CT,Dr,Kh,o8,Xt,aFb,YT,aFc,e];rw[pO,pO,o9 (by rw[Ay (by omega) (by omega)];omega),acU m (31-j)];simp[w_]
 |true=>
  have d:j<32:=by simpa using d
  have et:Int.tmod (j:Int) 64=(j:Int):=by grind
  have e:pR (63:Int) (j:Int)=((63-j:Nat):Int):=by rw[tq (by omega) (by omega)];omega
  simp only[CT,Dr,Kh,o8,Xt,aFb,YP,aFc,et,e];rw[pO,pO,p7,o9 (by rw[Ay (by omega) (by omega)];omega),acU n (63-j)];simp[w_]
theorem ZJV(n m t b:Nat)(hb:b<=t:=by omega)(d:n<2 ^ t:=by omega)(hm:m<2 ^ t:=by omega):(∀j,j<b->n / 2 ^ (t-1-j) % 2=m / 2 ^ (t-1-j) % 2)↔n / 2 ^ (t-b)=m / 2 ^ (t-b):=by
 constructor
 .intro h;apply Nat.eq_of_testBit_eq;intro i;rw[Zl,Zl];by_cases hi:i<b
  .have:=h (b-1-i) (by omega)
   grind
  .rw[YU (TC d (YS (by omega) (by omega))),YU (TC hm (YS (by omega) (by omega)))]
 .intro h j g;have e:2 ^ (t-1-j)=2 ^ (t-b) * 2 ^ (b-1-j):=by rw[<-Nat.pow_add];congr 1;omega
  rw[e,<-aE',<-aE',h]
theorem ZTG(a b:oV)(ha:a.ok)(hb:b.ok)(e:a.qt=b.qt):∀fu (i:Nat),i<=32->32-i<fu ->
  ∃r,Kk fu (i:Int) a b=S8 r/\(r=Tl↔∀j,i<=j->j<(if a.qt then 32 else 16)->w_ a j=w_ b j):=by
 intro fu;induction fu with
 |zero=>intro _ _ h;omega
 |succ fu ih=>
  intro i hi g;simp only[Kk,o8];by_cases h:i<32
  .rw[p7];have jV:n_ (i:Int) 1=((i+1:Nat):Int):=pY (n:=32) h (by unfold maxLen;omega);rw[jV];obtain⟨r,o,t⟩:=ih (i+1) (by omega) (by omega);by_cases d:i<(if a.qt then 32 else 16)
   .have u:=acV a ha i d;have y:=acV b hb i (by rw[<-e];exact d)
    grind
   grind
  .rw[pO]
   grind
theorem ZPj(a b:oV)(ha:a.ok)(hb:b.ok)(g:tC b=Tl):ZiA a b=S8 (decide (vf a=vf b)):=by
 have hs:=ZTG a b ha hb;simp only[ZiA,Gq a ha,Gq b hb,g,Xt,YP,aFb];cases rr:tC a with
 |false=>
  simp only[YT,aFc,S9];rw[eq_comm,aFm];unfold vf
  grind
 |true=>
  simp only[YP,aFb];by_cases d:a.qt=b.qt
  .rw[show (!(a.qt==b.qt))=Tm by simp[d],aFb];obtain⟨r,o,t⟩:=hs d (((32:Int)-(0:Int)).toNat+2) 0 (by omega) (by omega);have o:Kk (((32:Int)-(0:Int)).toNat+2) 0 a b=S8 r:=o;rw[o,S9,Bool.eq_iff_iff,t,aFl];obtain⟨v,hi,lo⟩:=a;obtain⟨v',cO,lT⟩:=b;simp only at d;subst d;have jV:=BC ha.2.1;have Rh:=BC ha.2.2.1;have bL:=BC hb.2.1;have bF:=BC hb.2.2.1;simp only at jV Rh bL bF;obtain⟨n,u⟩:=yQ jV.1;obtain⟨m,hm⟩:=yQ Rh.1;obtain⟨n',dS⟩:=yQ bL.1;obtain⟨m',zB⟩:=yQ bF.1;subst u hm dS zB;cases v with
   |false=>
    have y:(n:Int)=0/\(m:Int)<4294967296:=by simpa[tC]using rr
    have A:(n':Int)=0/\(m':Int)<4294967296:=by simpa[tC]using g
    have hb:=ZJV m m' 32 16;simp only[vf,rr,g,aFg,YQ,aFi,pn.mk.injEq,oV.mk.injEq,aFn,aFw];have e:(∀j,0<=j->j<16->w_ ⟨Tm,n,m⟩ j=w_ ⟨Tm,n',m'⟩ j)↔∀j,j<16->m / 2 ^ (32-1-j) % 2=m' / 2 ^ (32-1-j) % 2:=by
     constructor
     .intro q j h;have:=q j (by omega) h;simp only[w_,YQ,aFi]at this
      grind
     .intro q j _ h;have:=q j h;rw[show 32-1-j=31-j by omega]at this;simp only[w_,YQ,aFi]
      exact_mod_cast this
    grind
   |true=>
    have hb:=ZJV n n' 64 32;simp only[vf,rr,g,aFg,YQ,aFi,pn.mk.injEq,oV.mk.injEq,aFn,aFw];have e:(∀j,0<=j->j<32->w_ ⟨Tl,n,m⟩ j=w_ ⟨Tl,n',m'⟩ j)↔∀j,j<32->n / 2 ^ (64-1-j) % 2=n' / 2 ^ (64-1-j) % 2:=by
     constructor
     .intro q j h;have:=q j (by omega) h;simp only[w_,aFg]at this
      grind
     .intro q j _ h;have:=q j h;rw[show 64-1-j=63-j by omega]at this;simp only[w_,aFg]
      exact_mod_cast this
    grind
  .rw[show (!(a.qt==b.qt))=Tl by simp[d],aFc,S9,eq_comm,aFm];unfold vf
   grind
theorem ZYz(ps:S5 a_)(es:S5 k_)(gL:S7 es<=1000)(qb:∀e∈es,e.ok)(a:oV)(ha:a.ok)(o:tC a=Tl)(v7:Int)(k:Int->oV->S6 Bool):∀fu (i:Nat),i<=S7 es->S7 es-i<fu ->
  PY ps es v7 a k fu (i:Int)=S8 (!decide (vf a∈BK (es.drop i))):=by
 have hm:S7 es<=maxLen:=by unfold maxLen;omega
 intro fu;induction fu with
 |zero=>intro _ _ h;omega
 |succ fu ih=>
  intro i hi t;simp only[PY,o8];by_cases h:i<S7 es
  .rw[p7,o9 ⟨by omega,by omega⟩,ZQp es i h];simp only[YO];have dt:=qb _ (wy es k_.d i h);rw[pY h hm,ih (i+1) (by omega) (by omega)];cases j:I8 (es.getD i k_.d)
   .have cZ:((es.getD i k_.d).ql==(2:Int))=Tm:=j
    grind
   .have cZ:((es.getD i k_.d).ql==(2:Int))=Tl:=j;rw[cZ,aFc,ZPj _ _ dt.1.1 ha o];simp only[Xt,o8,aFg,T9,Y9];generalize vf (es.getD i k_.d).c_.b_=g;by_cases u:g=vf a
    all_goals grind
  .have e:i=S7 es:=by omega
   rw[pO,e,Zx];simp[BK]
theorem ZTP(ps:S5 a_)(es:S5 k_)(b9:S7 ps<=1000)(gL:S7 es<=1000)(dM:∀p∈ps,p.ok)(qb:∀e∈es,e.ok)(a:oV)(ha:a.ok)(o:tC a=Tl):∀fu (i:Nat),i<=S7 ps->S7 ps-i<fu ->
  Ko ps es fu (i:Int) a=S8 (!decide (vf a∈Dc (ps.drop i)++BK es)):=by
 have hm:S7 ps<=maxLen:=by unfold maxLen;omega
 intro fu;induction fu with
 |zero=>intro _ _ h;omega
 |succ fu ih=>
  intro i hi u;simp only[Ko,o8];by_cases h:i<S7 ps
  .rw[p7,o9 ⟨by omega,by omega⟩,ZQo ps i h];simp only[YO];have dt:=dM _ (wy ps a_.d i h);rw[pY h hm,ih (i+1) (by omega) (by omega)];cases t:I7 (ps.getD i a_.d)
   .have cZ:(!(ps.getD i a_.d).tL)=Tm:=t;rw[cZ,aFb];simp
   .have cZ:(!(ps.getD i a_.d).tL)=Tl:=t;rw[cZ,aFc,ZPj _ _ dt.1.1 ha o];simp only[Xt,o8,aFg,T9,Y9];generalize vf (ps.getD i a_.d).c_.b_=g;by_cases j:g=vf a
    .rw[aFa j];simp[j]
    .rw[aE_ j];simp[Ne.symm j]
  .have e:i=S7 ps:=by omega
   rw[pO,e,Zx];have:=ZYz ps es gL qb a ha o (S7 ps:Int) (Ko ps es fu) ((((S7 es:Nat):Int)-(0:Int)).toNat+2) 0 (by omega) (by omega);simp only[YX,YZ]at this;rw[this];simp[Dc]
theorem ZYK(ps:S5 a_)(es:S5 k_)(a:oV)(b9:S7 ps<=1000)(gL:S7 es<=1000)(dM:∀p∈ps,p.ok)(qb:∀e∈es,e.ok)(ha:a.ok) :
  ZkS ps es a=S8 (tC a && !decide (vf a∈Dc ps++BK es)):=by
 simp only[ZkS,Gq a ha,Xt];cases d:tC a
 .rfl
 .have:=ZTP ps es b9 gL dM qb a ha d ((((S7 ps:Nat):Int)-(0:Int)).toNat+2) 0 (by omega) (by omega);simp only[YX,YZ]at this;simp only[YP,aFb,YV];exact this
def conn(l:S5 a_)(e:l_):Bool:=l.any λp=>decide (p.c_=e)
theorem ZWt(l:S5 a_)(e:l_)(hl:S7 l<=maxLen):∀fu (i:Nat),i<=S7 l->S7 l-i<fu->ZfT fu l (S7 l:Int) (i:Int) e=S8 (conn (l.drop i) e):=by
 intro fu;induction fu with
 |zero=>intro _ _ h;omega
 |succ fu ih=>
  intro i hi g;simp only[ZfT,o8];by_cases h:i<S7 l
  .rw[p7,o9 ⟨by omega,by omega⟩,xZ l a_.d i h];simp only[YO];rw[pY h hl,ih (i+1) (by omega) (by omega)];rw[show ∀(x:a_) r,conn (x :: r) e=(decide (x.c_=e)||conn r e)from λ_ _=>rfl];by_cases q:(l.getD i a_.d).c_=e
   all_goals simp_all
  .rw[pO,Y_ (by omega)];rfl
theorem ZKH(v:tr)(e:l_)(hl:S7 v.pG<=maxLen):Zjq v e=S8 (conn v.pG e):=by
 have:=ZWt v.pG e hl ((((S7 v.pG:Nat):Int)-(0:Int)).toNat+2) 0 (by omega) (by omega);simpa[Zjq]using this
structure EL (v:tr):Prop where
 book:S7 v.j_<=900
 Bd:S7 v.pG<=900
 D3:S7 v.po<=900
 vA:∀e∈v.j_,e.ok
 Ab:∀p∈v.pG,p.ok
 CE:∀b∈v.po,b.ok
def Jh(v:tr)(a:oV):Bool:=tC a && !decide (vf a∈Dc v.pG++BK v.j_)
def EE(v:tr)(e:l_)(ac:Int):Bool:=(L4 v e ac).getD Tm
variable{v:tr}{ac:Int}{e:l_}{ok:Bool}
theorem ZWp(h:EL v)(e:l_)(d:e.ok)(ac:Int):L4 v e ac=S8 (EE v e ac) /\
  (EE v e ac=Tl->conn v.pG e=Tm/\ZDq v.po e.b_ ac 0/\Jh v e.b_=Tl):=by
 obtain⟨r,u1,u2⟩:=ZFk v.po e.b_ ac (by have:=h.D3;unfold maxLen;omega) h.CE d.1;have g:=ZBJ v.pG v.j_ e.b_ (by have:=h.Bd;omega) (by have:=h.book;omega) h.Ab h.vA d.1;have aF:L4 v e ac=S8 (!conn v.pG e&&(r==0)&&Jh v e.b_):=by
  simp only[L4,ZKH v e (by have:=h.Bd;unfold maxLen;omega),u1,g,Xt];cases conn v.pG e
  .simp only[YT,aFc,YV];cases(r==(0:Int))
   all_goals rfl
  .rfl
 refine⟨by unfold EE;rw[aF];rfl,λho=>?_⟩;unfold EE at ho;simp_all
def A'(e:k_)(ac:Int):Bool:=(e.ql==1)&&decide (e.pS<=ac)
theorem ZWi(e:k_)(ac:Int):ZuN e ac=S8 (A' e ac):=by
 simp only[ZuN,A'];grind
theorem amd(e:k_)(ac:Int):ZlQ e ac=S8 (A' e ac):=by
 simp only[ZlQ,A'];grind
def ZUF(ac:Int)(e:k_):Bool:=CL e&&A' e ac
def xu(e:k_):tY:=⟨e.pS,e.c_⟩
def Bx(l:S5 k_)(ac:Int):S5 tY:=(l.filter (ZUF ac)).map xu
theorem ZRP(l:S5 k_)(ac:Int)(hl:S7 l<=900)(qb:∀e∈l,e.ok):∀fu (i:Nat) (w:S5 tY),i<=S7 l->S7 l-i<fu->S7 w<=i ->
  Mw ac fu l (S7 l:Int) (i:Int) w=(LA (w++Bx (l.drop i) ac)).bind λx=>S8 x:=by
 have hm:S7 l<=maxLen:=by unfold maxLen;omega
 intro fu;induction fu with
 |zero=>intro _ _ _ h;omega
 |succ fu ih=>
  intro i w hi j o;simp only[Mw,o8];by_cases h:i<S7 l
  .rw[p7,o9 ⟨by omega,by omega⟩,xZ l k_.d i h];simp only[YO];have dt:=qb _ (wy l k_.d i h);rw[pY h hm,ih (i+1) w (by omega) (by omega) (by omega),ZxU _ dt];simp only[Xt,ZuQ,ZWi];rw[o9 ⟨by simp;omega,by grind⟩,ih (i+1) _ (by omega) (by omega) (by simp;omega)];generalize l.getD i k_.d=e;have g:Bx (e :: l.drop (i+1)) ac=(if ZUF ac e then[xu e]else[])++Bx (l.drop (i+1)) ac:=by
    unfold Bx
    grind
   rw[g];unfold ZUF;cases CL e
   .simp
   .cases A' e ac
    .simp
    .simp[xu]
  .rw[pO,Y_ (by omega)];simp[Bx]
theorem ZSs(h:EL v)(ac:Int):∃L,Zhr v ac=S8 L/\L.Perm (Bx v.j_ ac)/\HF 0 L:=by
 have:=ZRP v.j_ ac h.book h.vA ((((S7 v.j_:Nat):Int)-(0:Int)).toNat+2) 0 [] (by omega) (by omega) (by simp);simp only[YX,YZ,YY]at this;unfold Zhr;rw[this];obtain⟨L,d,e,g⟩:=ZJX (Bx v.j_ ac) (by
  have:(Bx v.j_ ac).length<=S7 v.j_:=by simp only[Bx,Vo];exact Zn _ _
  have:=h.book;omega)
 simp_all
def zE:l_:=⟨⟨Tm,0,0⟩,0⟩
def QQ(v:tr)(ac:Int)(L:S5 tY)(e:l_)(ok:Bool):Prop:=(ok=Tl/\∃x∈L,x.c_=e/\EE v e ac=Tl/\∀y∈L,EE v y.c_ ac=Tl->xT x y)\/(ok=Tm/\e=zE/\∀y∈L,EE v y.c_ ac=Tm)
theorem QQ.perm{L L':S5 tY}(h:QQ v ac L e ok)(hp:∀x,x∈L'↔x∈L):QQ v ac L' e ok:=by
 rcases h with⟨d,x,g,j,t,u⟩|⟨d,g,j⟩
 .exact .inl ⟨d,x,(hp x).2 g,j,t,λy o=>u y ((hp y).1 o)⟩
 .exact .inr ⟨d,g,λy o=>j y ((hp y).1 o)⟩
theorem ZUm(h:EL v)(ac:Int)(z:l_):∀fu (L:S5 tY),S7 L<fu->S7 L<=900->HF 0 L->(∀x∈L,x.c_.ok)->∃e ok,SN ac fu L v z=S8 (e,ok)/\QQ v ac L e ok:=by
 intro fu;induction fu with
 |zero=>intro _ h;omega
 |succ fu ih=>
  intro L G hl H qb;simp only[SN];by_cases o:L=[]
  .subst o;rw[ZAG];exact⟨zE,Tm,rfl,.inr ⟨rfl,rfl,by simp⟩⟩
  .obtain⟨x,r,p1,p2,p3,p4⟩:=ZQm L (by omega) H o;rw[p1];simp only[Xt,YP,aFb];have hx:x∈L:=p2.mem_iff.2 (by simp);have hlr:S7 L=S7 r+1:=by simpa using p2.length_eq
   rw[(ZWp h x.c_ (qb x hx) ac).1];simp only[Xt];cases ho:EE v x.c_ ac with
   |true=>
    simp only[aFc];exact⟨x.c_,Tl,rfl,.inl ⟨rfl,x,hx,rfl,ho,λy d _=>p4 y d⟩⟩
   |false=>
    simp only[aFb];obtain⟨e,ok,A,B⟩:=ih r (by omega) (by omega) p3 λy d=>qb y (p2.mem_iff.2 (by simp[d]));refine⟨e,ok,A,?_⟩;have hm:∀y,y∈L↔y=x\/y∈r:=λy=>by rw[p2.mem_iff];simp
    rcases B with⟨g,y,j,u,D,I⟩|⟨g,j,u⟩
    .refine .inl ⟨g,y,(hm y).2 (.inr j),u,D,λt F hto=>?_⟩
     grind
    .refine .inr ⟨g,j,λt F=>?_⟩
     grind
theorem ZWo(h:EL v)(ac:Int):∃e ok,OU v ac=S8 (e,ok)/\QQ v ac (Bx v.j_ ac) e ok:=by
 obtain⟨L,l1,l2,l3⟩:=ZSs h ac;have hlen:(Bx v.j_ ac).length<=S7 v.j_:=by simp only[Bx,Vo];grind
 have hb:=h.book;obtain⟨e,ok,d,g⟩:=ZUm h ac zE 1000000 L (by rw[l2.length_eq];omega) (by rw[l2.length_eq];omega) l3 λx hx=>by
  have:=l2.mem_iff.1 hx;simp only[Bx,Uf,VU]at this;obtain⟨a,⟨j,_⟩,rfl⟩:=this;exact(h.vA a j).1
 refine⟨e,ok,?_,g.perm λx=>l2.mem_iff.symm⟩;simp only[OU,l1,Xt];rw[show (l_.mk (oV.mk Tm (0:Int) (0:Int)) (0:Int))=zE from rfl];exact d
def wG(v:tr)(ac:Int)(x:k_):Bool:=CL x&&A' x ac&&EE v x.c_ ac
def z':Nat->Int->Int|0,x=>x|k+1,x=>z' k (qp (2*x))
theorem ZKJ:∀k,z' k 0=0
 | 0=>rfl
 |k+1=>by show z' k (qp (2 * 0))=0;exact ZKJ k
theorem ZQC:∀k,z' k 1099511627776=1099511627776
 | 0=>rfl
 |k+1=>by show z' k (qp (2 * 1099511627776))=_;exact ZQC k
theorem amr{x:Int}(h0:0<=x)(d:x<=1099511627776):qp x=x:=by
 unfold qp;omega
theorem ZFs:∀(j:Nat)(x:Int)(n fu:Nat),n<=1000000->0<=x->x<=1099511627776->(x=0\/1099511627776<=x * 2 ^ j)->(1099511627776-x).toNat+1<=fu->Pf fu x (n:Int)=S8 (z' (min n j) x):=by
 intro j;induction j with
 |zero=>
  intro x n fu _ h0 e h2 g;obtain⟨fu,rfl⟩ : ∃y,fu=y+1:=⟨fu-1,by omega⟩;unfold Pf;simp only[o8];rw[Nat.min_zero];have i3:x=0\/1099511627776<=x:=by simpa using h2
  split
  .split
   .rw[pO];rfl
   .rfl
  .rfl
 |succ j ih=>
  intro x n fu o h0 e h2 g;obtain⟨fu,rfl⟩ : ∃y,fu=y+1:=⟨fu-1,by omega⟩;unfold Pf;simp only[o8];cases n with
  |zero=>rfl
  |succ n=>
   rw[p7];have dG:min (n+1) (j+1)=min n j+1:=by omega
   rw[dG];by_cases hx:x>0
   .rw[aFa hx];by_cases d:x<1099511627776
    .rw[aFa d,La,Gs,oT,H6];have hle:=BU (2*x);have hge:x+1<=qp (2*x):=by
      unfold qp;omega
     have i3:qp (2*x)=0\/1099511627776<=qp (2*x) * 2 ^ j:=by
      right;have hpw:(1:Int)<=2 ^ j:=Int.pow_pos (by omega);rcases h2 with h2|h2
      .omega
      .have h:x * 2 ^ (j+1)=2*x * 2 ^ j:=by
        grind
       rw[h]at h2;unfold qp
       grind
     exact ih (qp (2*x)) n fu (by omega) hle.1 hle.2 i3 (by omega)
    .have:x=1099511627776:=by omega
     rw[aE_ d,this,ZQC]
   .have:x=0:=by omega
    rw[aE_ hx,this,ZKJ]
theorem ZFG(n:Nat):∀(k i:Nat)(x:Int)(fu:Nat),min n 41-i=k->i<=41->0<=x->x<=1099511627776->k+1<=fu->P3 (n:Int) fu x (i:Int)=S8 (z' k x):=by
 intro k;induction k with
 |zero=>
  intro i x fu e hi h0 d g;obtain⟨fu,rfl⟩ : ∃y,fu=y+1:=⟨fu-1,by omega⟩;unfold P3;simp only[o8];split
  .rw[pO];rfl
  .rfl
 |succ k ih=>
  intro i x fu e hi h0 d g;obtain⟨fu,rfl⟩ : ∃y,fu=y+1:=⟨fu-1,by omega⟩;unfold P3;simp only[o8];have h:n_ (i:Int) 1=((i+1:Nat):Int):=pY (n:=i+1) (by omega) (by simp only[maxLen];omega);have j:zi x x=qp (2*x):=by
   unfold zi;rw[amr h0 d];congr 1;omega
  have hle:=BU (2*x);rw[p7,p7,(ZBM _ _).2,oT,h,j];exact ih (i+1) _ fu (by omega) (by omega) hle.1 hle.2 (by omega)
theorem ZPc(a:Int)(n:Nat)(d:n<=1000000:=by omega):ZuF a (n:Int)=S8 (z' (min n 41) (qp a))/\Zkb a (n:Int)=S8 (z' (min n 41) (qp a)):=by
 have h:=BU a;constructor
 .unfold ZuF;rw[Gs,oT];exact ZFs 41 _ n _ d h.1 h.2 (by omega) (by omega)
 .unfold Zkb;rw[Hb,oT];exact ZFG n _ 0 _ _ rfl (by omega) h.1 h.2 (by omega)
theorem amO(c:p5)(n:Nat)(d:n<=1000000):∃t,Zpi c (n:Int)=S8 t/\ZjW c (n:Int)=S8 t:=by
 unfold Zpi ZjW;simp only[o8];cases n with
 |zero=>exact⟨0,rfl,rfl⟩
 |succ n=>
  rw[pO,pO,H6,Gs,Hb,(ZPc _ n).1,(ZPc _ n).2];simp only[oT]
  grind
theorem ZUQ(c:p5)(r:Int):∃t,ZnY c r=S8 t/\Zjj c r=S8 t:=by
 unfold ZnY Zjj;simp only[o8];by_cases h:c.qV<1
 .simp_all
 .rw[aE_ h,o9 (by omega)];split<;>exact⟨_,rfl,rfl⟩
theorem al7(c:p5)(n:Nat)(d:n<=1000000)(ac r:Int):∃t,ZpP c (n:Int) ac r=S8 t/\PO c (n:Int) ac r=S8 t:=by
 obtain⟨t,e,g⟩:=amO c n d;obtain⟨u,h,j⟩:=ZUQ c r;unfold ZpP PO;rw[e,g,h,j];simp only[oT,(ZBM _ _).1,(ZBM _ _).2];exact⟨_,rfl,rfl⟩
def H5(c:p5)(e:k_)(ac r:Int):k_:=(LK c e ac r).getD e
theorem ZVU(c:p5)(e:k_)(ac r:Int):LK c e ac r=S8 (H5 c e ac r)/\J_ c e ac r=S8 (H5 c e ac r):=by
 have aF:∀n:Nat,n<=1000->n_ (if(999:Int)<(if(0:Int)>e.p6 then(0:Int)else e.p6)then(999:Int)else(if(0:Int)>e.p6 then(0:Int)else e.p6)) (1:Int)=(n:Int) ->
   J_ c e ac r=((PO c (n:Int) ac r).bind λx=>S8 (k_.mk e.c_ 1 (n:Int) x))->LK c e ac r=S8 (H5 c e ac r)/\J_ c e ac r=S8 (H5 c e ac r):=by
  intro n d g u;obtain⟨t,j,y⟩:=al7 c n (by omega) ac r;have o:LK c e ac r=S8 ⟨e.c_,1,(n:Int),t⟩:=by
   unfold LK;rw[g,j];rfl
  have h6:H5 c e ac r=⟨e.c_,1,(n:Int),t⟩:=by unfold H5;rw[o];rfl
  simp_all
 unfold J_ ZgB at aF ⊢;simp only[o8]at aF ⊢;by_cases h0:e.p6>0
 .by_cases g:e.p6<1000
  .obtain⟨n,d⟩ : ∃n:Nat,e.p6=(n:Int):=⟨e.p6.toNat,by omega⟩;have h:n_ e.p6 1=((n+1:Nat):Int):=by rw[d];exact pY (n:=n+1) (by omega) (by simp only[maxLen];omega)
   refine aF (n+1) (by omega) ?_ ?_
   all_goals grind
  .refine aF 1000 (by omega) ?_ ?_
   .rw[aE_ (show ¬(0:Int)>e.p6 by omega),p7];rfl
   simp_all
 .refine aF 1 (by omega) ?_ ?_
  .have h:(if(0:Int)>e.p6 then(0:Int)else e.p6)=0:=by split<;>omega
   rw[h,pO];rfl
  grind
theorem amy(l:S5 a_)(e:l_):r5 l e<0↔conn l e=Tm:=by
 unfold r5 conn;rw[Gn,List.any_eq_false];simp
theorem amf(h:EL v)(e:k_)(d:e.ok)(ac:Int):ZlM v.j_ v.pG v.po e ac=S8 (wG v ac e):=by
 obtain⟨r,u1,u2⟩:=ZFk v.po e.c_.b_ ac (by have:=h.D3;unfold maxLen;omega) h.CE d.1.1;obtain⟨s,u3,u4⟩:=ZBX v.po e.c_.b_ ac (by have:=h.D3;unfold maxLen;omega) h.CE d.1.1;have nc:r=s:=ZEp u2 u4 λb=>Iff.rfl;subst nc;have g:=ZBJ v.pG v.j_ e.c_.b_ (by have:=h.Bd;omega) (by have:=h.book;omega) h.Ab h.vA d.1.1;have hf2:=ZYK v.pG v.j_ e.c_.b_ (by have:=h.Bd;omega) (by have:=h.book;omega) h.Ab h.vA d.1.1;have hp:S7 v.pG<=maxLen:=by have:=h.Bd;unfold maxLen;omega
 have aF:EE v e.c_ ac=(!conn v.pG e.c_&&(r==0)&&Jh v e.c_.b_):=by
  unfold EE;simp only[L4,ZKH v e.c_ hp,u1,g,Xt];cases conn v.pG e.c_
  .simp only[YT,aFc,YV];cases(r==(0:Int))
   all_goals rfl
  .rfl
 unfold ZlM wG;rw[ZsI e d,oT,amd,oT,u3,oT,Dm _ _ hp,oT,hf2,oT,aF,o8];have aEa:=amy v.pG e.c_;unfold Jh
 grind
def Ju(v:tr)(ac:Int)(e:l_)(ok:Bool):Prop:=(ok=Tl/\∃x∈v.j_,x.c_=e/\wG v ac x=Tl/\∀y∈v.j_,wG v ac y=Tl->xT (xu x) (xu y))\/(ok=Tm/\e=zE/\∀y∈v.j_,wG v ac y=Tm)
theorem ZRx(h:QQ v ac (Bx v.j_ ac) e ok):Ju v ac e ok:=by
 have hm:∀y∈v.j_,wG v ac y=Tl->xu y∈Bx v.j_ ac/\EE v (xu y).c_ ac=Tl:=λy d dP=>by
  unfold wG at dP;rw[VQ]at dP;exact⟨Uf.2 ⟨y,VU.2 ⟨d,dP.1⟩,rfl⟩,dP.2⟩
 rcases h with⟨g,x,j,o,t,u⟩|⟨g,j,o⟩
 .have hx:=j;simp only[Bx,Uf,VU]at hx;obtain⟨a,⟨A,B⟩,rfl⟩:=hx;refine .inl ⟨g,a,A,o,?_,λy d dP=>u _ (hm y d dP).1 (hm y d dP).2⟩;unfold wG;rw[show (CL a&&A' a ac)=Tl from B,show a.c_=e from o,t];rfl
 .refine .inr ⟨g,j,λy d=>?_⟩
  grind
theorem Ju.one{e':l_}{jS:Bool}(h:Ju v ac e ok)(h':Ju v ac e' jS):(e,ok)=(e',jS):=by
 rcases h with⟨A,x,o,B,D,F⟩|⟨A,o,B⟩
 .rcases h' with⟨g,y,d,j,t,u⟩|⟨g,d,j⟩
  .have l1:=F y d t;have l2:=u x o D;have G:sL (xu x) (xu y)=0:=by
    unfold xT at l1 l2;rcases Int.lt_trichotomy (sL (xu x) (xu y)) 0 with q|q|q
    .exact aFe q l2
    .exact q
    .exact aFe (ZCZ.1 q) l1
   have:=ZCY.1 G;simp only[xu,qd.mk.injEq]at this;simp_all
  simp_all
 .rcases h' with⟨g,y,d,j,t,u⟩|⟨g,d,j⟩
  all_goals simp_all
theorem RI{x y:k_}:xT (xu x) (xu y)↔x.pS<y.pS\/(x.pS=y.pS/\qK x.c_ y.c_<=0):=by
 unfold xT;rw[ZWz];simp only[xu];have e:=@Eh y.c_ x.c_;have d:=@Eh x.c_ y.c_;omega
theorem ZRn(h:EL v)(ac:Int)(z:l_):∀(fu i:Nat)(b:Int),i<=S7 v.j_->S7 v.j_-i<fu->b<(i:Int)->-1<=b ->
  (b<0->∀y∈v.j_.take i,wG v ac y=Tm)->(0<=b->wG v ac (v.j_.getD b.toNat k_.d)=Tl/\∀y∈v.j_.take i,wG v ac y=Tl->xT (xu (v.j_.getD b.toNat k_.d)) (xu y)) ->
  ∃e ok,Er v.j_ v.pG v.po ac fu b (i:Int) z=S8 (e,ok)/\Ju v ac e ok:=by
 have hm:S7 v.j_<=maxLen:=by have:=h.book;unfold maxLen;omega
 intro fu;induction fu with
 |zero=>intro _ _ _ h;omega
 |succ fu ih=>
  intro i b hi B hb bL u g;unfold Er;simp only[o8];by_cases qI:i<S7 v.j_
  .rw[p7,o9 ⟨by omega,by omega⟩];simp only[YO];have cA:=wy v.j_ k_.d i qI;have dB:v.j_.take (i+1)=v.j_.take i++[v.j_.getD i k_.d]:=by simp_all
   have jY:∀y,y∈v.j_.take (i+1)->y∈v.j_.take i\/y=v.j_.getD i k_.d:=λy g=>by
    grind
   rw[amf h _ (h.vA _ cA),oT,pY qI hm];have rO:wG v ac (v.j_.getD i k_.d)=Tm\/(0<=b/\xT (xu (v.j_.getD b.toNat k_.d)) (xu (v.j_.getD i k_.d)))->∃e ok,Er v.j_ v.pG v.po ac fu b ((i+1:Nat):Int) z=S8 (e,ok)/\Ju v ac e ok:=λj=>by
    refine ih (i+1) b (by omega) (by omega) (by omega) bL (λcn y eU=>?_) (λcn=>⟨(g cn).1,λy eU dP=>?_⟩)
    all_goals grind
   have move:wG v ac (v.j_.getD i k_.d)=Tl->(0<=b->xT (xu (v.j_.getD i k_.d)) (xu (v.j_.getD b.toNat k_.d)))->∃e ok,Er v.j_ v.pG v.po ac fu (i:Int) ((i+1:Nat):Int) z=S8 (e,ok)/\Ju v ac e ok:=λj hle=>by
    refine ih (i+1) (i:Int) (by omega) (by omega) (by omega) (by omega) (λcn=>by omega) (λ_=>⟨by simp_all,λy eU dP=>?_⟩);rw[YO];rcases jY y eU with q|q
    .by_cases cn:b<0
     .simp_all
     .exact ZCu (hle (by omega)) ((g (by omega)).2 y q dP)
    .rw[q];exact RJ _
   cases j:wG v ac (v.j_.getD i k_.d)with
   |false=>simp_all
   |true=>
    rw[YP,aFb];by_cases cn:b<0
    .grind
    .rw[aE_ cn,o9 ⟨by omega,by omega⟩];by_cases t:(v.j_.getD i k_.d).pS<(v.j_.getD b.toNat k_.d).pS
     .rw[aFa t];exact move j λ_=>RI.2 (.inl t)
     .rw[aE_ t,uo,Rz,oT];by_cases o:(v.j_.getD i k_.d).pS=(v.j_.getD b.toNat k_.d).pS
      .rw[aFa o];by_cases A:qK (v.j_.getD i k_.d).c_ (v.j_.getD b.toNat k_.d).c_<0
       .rw[aFa A];exact move j λ_=>RI.2 (.inr ⟨o,by omega⟩)
       .rw[aE_ A];refine rO (.inr ⟨by omega,RI.2 (.inr ⟨o.symm,?_⟩)⟩);have:=@Eh (v.j_.getD b.toNat k_.d).c_ (v.j_.getD i k_.d).c_;omega
      .rw[aE_ o];exact rO (.inr ⟨by omega,RI.2 (.inl (by omega))⟩)
  .rw[pO];have et:v.j_.take i=v.j_:=TV (by omega);rw[et]at u g;by_cases cn:b<0
   .rw[aFa cn];exact⟨_,_,rfl,.inr ⟨rfl,rfl,u cn⟩⟩
   .rw[aE_ cn,o9 ⟨by omega,by omega⟩];exact⟨_,_,rfl,.inl ⟨rfl,_,wy v.j_ k_.d b.toNat,rfl,(g (by omega)).1,(g (by omega)).2⟩⟩
def Bv(v:tr)(ac:Int):l_×Bool:=(OU v ac).getD (zE,Tm)
theorem ZUn(h:EL v)(ac:Int):OU v ac=S8 (Bv v ac)/\Ziw v.j_ v.pG v.po ac=S8 (Bv v ac)/\((Bv v ac).2=Tl->0<=xh v.j_ (Bv v ac).1):=by
 obtain⟨e,ok,g,o⟩:=ZWo h ac;have j:=ZRx o;obtain⟨e',jS,t,u⟩:=ZRn h ac ⟨⟨Tm,0,0⟩,0⟩ ((((S7 v.j_:Nat):Int)-(0:Int)).toNat+2) 0 (-1) (by omega) (by omega) (by omega) (by omega) (λ_=>by simp) (λq=>by omega);have y:=Ju.one j u;have d:Bv v ac=(e,ok):=by unfold Bv;rw[g];rfl
 refine⟨by rw[d,g],?_,λqb=>?_⟩
 .unfold Ziw;rw[d,y];exact t
 .rw[d]at qb ⊢;rcases j with⟨_,x,x1,x2,_⟩|⟨q,_⟩
  .have hx:¬xh v.j_ e<0:=λq=>ZVS.1 q x x1 x2;exact Int.not_lt.1 hx
  .rw[show ok=Tl from qb]at q;cases q
def zI(ac:Int)(e:k_):Bool:=CL e&&((e.ql==1)&&decide (e.pS>ac))
def HV(l:S5 k_)(ac:Int):S5 tY:=(l.filter (zI ac)).map xu
theorem ZYg(e:k_)(ac:Int):ZqR e ac=S8 ((e.ql==1)&&decide (e.pS>ac)):=by
 simp only[ZqR];cases(e.ql==(1:Int))<;>rfl
theorem ZUP(l:S5 k_)(ac:Int)(hl:S7 l<=900)(qb:∀e∈l,e.ok):∀fu (i:Nat) (w:S5 tY),i<=S7 l->S7 l-i<fu->S7 w<=i ->
  Mx ac fu l (S7 l:Int) (i:Int) w=(LA (w++HV (l.drop i) ac)).bind λx=>S8 x:=by
 have hm:S7 l<=maxLen:=by unfold maxLen;omega
 intro fu;induction fu with
 |zero=>intro _ _ _ h;omega
 |succ fu ih=>
  intro i w hi j o;simp only[Mx,o8];by_cases h:i<S7 l
  .rw[p7,o9 ⟨by omega,by omega⟩,xZ l k_.d i h];simp only[YO];have dt:=qb _ (wy l k_.d i h);rw[pY h hm,ih (i+1) w (by omega) (by omega) (by omega),ZxU _ dt];simp only[Xt,ZYg];rw[o9 ⟨by simp;omega,by unfold maxLen;simp;omega⟩,ih (i+1) _ (by omega) (by omega) (by simp;omega)];generalize l.getD i k_.d=e;have g:HV (e :: l.drop (i+1)) ac=(if zI ac e then[xu e]else[])++HV (l.drop (i+1)) ac:=by
    unfold HV;cases q:zI ac e<;>simp[q]
   rw[g];unfold zI;cases CL e
   .simp
   .cases((e.ql==(1:Int))&&decide (e.pS>ac))
    .simp
    .simp[xu]
  .rw[pO,Y_ (by omega)];simp[HV]
def K6(S:k_->Prop)(r:Int):Prop:=((∀y,¬S y)/\r=0)\/∃x,S x/\r=x.pS/\∀y,S y->r<=y.pS
theorem K6.one{S:k_->Prop}{r s:Int}(h:K6 S r)(g:K6 S s):r=s:=by
 rcases h with⟨e,t⟩|⟨x,e,t,u⟩
 .rcases g with⟨d,j⟩|⟨y,d,j,o⟩
  .omega
  .exact aFe d (e y)
 .rcases g with⟨d,j⟩|⟨y,d,j,o⟩
  .exact aFe e (d x)
  .have:=u y d;have:=o x e;omega
theorem ZWn(h:EL v)(ac:Int):∃r,OV v ac=S8 r/\K6 (λy=>y∈v.j_/\zI ac y=Tl) r:=by
 have hlen:(HV v.j_ ac).length<=S7 v.j_:=by simp only[HV,Vo];exact Zn _ _
 have hb:=h.book;have hl:=ZUP v.j_ ac h.book h.vA ((((S7 v.j_:Nat):Int)-(0:Int)).toNat+2) 0 [] (by omega) (by omega) (by simp);simp only[YX,YZ,YY]at hl;obtain⟨L,j,e,o⟩:=ZJX (HV v.j_ ac) (by omega);have uQ:∀y,y∈v.j_/\zI ac y=Tl->xu y∈L:=λy d=>e.mem_iff.2 (Uf.2 ⟨y,VU.2 d,rfl⟩);unfold OV Zjp;rw[hl,j,oT,oT];by_cases g:L=[]
 .subst g;rw[ZAG,oT];exact⟨0,rfl,.inl ⟨λy d=>by have:=uQ y d;simp at this,rfl⟩⟩
 .obtain⟨x,r,p1,p2,p3,p4⟩:=ZQm L (by rw[e.length_eq];omega) o g;rw[p1,oT];have hx:x∈L:=p2.mem_iff.2 (by simp);have dQ:=e.mem_iff.1 hx;simp only[HV,Uf,VU]at dQ;obtain⟨a,t,rfl⟩:=dQ;refine⟨_,rfl,.inr ⟨a,t,rfl,λy d=>?_⟩⟩;have:=RI.1 (p4 _ (uQ y d));show a.pS<=y.pS;omega
theorem ZRm{l:S5 k_}(hl:S7 l<=900)(qb:∀e∈l,e.ok)(ac:Int):∀(fu i:Nat)(r:Int)(any:Bool),i<=S7 l->S7 l-i<fu ->
  (any=Tm->r=0/\∀y∈l.take i,zI ac y=Tm)->(any=Tl->∃x,(x∈l/\zI ac x=Tl)/\r=x.pS/\∀y∈l.take i,zI ac y=Tl->r<=y.pS) ->
  ∃r',Es l ac fu r any (i:Int)=S8 r'/\K6 (λy=>y∈l/\zI ac y=Tl) r':=by
 have hm:S7 l<=maxLen:=by unfold maxLen;omega
 intro fu;induction fu with
 |zero=>intro _ _ _ _ h;omega
 |succ fu ih=>
  intro i r any hi B o g;unfold Es;simp only[o8,uo];by_cases qI:i<S7 l
  .rw[p7,o9 ⟨by omega,by omega⟩];simp only[YO];have cA:=wy l k_.d i qI;have dB:l.take (i+1)=l.take i++[l.getD i k_.d]:=by rw[List.take_succ_eq_append_getElem qI,ua l _ i qI]
   have jY:∀y,y∈l.take (i+1)->y∈l.take i\/y=l.getD i k_.d:=λy g=>by
    rw[dB]at g;rcases T9.1 g with q|q
    .exact .inl q
    .exact .inr (Y9.1 q)
   rw[ZsI _ (qb _ cA),oT,pY qI hm];generalize l.getD i k_.d=e at cA dB jY ⊢;have rO:zI ac e=Tm\/(any=Tl/\r<=e.pS)->∃r',Es l ac fu r any ((i+1:Nat):Int)=S8 r'/\K6 (λy=>y∈l/\zI ac y=Tl) r':=λhk=>by
    refine ih (i+1) r any (by omega) (by omega) (λha=>⟨(o ha).1,λy eU=>?_⟩) (λha=>?_)
    .rcases jY y eU with q|q
     .exact(o ha).2 y q
     .rw[q];rcases hk with hk|hk
      .exact hk
      .rw[ha]at hk;exact aFe hk.1 (by decide)
    .obtain⟨x,x1,x2,x3⟩:=g ha;refine⟨x,x1,x2,λy eU dP=>?_⟩;rcases jY y eU with q|q
     .exact x3 y q dP
     .rcases hk with hk|hk
      .rw[q,hk]at dP;cases dP
      .rw[q];exact hk.2
   have move:zI ac e=Tl->(any=Tl->e.pS<=r)->∃r',Es l ac fu e.pS Tl ((i+1:Nat):Int)=S8 r'/\K6 (λy=>y∈l/\zI ac y=Tl) r':=λhk hle=>by
    refine ih (i+1) _ Tl (by omega) (by omega) (λha=>by cases ha) (λ_=>⟨e,⟨cA,hk⟩,rfl,λy eU dP=>?_⟩);rcases jY y eU with q|q
    .cases ha:any with
     |false=>rw[(o ha).2 y q]at dP;cases dP
     |true=>
      obtain⟨x,x1,x2,x3⟩:=g ha;have:=x3 y q dP;have:=hle ha;omega
    .rw[q];exact Int.le_refl _
   cases u:CL e with
   |false=>rw[aFb];exact rO (.inl (by simp[zI,u]))
   |true=>
    rw[aFc];by_cases j:e.ql=1
    .rw[aFa j];by_cases t:e.pS>ac
     .rw[aFa t];have hk:zI ac e=Tl:=by unfold zI;rw[u,j,aFk t];rfl
      cases ha:any with
      |false=>rw[YT,aFc];exact move hk λq=>by rw[ha]at q;cases q
      |true=>
       rw[YP,aFb];by_cases A:e.pS<r
       .rw[aFa A];exact move hk λ_=>by omega
       .rw[aE_ A];have sR:=rO (.inr ⟨ha,by omega⟩);rw[ha]at sR;exact sR
     .rw[aE_ t];exact rO (.inl (by unfold zI;rw[aFo t];simp))
    .rw[aE_ j];exact rO (.inl (by simp[zI,j]))
  .rw[pO];have et:l.take i=l:=TV (by omega);rw[et]at o g;refine⟨r,rfl,?_⟩;cases ha:any with
   |false=>exact .inl ⟨λy eU=>(by have j:=eU.2;rw[(o ha).2 y eU.1]at j;cases j),(o ha).1⟩
   |true=>
    obtain⟨x,x1,x2,x3⟩:=g ha;exact .inr ⟨x,x1,x2,λy eU=>x3 y eU.1 eU.2⟩
def MR(v:tr)(ac:Int):Int:=(OV v ac).getD 0
theorem ZTo(h:EL v)(ac:Int):OV v ac=S8 (MR v ac)/\Ziv v.j_ ac=S8 (MR v ac):=by
 obtain⟨r,d,g⟩:=ZWn h ac;obtain⟨s,j,o⟩:=ZRm h.book h.vA ac ((((S7 v.j_:Nat):Int)-(0:Int)).toNat+2) 0 0 Tm (by omega) (by omega) (λ_=>⟨rfl,by simp⟩) (λq=>by cases q);have e:MR v ac=r:=by unfold MR;rw[d];rfl
 refine⟨by rw[e,d],?_⟩;unfold Ziv;rw[e,g.one o];exact j
def ZYs(n:Nat):Pr tr:=(wO ⟨3,0,0⟩).bind λb=>(wO ⟨4,0,0⟩).bind λv=>(HY n 0 []).bind λw=>.ret ⟨v.j_,w,b.po⟩
theorem ZPY{m_:S5 oM}(hG:Gl m_){b v:oM}(hb:b∈m_)(d:v∈m_){w:S5 a_}(j:S7 w<=800)(e:∀p∈w,p.ok):EL ⟨v.j_,w,b.po⟩:=by
 have g:=hG.val b hb;have h:=hG.val v d;exact⟨by grind,by grind,by grind,h.1.2.2.2.1.2,e,g.1.2.2.1.2⟩
theorem ZRl{n:Nat}{l:S5 oM}{g:qA}(h:runT (ZYs n) l=S8 (.ret v g))(hl:Gl l):EL v:=by
 obtain⟨b,D,d,e⟩:=K5 h;obtain⟨F,rfl,rfl⟩:=Oh d;obtain⟨u,G,j,o⟩:=K5 e;obtain⟨H,fT,rfl⟩:=Oh j;obtain⟨w,I,t,h6⟩:=K5 o;simp only at fT;subst fT;simp only[runT,S9,o7.ret.injEq]at h6;obtain⟨rfl,rfl⟩:=h6;obtain⟨y,A⟩:=ZAv _ _ _ _ _ _ t;have hlen:=hl.len;simp only[List.length_cons,XB]at y hlen;exact ZPY hl (by simp) (by simp) (by omega) (A a_.ok (by simp) λv B=>(hl.val v (by simp[B])).1.2.1)
def N'(e:k_)(s:Int):k_:=⟨e.c_,s,e.p6,e.pS⟩
def NT(e:k_):k_:=⟨e.c_,3,0,e.pS⟩
def vO(x:pD):k_:=⟨x.c_,1,0,qp x.pE⟩
def QP(x:pD):a_:=⟨x.c_,Tm,qp x.pE,⟨0,qp x.pE⟩,0,0⟩
def QT(l:S5 k_)(e:k_):Pr Unit:=yR ⟨4,0,0⟩ ⟨0,wT,[],Cm l e⟩ Tm
def ZIO(l:S5 k_)(e:k_):Pr Unit:=(QT l e).bind λ_=>EC 2 (-1) Tl 1000000
def ZKm(c:p5)(x:pD)(l:S5 k_)(e:k_)(k:Int):Pr (oZ×Bool):=(ZIO l (H5 c e x.pE x.qz)).bind λ_=>.ret (⟨k,sd,(H5 c e x.pE x.qz).p6,(H5 c e x.pE x.qz).pS,[]⟩,Tm)
def yq(l:S5 k_)(e:l_):k_:=l.getD (xh l e).toNat k_.d
def ZUl(c:p5)(x:pD):Pr (oZ×Bool):=(ZYs c.e_.toNat).bind λv=>(wO ⟨2,0,0⟩).bind λo=>if o.fN>=c.rW then .ret (wV 5,Tl)else if(Bv v x.pE).2=Tl then(EC 2 1 Tl 1000000).bind λ_=>(QT v.j_ (N' (yq v.j_ (Bv v x.pE).1) 2)).bind λ_=>.ret (⟨0,(Bv v x.pE).1,0,0,[]⟩,Tm)else .ret (⟨6,sd,0,MR v x.pE,[]⟩,Tl)
def NM(c:p5)(r:oZ×Bool):Pr oZ:=(Gm c.e_ r.2).bind λ_=>(pV 3 1 Tm).bind λ_=>(pV 4 0 Tm).bind λ_=>.ret r.1
def Jf(c:p5)(x:pD):Pr oZ:=(pV 2 0 Tm).bind λ_=>(pV 1 1 Tm).bind λ_=>(Oi c.e_).bind λ_=>(ZUl c x).bind λr=>NM c r
def Ji(n:Int)(x:pD)(l:S5 k_)(e:k_):Pr (oZ×Bool):=(Bw n).bind λps=>if r5 ps x.c_>=0 then(ZIO l (N' e 1)).bind λ_=>.ret (wV 7,Tm)else(QT l (NT e)).bind λ_=>(Dj n ps (ps++[QP x])).bind λ_=>.ret (sY,Tl)
def ZVR(n:Int)(c:p5)(x:pD)(l:S5 k_)(e:k_):Pr (oZ×Bool):=if x.uq=Tl then(wO ⟨3,0,0⟩).bind λb=>if Di b.po x.c_.b_ x.pE>0 then ZKm c x l e 8 else Ji n x l e else ZKm c x l e 0
def Ns(n:Int)(c:p5)(x:pD):Pr (oZ×Bool):=(wO ⟨4,0,0⟩).bind λv=>if xh v.j_ x.c_<0 then .ret (wV 6,Tl)else if(yq v.j_ x.c_).ql=2 then ZVR n c x v.j_ (yq v.j_ x.c_)else .ret (wV 6,Tl)
def ZVQ(n:Int)(r:oZ×Bool):Pr oZ:=(pV 3 (2+n) r.2).bind λ_=>(pV 3 1 Tm).bind λ_=>(pV 4 0 Tm).bind λ_=>.ret r.1
def ZFz(c:p5)(x:pD):Pr oZ:=(pV 2 0 Tm).bind λ_=>(pV 1 1 Tm).bind λ_=>(pV 1 (2+pt c x) Tm).bind λ_=>(Ns (pt c x) c x).bind λr=>ZVQ (pt c x) r
def ZQb(c:p5)(x:pD):Pr oZ:=(pV 1 1 Tm).bind λ_=>(wO ⟨4,0,0⟩).bind λv=>if(vz v.j_ (vO x) c.qq).2=0 then(yR ⟨4,0,0⟩ ⟨0,wT,[],(vz v.j_ (vO x) c.qq).1⟩ Tl).bind λ_=>(pV 3 1 Tm).bind λ_=>.ret (wV 0)else(pV 3 1 Tl).bind λ_=>.ret (wV (vz v.j_ (vO x) c.qq).2)
def KC(c:p5)(x:pD):Pr oZ:=if vn x=Tl then(if x.d_=3 then Jf c x else if x.d_=4 then ZFz c x else if x.d_=13 then ZQb c x else BA)else BA
theorem amZ(n:Nat)(o:n<=1000)(b4:tr)(book:S5 k_)(D3:S5 oD):∀(k i fu:Nat)(w:S5 a_)(l:S5 oM),n-i=k->i<=n->k+1<=fu->S7 w+S7 l<=900000 ->
  HE fu (n:Int) (i:Int) ⟨l⟩ b4 book w D3=runT ((HY k i w).bind λw=>.ret ⟨book,w,D3⟩) l:=by
 intro k;induction k with
 |zero=>
  intro i fu w l d hi e hl;obtain⟨fu,rfl⟩:=sC fu;unfold HE;simp only[o8];rw[pO];rfl
 |succ k ih=>
  intro i fu w l d hi e hl;obtain⟨fu,rfl⟩:=sC fu;unfold HE;simp only[o8];rw[p7,K9 _ _];unfold HY;rw[Pr.bind_assoc];refine qi (λx a ha h=>?_) (λ_=>rfl);dsimp only;have g:=Zyo h;simp only[Uv]at g;have j:n_ (i:Int) 1=((i+1:Nat):Int):=pY (n:=i+1) (by omega) (by simp only[maxLen];omega);rw[o9 ⟨by grind,by simp only[TL,maxLen];omega⟩,j];exact ih (i+1) fu (w++x) (l.drop a) (by omega) (by omega) (by omega) (by grind)
section
variable {c:p5} {x:pD} (hx:x.ok) (hs:c.e_<=1000) {l:S5 oM} (hl:Gl l)
include hx hs hl
theorem ana:Pw ⟨c,x⟩ ⟨l⟩=runT (ZYs c.e_.toNat) l:=by
 have _u:=hx;have hlen:=hl.len;unfold Pw;rw[BE];refine qi (λb a ha h=>?_) (λ_=>rfl);dsimp only;have e:G9=S8 ⟨4,0,0⟩:=rfl;rw[e,oT,BE];refine qi (λv d o h=>?_) (λ_=>rfl);dsimp only;by_cases h0:0<=c.e_
 .obtain⟨n,g⟩ : ∃n:Nat,c.e_=(n:Int):=⟨c.e_.toNat,by omega⟩;rw[g,YO];exact amZ n (by omega) _ _ _ n 0 _ [] _ (by omega) (by omega) (by omega) (by grind)
 .have j:c.e_.toNat=0:=by omega
  rw[j];obtain⟨fu,lU⟩ : ∃fu,(c.e_-0).toNat+2=fu+1:=⟨_,rfl⟩;rw[lU];unfold HE;simp only[o8];rw[pO];rfl
omit hs hl in
theorem ZDr(w:S5 k_)(e:k_)(d:S7 w<=10000):Me ⟨c,x⟩ ⟨l⟩ w e=runT (QT w e) l:=by
 have _u:=hx;unfold Me;have g:G9=S8 ⟨4,0,0⟩:=rfl;rw[g,oT,amJ _ _ d,oT,EW];exact Hc (p:=QT w e) (λ_ _=>rfl) (λ_=>rfl)
omit hs hl in
theorem ZLr(w:S5 k_)(e:k_)(d:S7 w<=10000):Ps ⟨c,x⟩ ⟨l⟩ w e=runT (ZIO w e) l:=by
 unfold Ps;rw[ZDr hx w e d];refine qi (λ_ a ha h=>?_) (λ_=>rfl);dsimp only;rw[Gh];exact Hc (λ_ _=>rfl) (λ_=>rfl)
omit hs hl in
theorem ZLs(w:S5 k_)(e:k_)(k:Int)(d:S7 w<=10000):Zkl ⟨c,x⟩ ⟨l⟩ w e k=runT (ZKm c x w e k) l:=by
 unfold Zkl;rw[(ZVU c e x.pE x.qz).1,oT,ZLr hx w _ d];exact qi (λ_ _ _ _=>rfl) (λ_=>rfl)
theorem ZXh:ZmN ⟨c,x⟩ ⟨l⟩=runT (ZUl c x) l:=by
 unfold ZmN;rw[ana hx hs hl];refine qi (λv a ha h=>?_) (λ_=>rfl);have g:=ZRl h hl;have hb:=g.book;obtain⟨p1,_,p3⟩:=ZUn g x.pE;have qI:=Q7 v.j_ (Bv v x.pE).1;dsimp only;rw[BE];refine qi (λo d j _=>?_) (λ_=>rfl);dsimp only;rw[o8];by_cases h0:o.fN>=c.rW
 .rw[aFa h0,aFa h0];rfl
 .rw[aE_ h0,aE_ h0,p1,oT];cases qb:(Bv v x.pE).2 with
  |false=>
   rw[YT,aFc,aE_ (by decide),(ZTo g x.pE).1];rfl
  |true=>
   have:=p3 qb;rw[YP,aFb,aFa rfl,Gh];refine qi (λ_ e t _=>?_) (λ_=>rfl);dsimp only;rw[Zzn _ _ (by unfold maxLen;omega),oT,o9 (by omega)];have ef:ZxK (v.j_.getD (xh v.j_ (Bv v x.pE).1).toNat k_.d)=S8 (N' (yq v.j_ (Bv v x.pE).1) 2):=rfl;rw[ef,oT,ZDr hx _ _ (by omega)];exact qi (λ_ _ _ _=>rfl) (λ_=>rfl)
theorem am3:ZnU ⟨c,x⟩ ⟨l⟩=runT (Jf c x) l:=by
 unfold ZnU;rw[RO];refine qi (λ_ a ha _=>?_) (λ_=>rfl);dsimp only;rw[BW];refine qi (λ_ b hb _=>?_) (λ_=>rfl);dsimp only;rw[Sq];refine qi (λ_ d g _=>?_) (λ_=>rfl);dsimp only;rw[ZXh hx hs (((hl.drop a).drop b).drop d)];refine qi (λr e h _=>?_) (λ_=>rfl);dsimp only;rw[Sp];refine qi (λ_ _ _ _=>?_) (λ_=>rfl);dsimp only;rw[wz];refine qi (λ_ _ _ _=>?_) (λ_=>rfl);dsimp only;rw[K8];exact qi (λ_ _ _ _=>rfl) (λ_=>rfl)
omit hs in
theorem am5(w:S5 k_)(e:k_)(h:S7 w<=10000) :
  (tb (El ⟨l⟩ (pt c x)) λjt lr=>
        (Hp jt x.c_).bind λfZ=>
        bif(decide (fZ>=(0:Int)))then
         (O8 e).bind λeN=>
         tb (Ps ⟨c,x⟩ lr w eN) λnJ nK=>
         (Hq (7:Int)).bind λej=>
         S8 (o7.ret (ej,Tm) nK)
        else
         (ZsA e).bind λeK=>
         tb (Me ⟨c,x⟩ lr w eK) λnL nM=>
         (Du jt).bind λeP=>
         (JI x.c_ Tm x.pE).bind λeQ=>
         f_ ((eP++([eQ]:S5 a_)).length * 80<=140737488355328/\(eP++([eQ]:S5 a_)).length<=maxLen) <|
         tb (Dp nM (pt c x) jt (eP++([eQ]:S5 a_))) λnN nO=>
         S8 (o7.ret ((oZ.mk (0:Int) (l_.mk (oV.mk Tm (0:Int) (0:Int)) (0:Int)) (0:Int) (0:Int) ([]:(S5 a_))),Tl) nO))=runT (Ji (pt c x) x w e) l:=by
 have hlen:=hl.len;rw[K9 _ _];refine qi (λps d o j=>?_) (λ_=>rfl);have t:=ZBc j;dsimp only;rw[Se _ _ (by unfold maxLen;omega),oT,o8];by_cases g:r5 ps x.c_>=0
 .have ed:O8 e=S8 (N' e 1):=rfl;rw[aFa g,aFa g,ed,oT,ZLr hx _ _ h];exact qi (λ_ _ _ _=>rfl) (λ_=>rfl)
 .have eg:ZsA e=S8 (NT e):=rfl;rw[aE_ g,aE_ g,eg,oT,ZDr hx _ _ h];refine qi (λ_ b hb _=>?_) (λ_=>rfl);dsimp only;have ec:Du ps=S8 ps:=by
   unfold Du;rw[o9 ⟨by omega,by unfold maxLen;omega⟩]
  have en:JI x.c_ Tm x.pE=S8 (QP x):=by unfold JI;rw[Gs];rfl
  rw[ec,oT,en,oT,o9 ⟨by grind,by simp only[TL,List.length_singleton,maxLen];omega⟩,JB _ _ _ _ (by grind)];exact qi (λ_ _ _ _=>rfl) (λ_=>rfl)
omit hs in
theorem am4:ZnT ⟨c,x⟩ ⟨l⟩ (pt c x)=runT (Ns (pt c x) c x) l:=by
 have bD:∀t:S6 (o7 (oZ×Bool)),(tb t λv g=>S8 (o7.ret (v.1,v.2) g))=t:=λt=>by
  cases t with
  |none=>rfl
  |some t=>cases t<;>rfl
 unfold ZnT;have u:G9=S8 ⟨4,0,0⟩:=rfl;rw[u,oT,BE];refine qi (λv a ha h=>?_) (λ_=>rfl);have A:=Of h hl;have qI:=Q7 v.j_ x.c_;dsimp only;rw[Zzn _ _ (by unfold maxLen;omega),oT,o8];by_cases h0:xh v.j_ x.c_<0
 .rw[aFa h0,aFa h0];rfl
 .have ee:v.j_.getD (xh v.j_ x.c_).toNat k_.d=yq v.j_ x.c_:=rfl;rw[aE_ h0,aE_ h0,o9 (by omega),ee];by_cases e:(yq v.j_ x.c_).ql=2
  .have o:((yq v.j_ x.c_).ql != 2)=Tm:=by simp[e]
   rw[aFa e,o,aFb];unfold ZVR;cases hg:x.uq with
   |false=>
    rw[YT,aFc,aE_ (by decide),ZLs hx _ _ _ (by omega)];exact bD _
   |true=>
    rw[YP,aFb,aFa rfl,BE];refine qi (λb d B y=>?_) (λ_=>rfl);have hb:=Of y (hl.drop a);dsimp only;rw[(JG b.po x.c_.b_ x.pE (by unfold maxLen;omega) hb.1.2.2.1.2 hx.2.1.1).1,oT,o8];by_cases j:Di b.po x.c_.b_ x.pE>0
    .rw[aFa j,aFa j,ZLs hx _ _ _ (by omega)];exact bD _
    .rw[aE_ j,aE_ j];exact am5 hx ((hl.drop a).drop d) _ _ (by omega)
  .have o:((yq v.j_ x.c_).ql != 2)=Tl:=by rw[aFt];exact e
   rw[aE_ e,o,aFc];rfl
omit hs in
theorem ZSG:ZlB ⟨c,x⟩ ⟨l⟩=runT (ZFz c x) l:=by
 unfold ZlB;have e:Hh x.c_.b_ c.pX c.e_=S8 (pt c x):=(G8 x.c_.b_ hx.2.1.1 c.pX c.e_).1;rw[e,oT,CJ hx,RO];refine qi (λ_ a ha _=>?_) (λ_=>rfl);dsimp only;rw[BW];refine qi (λ_ b hb _=>?_) (λ_=>rfl);dsimp only;rw[BW];refine qi (λ_ d g _=>?_) (λ_=>rfl);dsimp only;rw[am4 hx (((hl.drop a).drop b).drop d)];refine qi (λr e h _=>?_) (λ_=>rfl);dsimp only;rw[wz];refine qi (λ_ _ _ _=>?_) (λ_=>rfl);dsimp only;rw[wz];refine qi (λ_ _ _ _=>?_) (λ_=>rfl);dsimp only;rw[K8];exact qi (λ_ _ _ _=>rfl) (λ_=>rfl)
omit hx hs hl in
theorem ams(a:Int):rn .i64 (qp a):=by
 have:=BU a;simp only[rn,Lit.wf,ZB,UT,UB,Ut];simp;omega
omit hs hl in
theorem ZNj:(vO x).ok:=⟨hx.2.1,rfl,rfl,ams _,trivial⟩
omit hs in
theorem ZXn:ZmO ⟨c,x⟩ ⟨l⟩=runT (ZQb c x) l:=by
 unfold ZmO;rw[BW];refine qi (λ_ a ha _=>?_) (λ_=>rfl);dsimp only;have g:G9=S8 ⟨4,0,0⟩:=rfl;rw[g,oT,BE];refine qi (λv d j h=>?_) (λ_=>rfl);have o:=Of h (hl.drop a);dsimp only;have en:ZuM x.c_ x.pE=S8 (vO x):=by unfold ZuM;rw[Gs];rfl
 rw[en,oT,amI _ _ _ (by omega) (ZNj hx),oT,uo];by_cases h0:(vz v.j_ (vO x) c.qq).2=0
 .have e:((vz v.j_ (vO x) c.qq).2 != 0)=Tm:=by rw[h0];rfl
  rw[aFa h0,aFa h0,EW];refine qi (p:=yR ⟨4,0,0⟩ ⟨0,wT,[],(vz v.j_ (vO x) c.qq).1⟩ Tl) (λ_ _ _ _=>?_) (λ_=>rfl);dsimp only;rw[e,wz];refine qi (λ_ _ _ _=>?_) (λ_=>rfl);dsimp only;rw[h0];rfl
 .have e:((vz v.j_ (vO x) c.qq).2 != 0)=Tl:=by rw[aFt];exact h0
  rw[aE_ h0,aE_ h0,e,wz];exact qi (λ_ _ _ _=>rfl) (λ_=>rfl)
omit hs hl in
theorem ZFd(l:S5 oM):ZmM ⟨c,x⟩ ⟨l⟩=runT BA l:=by
 have _u:=hx;unfold ZmM;rw[Rp];exact qi (λ_ _ _ _=>rfl) (λ_=>rfl)
end
section
variable {m_:S5 oM} (hG:Gl m_) {a:Nat} (ha:a<=S7 m_)
include hG ha
theorem ZMI(l:S5 k_)(e:k_)(hl:S7 l<=10000):pL m_ a uh qh (QT l e) ((Ew (wk m_ a) l e).map λw=>(w,())):=by
 have hL:=hG.len;have jT:=ZYr l e;unfold Ew;rw[ZTV _ _ hl,oT,ZBy];exact EP (by omega) ha _ _ _ ⟨UK _,by grind⟩
omit hG ha in
theorem ZRu(q:pU)(l:S5 k_)(e:k_)(hl:S7 l<=10000):Ew (wt m_ q) l e=S8 (wt m_ q):=by
 unfold Ew;rw[ZTV _ _ hl,oT,Hg];rfl
theorem ZMH(c:p5)(m:Bool)(v:oZ):pL m_ a tX qh (NM c (v,m)) ((Ke c (wk m_ a) m).bind λy=>S8 (y,v)):=by
 have hL:=hG.len;unfold NM Ke;simp only[Option.bind_assoc,oT];refine pL.qj (Zzw (by omega) ha _ _) (λ_ g h d _=>?_) (λq=>?_)
 .refine pL.qj (vk (by omega) d _ _ _) (λ_ j o e _=>?_) (λq=>?_)
  .exact CK hG e _ _ _ _
  .simp only[r_,oT];exact⟨_,rfl,trivial⟩
 .simp only[r_,oT];exact⟨_,rfl,trivial⟩
omit ha in
theorem ZEc(c:p5)(q:pU)(m:Bool):Ke c (wt m_ q) m=S8 (wt m_ q):=by
 have hL:=hG.len;unfold Ke;simp only[OZ m_ (by omega),r_,oT]
theorem ZPt(l:S5 k_)(e:k_)(hl:S7 l<=10000){β:Type}(v:β):pL m_ a tX qh ((ZIO l e).bind λ_=>.ret v) ((Ew (wk m_ a) l e).bind λy=>(BG y 2 (-1) Tl).bind λz=>S8 (z,v)):=by
 have hL:=hG.len;unfold ZIO;rw[Pr.bind_assoc];refine pL.qj (ZMI hG ha l e hl) (λ_ h j d _=>?_) (λq=>?_)
 .exact pL.qj (MV (by omega) d _ _ _) (λ_ o t g _=>pL.ret g rfl) (λq=>⟨_,rfl,trivial⟩)
 .rw[Lo];exact⟨_,rfl,trivial⟩
end
section
variable {c:p5} {x:pD} (hx:x.ok) (bN:0<=c.e_) (hs:c.e_<=1000) {m_:S5 oM} (hG:Gl m_) {a:Nat} (ha:a<=S7 m_)
include hx hG ha
include bN hs in
theorem ama:pL m_ a tX qh (Jf c x) (ZkQ c x (wk m_ a)):=by
 have hL:=hG.len;have eR:S7 m_<=1000000:=by omega
 have _u:=hx;have wA:=λq=>amY (m_:=m_) bN hs q;unfold Jf ZkQ ZUl ZYs;simp only[Pr.bind_assoc,Pr.pP];refine pL.qj (vk (by omega) ha _ _ _) (λ_ G _ t _=>?_) (λq=>?_);rotate_left
 .obtain⟨ls,cV⟩:=wA q;simp only[r_,LG m_ eR,yV,oT,cV,wv,aFc];exact⟨_,rfl,trivial⟩
 refine pL.qj (vk (by omega) t _ _ _) (λ_ H _ u _=>?_) (λq=>?_);rotate_left
 .obtain⟨ls,cV⟩:=wA q;simp only[r_,LG m_ eR,yV,oT,cV,wv,aFc];exact⟨_,rfl,trivial⟩
 refine pL.qj (Zzv (by omega) u _) (λ_ I _ y _=>?_) (λq=>?_);rotate_left
 .obtain⟨ls,cV⟩:=wA q;simp only[yV,oT,cV,wv,aFc];exact⟨_,rfl,trivial⟩
 refine pL.sr (BN (by omega) y _) (λb b' J _ A hb=>?_) (λq b _=>?_);rotate_left
 .obtain⟨ls,cV⟩:=wA q;simp only[yV,oT,cV,wv,aFc];exact⟨_,rfl,trivial⟩
 obtain⟨rfl,hb⟩:=hb;refine pL.sr (BN (by omega) A _) (λv v' L _ B e=>?_) (λq v _=>?_);rotate_left
 .obtain⟨ls,cV⟩:=wA q;simp only[yV,oT,cV,wv,aFc];exact⟨_,rfl,trivial⟩
 obtain⟨rfl,e⟩:=e;refine pL.sr (adp bN hs hG B) (λw ls M _ h6 D=>?_) (λq ls _=>?_);rotate_left
 .simp only[yV,oT,wv,aFc];exact⟨_,rfl,trivial⟩
 obtain⟨rfl,fU,fW,lW⟩:=D;refine pL.sr (BN (by omega) h6 _) (λo o' O _ g ho=>?_) (λq v _=>?_);rotate_left
 .simp only[wv,aFc];exact⟨_,rfl,trivial⟩
 obtain⟨rfl,ho⟩:=ho;simp only[yK,aFb];have j:=ZPY hG hb e fW lW;obtain⟨p1,p2,p3⟩:=ZUn j x.pE;have hbk:=(hG.val v e).2.2;have p2':Ziw v.j_ ls.flatten b.po x.pE=S8 (Bv ⟨v.j_,ls.flatten,b.po⟩ x.pE):=p2;rw[o8];by_cases h0:o.fN>=c.rW
 .rw[aFa h0,aFa h0,Pr.pP];exact ZMH hG g c Tl _
 .rw[aE_ h0,aE_ h0,Jy ls fU,oT,p2',oT];have qI:=Q7 v.j_ (Bv ⟨v.j_,ls.flatten,b.po⟩ x.pE).1;have hwn:Ziv v.j_ x.pE=S8 (MR ⟨v.j_,ls.flatten,b.po⟩ x.pE):=(ZTo j x.pE).2;generalize MR ⟨v.j_,ls.flatten,b.po⟩ x.pE=wn at hwn ⊢;generalize Bv ⟨v.j_,ls.flatten,b.po⟩ x.pE=pk at p3 qI ⊢;cases qb:pk.2 with
  |false=>
   rw[YT,aFc,aE_ (by decide),Pr.pP];simp only[hwn,oT];exact ZMH hG g c Tl _
  |true=>
   have h:0<=xh v.j_ pk.1:=p3 qb;have ef:ZhR (v.j_.getD (xh v.j_ pk.1).toNat k_.d) 2=S8 (N' (yq v.j_ pk.1) 2):=rfl;have nd:(0:Int)<=xh v.j_ pk.1/\xh v.j_ pk.1<((S7 v.j_:Nat):Int):=⟨h,qI⟩;rw[YP,aFb,aFa rfl];simp only[ZBb v.j_ pk.1 (by unfold maxLen;omega),oT,o9 nd,ef,Pr.bind_assoc,Pr.pP];refine pL.qj (MV (by omega) g _ _ _) (λ_ U _ F _=>?_) (λq=>?_)
   .refine pL.qj (ZMI hG F _ _ (by omega)) (λ_ W _ h _=>?_) (λq=>?_)
    .exact ZMH hG h c Tm _
    .rw[ZEc hG];exact⟨_,rfl,trivial⟩
   .rw[ZRu q _ _ (by omega),oT,ZEc hG];exact⟨_,rfl,trivial⟩
theorem ZPu(l:S5 k_)(hl:S7 l<=10000)(e:k_)(k:Int):pL m_ a tX qh (ZKm c x l e k)
  ((J_ c e x.pE x.qz).bind λx3=>(Ew (wk m_ a) l x3).bind λx4=>(BG x4 (2:Int) (-1:Int) Tl).bind λx5=>S8 (x5,(oZ.mk k sd x3.p6 x3.pS []),Tm)):=by
 have _u:=hx;rw[(ZVU c e x.pE x.qz).2,oT];exact ZPt hG ha l _ hl _
theorem amc(l:S5 k_)(hl:S7 l<=10000)(e:k_)(n:Int)(t:n=pt c x)(hg:x.uq=Tl)(b12:pz)(nB:oZ) :
  pL m_ a tX qh (Ji n x l e) (Kq n l c x (wk m_ a) e b12 nB sY):=by
 have hL:=hG.len;have _u:=hx;unfold Kq Ji;have h:(sY.vX==(8:Int))=Tm:=rfl;rw[hg,YP,aFb,h,aFb];refine pL.sr (ZLp (by omega) ha _) (λps ps' u _ g hp=>?_) (λq ps _=>?_);rotate_left
 .simp only[wv,aFc];exact⟨_,rfl,trivial⟩
 obtain⟨rfl,dD,c5⟩:=hp;simp only[yK,aFb,YY];rw[Dm _ _ (by unfold maxLen;omega),oT,o8];by_cases d:r5 ps x.c_>=0
 .have ed:ZhR e 1=S8 (N' e 1):=rfl;rw[aFa d,aFa d,ed,oT];exact ZPt hG g l _ hl _
 .have eg:Zog e=S8 (NT e):=rfl;have en:Ma x.c_ Tm x.pE=S8 (QP x):=by unfold Ma;rw[Hb];rfl
  have hlen:(ps++[QP x]).length=S7 ps+1:=by simp
  have n1:S7 ps * 80<=140737488355328/\S7 ps<=maxLen:=⟨by omega,by unfold maxLen;omega⟩;have n2:(ps++[QP x]).length * 80<=140737488355328/\(ps++[QP x]).length<=maxLen:=⟨by omega,by unfold maxLen;omega⟩;rw[aE_ d,aE_ d,eg,oT];simp only[en,oT,o9 n1,o9 n2];refine pL.qj (ZMI hG g _ _ hl) (λ_ y _ j _=>?_) (λq=>?_)
  .exact pL.qj (G0 (by omega) j _ _ _ (by omega)) (λ_ A _ o _=>pL.ret o rfl) (λq=>⟨_,rfl,trivial⟩)
  .rw[ZwO m_ q _ _ _];exact⟨_,rfl,trivial⟩
theorem amb(l:S5 k_)(hl:S7 l<=10000)(e:k_)(n:Int)(h:n=pt c x):pL m_ a tX qh (ZVR n c x l e) (ZkP c x (wk m_ a) n l e):=by
 have hL:=hG.len;unfold ZVR ZkP;cases hg:x.uq with
 |false=>
  rw[aFb,aE_ (by decide)];unfold Kq;rw[hg,YT,aFc];exact ZPu hx hG ha l hl e 0
 |true=>
  rw[aFc,aFa rfl];refine pL.sr (BN (by omega) ha _) (λb b' j _ g hb=>?_) (λq b _=>?_);rotate_left
  .simp only[wv,aFc];exact⟨_,rfl,trivial⟩
  obtain⟨rfl,hb⟩:=hb;have m5:=hG.val b hb;simp only[yK,aFb];rw[(JG b.po x.c_.b_ x.pE (by unfold maxLen;omega) m5.1.2.2.1.2 hx.2.1.1).2,oT,o8];by_cases d:Di b.po x.c_.b_ x.pE>0
  .rw[aFa d,aFa d];unfold Kq;rw[hg,YP,aFb];exact ZPu hx hG g l hl e 8
  .rw[aE_ d,aE_ d];exact amc hx hG g l hl e n h hg _ _
theorem ZFI(n:Int)(m:Bool)(v:oZ):pL m_ a tX qh (ZVQ n (v,m)) ((qn (wk m_ a) 3 (2+n) m).bind λx8=>(qn x8 3 1 Tm).bind λx9=>(qn x9 4 0 Tm).bind λdq=>S8 (dq,v)):=by
 have _u:=hx;have hL:=hG.len;unfold ZVQ;refine pL.qj (vk (by omega) ha _ _ _) (λ_ g _ d _=>?_) (λq=>?_)
 .refine pL.qj (vk (by omega) d _ _ _) (λ_ h _ e _=>?_) (λq=>?_)
  .exact CK hG e _ _ _ _
  .simp only[r_,oT];exact⟨_,rfl,trivial⟩
 .simp only[r_,oT];exact⟨_,rfl,trivial⟩
theorem ZUf:pL m_ a tX qh (ZFz c x) (Zjd c x (wk m_ a)):=by
 have hL:=hG.len;have e:Ep x.c_.b_ c.pX c.e_=S8 (pt c x):=(G8 x.c_.b_ hx.2.1.1 c.pX c.e_).2.1;unfold ZFz Zjd Ns;rw[e,oT,CJ hx];simp only[Pr.bind_assoc];refine pL.qj (vk (by omega) ha _ _ _) (λ_ A _ o _=>?_) (λq=>?_);rotate_left
 .simp only[r_,yV,oT,wv,aFc];exact⟨_,rfl,trivial⟩
 refine pL.qj (vk (by omega) o _ _ _) (λ_ B _ g _=>?_) (λq=>?_);rotate_left
 .simp only[r_,yV,oT,wv,aFc];exact⟨_,rfl,trivial⟩
 refine pL.qj (vk (by omega) g _ _ _) (λ_ D _ t _=>?_) (λq=>?_);rotate_left
 .simp only[yV,oT,wv,aFc];exact⟨_,rfl,trivial⟩
 refine pL.sr (BN (by omega) t _) (λv v' F _ h j=>?_) (λq b _=>?_);rotate_left
 .simp only[wv,aFc];exact⟨_,rfl,trivial⟩
 obtain⟨rfl,j⟩:=j;have jX:=hG.val v j;have qI:=Q7 v.j_ x.c_;simp only[yK,aFb];rw[ZBb _ _ (by unfold maxLen;omega),oT,o8];by_cases h0:xh v.j_ x.c_<0
 .rw[aFa h0,aE_ (show ¬xh v.j_ x.c_>=0 by omega),Pr.pP];exact ZFI hx hG h _ Tl _
 .have ee:v.j_.getD (xh v.j_ x.c_).toNat k_.d=yq v.j_ x.c_:=rfl;rw[aE_ h0,aFa (show xh v.j_ x.c_>=0 by omega),o9 (by omega),ee,uo];by_cases g:(yq v.j_ x.c_).ql=2
  .rw[aFa g,aFa g];refine pL.sr (amb hx hG h v.j_ (by omega) _ _ rfl) (λr r' G _ u y=>?_) (λq b _=>?_)
   .cases y;exact ZFI hx hG u _ r.2 r.1
   .simp only[r_,oT];exact⟨_,rfl,trivial⟩
  .rw[aE_ g,aE_ g,Pr.pP];exact ZFI hx hG h _ Tl _
theorem ZYQ:pL m_ a tX qh (ZQb c x) (ZjS c x (wk m_ a)):=by
 have hL:=hG.len;have en:ZlP x.c_ x.pE=S8 (vO x):=by unfold ZlP;rw[Hb];rfl
 unfold ZQb ZjS;simp only[en,oT];have bD:∀(q:pU)(v:oM),S7 v.j_<=10000->∃d,((Zji v.j_ (vO x) c.qq).bind λx4=>
   bif(x4.2==(0:Int))then
    (vV (wt m_ q) (pM.mk (4:Int) (0:Int) (0:Int)) (oM.mk (0:Int) (a_.mk (l_.mk (oV.mk Tm (0:Int) (0:Int)) (0:Int)) Tm (0:Int) (pW.mk (0:Int) (0:Int)) (0:Int) (0:Int)) ([]:(S5 oD)) x4.1) Tl).bind λx5=>
    (qn x5 (3:Int) (1:Int) (x4.2 != (0:Int))).bind λx6=>
    S8 (x6,(oZ.mk x4.2 (l_.mk (oV.mk Tm (0:Int) (0:Int)) (0:Int)) (0:Int) (0:Int) ([]:(S5 a_))))
   else
    (qn (wt m_ q) (3:Int) (1:Int) (x4.2 != (0:Int))).bind λx7=>
    S8 (x7,(oZ.mk x4.2 (l_.mk (oV.mk Tm (0:Int) (0:Int)) (0:Int)) (0:Int) (0:Int) ([]:(S5 a_)))))=S8 (wt m_ q,d)/\qh d:=by
  intro q v e;rw[ZUb _ _ _ e (ZNj hx),oT];simp only[Hg,r_,oT];cases((vz v.j_ (vO x) c.qq).2==(0:Int))
  .exact⟨_,rfl,trivial⟩
  .exact⟨_,rfl,trivial⟩
 refine pL.qj (vk (by omega) ha _ _ _) (λ_ t _ j _=>?_) (λq=>?_);rotate_left
 .rw[yV,oT];exact bD q rE (by simp[rE])
 refine pL.sr (BN (by omega) j _) (λv v' u _ h e=>?_) (λq b hb=>?_);rotate_left
 .rw[hb];exact bD q rE (by simp[rE])
 obtain⟨rfl,e⟩:=e;have jX:=hG.val v e;have iJ:=anf v.j_ (vO x) c.qq;dsimp only;rw[ZUb _ _ _ (by omega) (ZNj hx),oT,uo];by_cases h0:(vz v.j_ (vO x) c.qq).2=0
 .have g:((vz v.j_ (vO x) c.qq).2 != 0)=Tm:=by rw[h0];rfl
  rw[aFa h0,aFa h0,g];refine pL.qj (EP (by omega) h _ _ _ ⟨UK _,by grind⟩) (λ_ y _ o _=>?_) (λq=>?_)
  .rw[h0];exact CK hG o _ _ _ _
  .rw[r_];exact⟨_,rfl,trivial⟩
 .have g:((vz v.j_ (vO x) c.qq).2 != 0)=Tl:=by simp_all
  rw[aE_ h0,aE_ h0,g];exact CK hG h _ _ _ _
end
section
variable {c:p5} {x:pD} (hx:x.ok) (bN:0<=c.e_) (hs:c.e_<=1000) {m_:S5 oM} (hG:Gl m_)
include hx bN hs hG
theorem am9:pL m_ 0 tX qh (KC c x) (ZkR c x m_):=by
 have bw:pL m_ 0 tX qh BA ((qn (wk m_ 0) (8:Int) (0:Int) Tl).bind λx2=>S8 (x2,wV 1)):=CK hG (UK _) _ _ _ _;have lF:(pz.mk m_ (0:Int) xS Tm)=wk m_ 0:=rfl;have cH:∀r:S6 (pz×oZ),(r.bind λy=>S8 (y.1,y.2))=r:=λr=>by cases r<;>rfl
 unfold KC ZkR;rw[Zul x hx,oT];cases vn x with
 |false=>
  rw[aFb,aE_ (by decide)];exact bw
 |true=>
  rw[aFc,aFa rfl,uo,uo,uo];by_cases d:x.d_=3
  .rw[aFa d,aFa d,cH];exact ama hx bN hs hG (UK _)
  .rw[aE_ d,aE_ d];by_cases e:x.d_=4
   .rw[aFa e,aFa e,cH];exact ZUf hx hG (UK _)
   .rw[aE_ e,aE_ e];by_cases EJ:x.d_=13
    .rw[aFa EJ,aFa EJ,cH];exact ZYQ hx hG (UK _)
    .rw[aE_ EJ,aE_ EJ];exact bw
end
set_option linter.unusedSectionVars false
def Dv(c:p5)(x:pD):Pr oZ:=if x.d_=1 then GV c x else if x.d_=3\/x.d_=4\/x.d_=13 then KC c x else if x.d_=6\/x.d_=7\/x.d_=8\/x.d_=9\/x.d_=10 then KD c x else KJ c x
def Pr.all{α:Type}(Q:α->Prop):Pr α->Prop | .ret x=>Q x | .ask _ k=>∀v,(k v).all Q | .no=>True
variable{α β:Type}{Q:α->Prop}{Q':β->Prop}{l:S5 oM}
theorem Pr.all_bind{p:Pr α}{f:α->Pr β}(h:p.all Q)(d:∀x,Q x->(f x).all Q'):(p.bind f).all Q':=by
 induction p with
 |ret x=>exact d x h
 |ask o k ih=>exact λv=>ih v (h v)
 |no=>trivial
theorem Pr.Jm(p:Pr α):p.all λ_=>True:=by
 induction p with
 |ret x=>trivial
 |ask o k ih=>exact λv=>ih v
 |no=>trivial
theorem Pr.h_{p:Pr α}{f:α->Pr β}(d:∀x,(f x).all Q'):(p.bind f).all Q':=Pr.all_bind (Pr.Jm p) λx _=>d x
theorem Pr.C4{α:Type}{Q:α->Prop}:∀{p:Pr α}{l:S5 oM}{x:α}{g:qA},p.all Q->runT p l=S8 (.ret x g)->Q x
 | .ret y,l,x,g,h,e=>by simp[runT]at e;rw[<-e.1];exact h
 | .ask o k,[],x,g,h,e=>by simp[runT]at e
 | .ask o k,v :: l,x,g,h,e=>Pr.C4 (h v) e
 | .no,l,x,g,h,e=>by simp[runT]at e
theorem ZRO(c:p5)(x:pD):(KJ c x).all λv=>S7 v.pG<=900000:=by
 have none:∀n,(KE n).all λv=>S7 v.pG<=900000:=λn=>Pr.h_ λ_=>UK _;have bw:BA.all λv=>S7 v.pG<=900000:=Pr.h_ λ_=>UK _;have lu:∀n e,(ZIw n e).all λv=>S7 v.pG<=900000:=λn e=>by
  refine Pr.h_ λr=>?_;split
  .exact none n
  .exact Pr.h_ λ_=>Pr.h_ λ_=>Pr.h_ λ_=>UK _
 have ju:∀n,(ZCe n c x).all λv=>v.1.pG.length<=900000:=λn=>by
  refine Pr.h_ λr=>?_;split
  .exact UK _
  .split
   .exact Pr.h_ λ_=>Pr.h_ λ_=>UK _
   .exact Pr.h_ λ_=>UK _
 unfold KJ;split;rotate_left
 .exact bw
 split
 .refine Pr.h_ λr=>?_;split
  .exact none _
  .split
   .exact Pr.h_ λ_=>Pr.h_ λ_=>Pr.h_ λ_=>UK _
   .exact Pr.h_ λ_=>Pr.h_ λ_=>Pr.all_bind (lu _ _) λv d=>Pr.h_ λ_=>d
 .split
  .refine Pr.h_ λr=>?_;split
   .exact none _
   .split
    .exact Pr.h_ λ_=>Pr.h_ λ_=>Pr.h_ λ_=>Pr.all_bind (ju _) λq g=>Pr.h_ λ_=>Pr.h_ λ_=>Pr.h_ λ_=>g
    .exact Pr.h_ λ_=>Pr.h_ λ_=>UK _
  .split
   .refine Pr.h_ λr=>?_;split
    .exact none _
    .split
     .exact Pr.h_ λ_=>Pr.h_ λ_=>UK _
     .exact Pr.h_ λ_=>Pr.h_ λ_=>UK _
   .exact bw
theorem ZTO(c:p5)(x:pD):(KC c x).all λv=>S7 v.pG<=900000:=by
 have bw:BA.all λv=>S7 v.pG<=900000:=Pr.h_ λ_=>UK _;have iM:∀l e k,(ZKm c x l e k).all λr=>r.1.pG.length<=900000:=λl e k=>Pr.h_ λ_=>UK _;unfold KC;split;rotate_left
 .exact bw
 split
 .refine Pr.h_ λ_=>Pr.h_ λ_=>Pr.h_ λ_=>Pr.all_bind (Q:=λr=>r.1.pG.length<=900000) (Pr.h_ λv=>Pr.h_ λo=>?_) λr d=>Pr.h_ λ_=>Pr.h_ λ_=>Pr.h_ λ_=>d;split
  .exact UK _
  .split
   .exact Pr.h_ λ_=>Pr.h_ λ_=>UK _
   .exact UK _
 .split
  .refine Pr.h_ λ_=>Pr.h_ λ_=>Pr.h_ λ_=>Pr.all_bind (Q:=λr=>r.1.pG.length<=900000) (Pr.h_ λv=>?_) λr d=>Pr.h_ λ_=>Pr.h_ λ_=>Pr.h_ λ_=>d;split
   .exact UK _
   .split
    .unfold ZVR;split
     .refine Pr.h_ λb=>?_;split
      .exact iM _ _ _
      .refine Pr.h_ λps=>?_;split
       .exact Pr.h_ λ_=>UK _
       .exact Pr.h_ λ_=>Pr.h_ λ_=>UK _
     .exact iM _ _ _
    .exact UK _
  .split
   .refine Pr.h_ λ_=>Pr.h_ λv=>?_;split
    .exact Pr.h_ λ_=>Pr.h_ λ_=>UK _
    .exact Pr.h_ λ_=>UK _
   .exact bw
def Pr.on{α:Type}(Q:α->Prop)(p:Pr α)(l:S5 oM):Prop:=∀v g,runT p l=S8 (.ret v g)->Q v
theorem Pr.vF{Q:β->Prop}{p:Pr α}{f:α->Pr β}(h:∀x g,runT p l=S8 (.ret x g)->(f x).on Q g.tz):(p.bind f).on Q l:=λv g d=>by
 obtain⟨x,e,j,o⟩:=K5 d
 exact h x e j v g o
theorem Pr.xe{p:Pr α}(h:p.all Q):p.on Q l:=λv g d=>Pr.C4 h d
theorem ZYw(c:p5)(x:pD)(m_:S5 oM)(hG:S7 m_<=800):(KD c x).on (λv=>S7 v.pG<=900000) m_:=by
 have bw:BA.on (λv=>S7 v.pG<=900000) m_:=Pr.xe (Pr.h_ λ_=>UK _);have any:∀{p:Pr oZ},(p.all λv=>S7 v.pG<=900000)->p.on (λv=>S7 v.pG<=900000) m_:=λh=>Pr.xe h;unfold KD;split;rotate_left
 .exact bw
 split
 .refine any ?_;unfold CC;split
  .exact Pr.h_ λ_=>UK _
  .refine Pr.h_ λ_=>Pr.h_ λ_=>Pr.h_ λ_=>Pr.all_bind (Q:=λr=>r.pG.length<=900000) (Pr.h_ λl=>?_) λr d=>Pr.h_ λ_=>Pr.h_ λ_=>Pr.h_ λ_=>d;split
   .exact Pr.h_ λ_=>Pr.h_ λ_=>Pr.h_ λ_=>Pr.h_ λ_=>UK _
   .exact UK _
 split
 .refine any (Pr.h_ λ_=>Pr.h_ λl=>?_);split
  .exact Pr.h_ λ_=>Pr.h_ λ_=>UK _
  .exact Pr.h_ λ_=>UK _
 split
 .exact any (Pr.h_ λ_=>Pr.h_ λl=>Pr.h_ λ_=>UK _)
 split
 .refine any (Pr.h_ λ_=>Pr.h_ λl=>?_);split
  .exact Pr.h_ λ_=>Pr.h_ λ_=>UK _
  .exact Pr.h_ λ_=>UK _
 split
 .have sh:∀{α:Type}{p:Pr α}{l:S5 oM}{v:α}{g:qA},runT p l=S8 (.ret v g)->S7 l<=800->S7 g.tz<=800:=λh hl=>by
   obtain⟨a,B,rfl⟩:=ZBP _ _ _ _ h;simp only[Uv];omega
  refine Pr.vF λ_ D e=>Pr.vF λ_ F j=>Pr.vF λ_ G o=>Pr.vF λb H t=>Pr.vF λv I u=>Pr.vF λall J y=>Pr.xe ?_;have hl:=sh u (sh t (sh o (sh j (sh e hG))));obtain⟨_,A,_⟩:=OQ _ _ _ _ _ _ y;simp only[List.flatten_nil,XB]at A;refine Pr.h_ λ_=>Pr.h_ λ_=>Pr.h_ λ_=>?_;show (s7 all.flatten).length<=900000;rw[EY];omega
 .exact bw
theorem ZSF(c:p5)(x:pD):(GV c x).all λv=>S7 v.pG<=900000:=by
 have I3:((KF c x).bind λr=>(pV 4 0 Tm).bind λ_=>Pr.ret r).all λv=>S7 v.pG<=900000:=by
  unfold KF;simp only[Pr.bind_assoc];refine Pr.h_ λ_=>Pr.h_ λall=>?_;unfold ZBa;simp only[Pr.bind_assoc,Pr.pP];refine Pr.all_bind (Q:=λq:oZ×Bool=>q.1.pG.length<=900000) ?_ λq d=>Pr.h_ λ_=>Pr.h_ λ_=>d;unfold RE;split
  .exact UK _
  .refine Pr.h_ λb=>?_;split
   .exact Pr.h_ λ_=>UK _
   .split
    .exact Pr.h_ λ_=>Pr.h_ λ_=>UK _
    .exact UK _
 unfold GV;split
 .refine Pr.h_ λ_=>Pr.h_ λv=>?_;split
  .exact Pr.h_ λ_=>UK _
  .refine Pr.all_bind (Q:=λq:oZ×Bool=>q.1.pG.length<=900000) ?_ λq d=>?_
   .unfold ZIs;refine Pr.h_ λ_=>Pr.h_ λl=>?_;split
    .exact Pr.h_ λ_=>UK _
    .refine Pr.h_ λb=>?_;split
     .exact Pr.h_ λ_=>Pr.h_ λ_=>UK _
     .exact Pr.h_ λ_=>UK _
   .split
    .exact Pr.h_ λ_=>d
    .exact I3
 .exact Pr.h_ λ_=>UK _
theorem amM(c:p5)(x:pD)(m_:S5 oM)(hG:S7 m_<=800):(Dv c x).on (λv=>S7 v.pG<=900000) m_:=by
 unfold Dv;split
 .exact Pr.xe (ZSF c x)
 .split
  .exact Pr.xe (ZTO c x)
  .split
   .exact ZYw c x m_ hG
   .exact Pr.xe (ZRO c x)
section
variable {c:p5} {x:pD} {m_:S5 oM} (hx:x.ok) (s1:1<=c.e_) (s2:c.e_<=8) (hG:Gl m_)
include hx s1 s2 hG
theorem am_:pL m_ 0 tX qh (Dv c x) (Fa c x m_):=by
 have h0:0<=c.e_:=by omega
 have B:c.e_<=1000:=by omega
 have D:Gd m_:=⟨by have:=hG.len;omega,λv o=>⟨(hG.val v o).1,by have:=(hG.val v o).2.1;omega,by have:=(hG.val v o).2.2;omega⟩⟩;have e:∀r:S6 (pz×oZ),(r.bind λy=>S8 (y.1,y.2))=r:=λr=>by cases r<;>rfl
 unfold Dv Fa Zgz;simp only[e,uo];have W1:=amW hx s1 (by omega) hG (c:=c);have W2:=am9 hx h0 B hG (c:=c);have W3:=am' hx h0 B hG (c:=c);have W4:=am8 hx D (c:=c);by_cases d:x.d_=1
 .rw[aFa d,aFa d];exact W1
 rw[aE_ d,aE_ d];by_cases g:x.d_=3
 .rw[aFa (.inl g),aFa g,aFa g];exact W2
 rw[aE_ g];by_cases h:x.d_=4
 .rw[aFa (.inr (.inl h)),aFa h,aFa h];exact W2
 rw[aE_ h];by_cases KT:x.d_=13
 .rw[aFa (.inr (.inr KT)),aFa KT];exact W2
 rw[pO,aE_ KT];by_cases j:x.d_=6
 .rw[aFa (.inl j),aFa j,aFa j];exact W3
 rw[aE_ j];by_cases t:x.d_=7
 .rw[p7,aFa t,aFa t];exact W3
 rw[aE_ t];by_cases u:x.d_=8
 .rw[p7,aFa u,aFa u];exact W3
 rw[aE_ u];by_cases A:x.d_=9
 .rw[p7,aFa A,aFa A];exact W3
 rw[aE_ A];by_cases Ra:x.d_=10
 .rw[p7,aFa Ra];exact W3
 rw[aE_ Ra,pO];exact W4
end
theorem ZNs(n a b:Int):Am n a b=S8 (decide (n>=a)&&decide (n<=b)):=by
 unfold Am;cases decide (n>=a)<;>rfl
theorem alT{c:Bool}{x y:S6 α}(d:∃b,x=S8 b)(e:∃b,y=S8 b):∃b,(bif c then x else y)=S8 b:=by
 cases c
 .exact e
 .exact d
theorem amh(c:p5):∃b,PK c=S8 b:=by
 unfold PK;simp only[HN,Mt,ZNs,oT]
 repeat' first|exact⟨_,rfl⟩|apply alT
theorem adk(l:S5 oM):∃b,Zpe l=S8 b/\(b=Tl->S7 l<=80/\∀v∈l,S7 v.po<=20/\S7 v.j_<=20):=by
 have aF:∀fu (i:Nat),i<=80->i<=S7 l->80-i<fu->(∀j:Nat,j<i->(l.getD j oM.d).po.length<=20/\(l.getD j oM.d).j_.length<=20) ->
   ∃b,Zhq l fu (i:Int)=S8 b/\(b=Tl->S7 l<=80/\∀v∈l,S7 v.po<=20/\S7 v.j_<=20):=by
  intro fu;induction fu with
  |zero=>intro i _ _ h;omega
  |succ fu ih=>
   intro i hi jj D bH;unfold Zhq;simp only[o8];have bD:S7 l<=i->∀v∈l,S7 v.po<=20/\S7 v.j_<=20:=λhle v A=>by
    obtain⟨j,g,rfl⟩:=List.getElem_of_mem A;rw[<-ua l oM.d j g];exact bH j (by omega)
   by_cases o:(i:Int)<(S7 l:Int)
   .rw[aFa o];by_cases t:(i:Int)<80
    .rw[aFa t,o9 ⟨by omega,by omega⟩];simp only[YO];by_cases u:((l.getD i oM.d).po.length:Int)>20
     .rw[aFa u];exact⟨Tm,rfl,λh=>by cases h⟩
     .rw[aE_ u];by_cases y:((l.getD i oM.d).j_.length:Int)>20
      .rw[aFa y];exact⟨Tm,rfl,λh=>by cases h⟩
      .rw[aE_ y];have B:n_ (i:Int) 1=((i+1:Nat):Int):=pY (n:=81) (by omega) (by unfold maxLen;omega);rw[B];refine ih (i+1) (by omega) (by omega) (by omega) λj g=>?_;by_cases e:j=i
       .subst e;omega
       .exact bH j (by omega)
    .rw[aE_ t];refine⟨_,rfl,λh=>?_⟩;have:=aFq h;have hle:S7 l<=i:=by omega
     exact⟨by omega,bD hle⟩
   .rw[aE_ o];refine⟨_,rfl,λh=>?_⟩;have:=aFq h;exact⟨by omega,bD (by omega)⟩
 exact aF _ 0 (by omega) (by omega) (by omega) (λj g=>by omega)
theorem ZRo(c:p5):HN Tm c=S8 Tm:=by
 simp[HN,Mt,ZNs]
theorem ZYy{c:p5}(h:PK c=S8 Tl):1<=c.e_/\c.e_<=8:=by
 unfold PK at h;simp only[ZNs,oT,ZRo]at h;cases d:(decide (c.rf>=0)&&decide (c.rf<=65535))with
 |false=>rw[d]at h;simp at h
 |true=>
  rw[d,aFc]at h;cases e:(decide (c.rW>=0)&&decide (c.rW<=65535))with
  |false=>rw[e]at h;simp at h
  |true=>
   rw[e,aFc]at h;cases g:(decide (c.e_>=1)&&decide (c.e_<=8))with
   |false=>rw[g]at h;simp at h
   |true=>
    rw[VQ,aFl,aFl]at g;omega
def xr:vo->S5 oM->S6 s8 | .Eb a b d,l=>En a b d l | .K2 p,l=>LX p l | .Jt p,l=>LY p l | .KZ p,l=>Pg p l | .KY p,l=>Ph p l | .KX p,l=>Pj p l | .GU p,l=>LZ p l | .KW p,l=>Pk p l | .KV p,l=>Pm p l | .Js p,l=>L0 p l
def GL(c:p5)(x:pD)(l:S5 oM):S6 s8:=(JR c x).bind λk=>xr k l
section
variable {c:p5} {x:pD} {l:S5 oM} (hx:x.ok) (s1:1<=c.e_) (s2:c.e_<=8) (hG:Gl l)
include hx s1 s2 hG
theorem ZSE:((ZsF c x).bind λk=>xr k l)=(runT (GV c x) l).map yI:=by
 unfold ZsF;rw[oT];show LX _ l=_;unfold LX;rw[ZSN hx hG s1 s2]
theorem ZTN:((ZuJ c x).bind λk=>xr k l)=(runT (KC c x) l).map yI:=by
 unfold ZuJ KC;rw[ZwM x hx,oT];cases vn x with
 |false=>
  simp only[YT,aFc,oT,YQ,aFi,xr];unfold LY;rw[ZFd hx]
 |true=>
  simp only[YP,aFb,aFg,uo];by_cases d:x.d_=3
  .simp only[aFa d,oT,xr];unfold Pg;rw[am3 hx (by omega) hG]
  .by_cases e:x.d_=4
   .simp only[aE_ d,aFa e,oT,xr];unfold Ph;rw[ZSG hx hG]
   .by_cases EJ:x.d_=13
    .simp only[aE_ d,aE_ e,aFa EJ,oT,xr];unfold Pj;rw[ZXn hx hG]
    .simp only[aE_ d,aE_ e,aE_ EJ,oT,xr];unfold LY;rw[ZFd hx]
theorem ZTI:((Hl c x).bind λk=>xr k l)=(runT (KD c x) l).map yI:=by
 have h0:0<=c.e_:=by omega
 have h:c.e_<=1000:=by omega
 unfold Hl ZvO KD;rw[ZwM x hx,oT];have bD:∀p:Pr oZ,(tb (runT p l) λa g=>S8 (o7.ret a g)).map yI=(runT p l).map yI:=λp=>congrArg (Option.map yI) (Hc (λ_ _=>rfl) (λ_=>rfl));cases vn x with
 |false=>
  simp only[YT,aFc,oT,YQ,aFi,xr];unfold En Gx;simp only[ZFc];exact bD _
 |true=>
  simp only[YP,aFb,aFg,uo];by_cases h6:x.d_=6
  .simp only[aFa h6,oT,xr];unfold En Gx;simp only[am1 hx h0 h hG];exact bD _
  .by_cases d:x.d_=7
   .simp only[aE_ h6,aFa d,oT,xr];unfold En Gx;simp only[ZXc hx hG];exact bD _
   .by_cases h8':x.d_=8
    .simp only[aE_ h6,aE_ d,aFa h8',oT,xr];unfold En Gx;simp only[ZSM hx hG];exact bD _
    .by_cases e:x.d_=9
     .simp only[aE_ h6,aE_ d,aE_ h8',aFa e,oT,xr];unfold En Gx;simp only[anc hx hG];exact bD _
     .by_cases Db:x.d_=10
      .simp only[aE_ h6,aE_ d,aE_ h8',aE_ e,aFa Db,oT,xr];unfold En Gx;simp only[am6 hx hG h0 h];exact bD _
      .simp only[aE_ h6,aE_ d,aE_ h8',aE_ e,aE_ Db,oT,xr];unfold En Gx;simp only[ZFc];exact bD _
theorem ZRN:((JU c x).bind λk=>xr k l)=(runT (KJ c x) l).map yI:=by
 have hl:Gd l:=⟨by have:=hG.len;omega,λv g=>⟨(hG.val v g).1,by have:=(hG.val v g).2.1;omega,by have:=(hG.val v g).2.2;omega⟩⟩;unfold JU KJ;rw[ZwM x hx,oT];cases vn x with
 |false=>
  simp only[YT,aFc,oT,YQ,aFi,xr];unfold LZ;rw[ZLk]
 |true=>
  simp only[YP,aFb,aFg,uo];by_cases d:x.d_=2
  .simp only[aFa d,oT,xr];unfold Pk;rw[ZXm hx hl]
  .by_cases e:x.d_=5
   .simp only[aE_ d,aFa e,oT,xr];unfold Pm;rw[ZXo hx hl]
   .by_cases wN:x.d_=11
    .simp only[aE_ d,aE_ e,aFa wN,oT,xr,aFa (Or.inl wN)];unfold L0;rw[ZQX hx hl]
     all_goals simp[wN]
    .by_cases zm:x.d_=12
     .simp only[aE_ d,aE_ e,aE_ wN,aFa zm,oT,xr];unfold L0;rw[ZQX hx hl]
      all_goals simp[zm]
     .simp only[aE_ d,aE_ e,aE_ wN,aE_ zm,oT,xr];unfold LZ;rw[ZLk]
      all_goals simp[wN,zm]
theorem ZPd:GL c x l=(runT (Dv c x) l).map yI:=by
 have e:∀r:S6 vo,(r.bind λy=>S8 y)=r:=λr=>by cases r<;>rfl
 unfold GL Dv JR Pn;simp only[e,uo];have W1:=ZSE hx s1 s2 hG;have W2:=ZTN hx s1 s2 hG;have W3:=ZTI hx s1 s2 hG;have W4:=ZRN hx s1 s2 hG;by_cases d:x.d_=1
 .rw[aFa d,aFa d];exact W1
 rw[aE_ d,aE_ d];by_cases g:x.d_=3
 .have o:x.d_=3\/x.d_=4\/x.d_=13:=.inl g;rw[aFa g,aFa g,aFa o];exact W2
 rw[aE_ g];by_cases h:x.d_=4
 .have o:x.d_=3\/x.d_=4\/x.d_=13:=.inr (.inl h);rw[aFa h,aFa h,aFa o];exact W2
 rw[aE_ h];by_cases KT:x.d_=13
 .have o:x.d_=3\/x.d_=4\/x.d_=13:=.inr (.inr KT);rw[aFa KT,aFa o];exact W2
 have o:¬(x.d_=3\/x.d_=4\/x.d_=13):=by omega
 rw[aE_ KT,aE_ o];by_cases j:x.d_=6
 .have o:x.d_=6\/x.d_=7\/x.d_=8\/x.d_=9\/x.d_=10:=by omega
  rw[aFa j,aFa j,aFa o];exact W3
 rw[aE_ j];by_cases t:x.d_=7
 .have o:x.d_=6\/x.d_=7\/x.d_=8\/x.d_=9\/x.d_=10:=by omega
  rw[aFa t,aFa t,aFa o];exact W3
 rw[aE_ t];by_cases u:x.d_=8
 .have o:x.d_=6\/x.d_=7\/x.d_=8\/x.d_=9\/x.d_=10:=by omega
  rw[aFa u,aFa u,aFa o];exact W3
 rw[aE_ u];by_cases A:x.d_=9
 .have o:x.d_=6\/x.d_=7\/x.d_=8\/x.d_=9\/x.d_=10:=by omega
  rw[aFa A,aFa A,aFa o];exact W3
 rw[aE_ A];by_cases Ra:x.d_=10
 .have o:x.d_=6\/x.d_=7\/x.d_=8\/x.d_=9\/x.d_=10:=by omega
  rw[aFa Ra,aFa o];exact W3
 have o:¬(x.d_=6\/x.d_=7\/x.d_=8\/x.d_=9\/x.d_=10):=by omega
 rw[aE_ Ra,aE_ o];exact W4
theorem ZBI:(∃v a,GL c x l=S8 ⟨xS,v,Tl,Tm⟩/\Fa c x l=S8 (wk l a,v)/\S7 v.pG<=900000) \/
  (∃q b,GL c x l=S8 ⟨q,oZ.d,Tm,Tm⟩/\Fa c x l=S8 (wt l q,b)/\C5 q.qL/\runT (Dv c x) l=S8 (.uF q)):=by
 have h:=am_ hx s1 s2 hG;have j:=ZPd hx s1 s2 hG;unfold pL at h;rw[YZ]at h;rcases h with⟨v,b,a,e,g,o,t,u⟩|⟨q,b,e,g,o,t⟩
 .cases u;exact .inl ⟨v,a,by rw[j,e];rfl,g,amM c x l hG.len v _ e⟩
 .exact .inr ⟨q,b,by rw[j,e];rfl,g,o,e⟩
end
def Pr.adi{α:Type}:Pr α->Bool | .ask _ _=>Tl|_=>Tm
theorem ZKT(c:p5)(x:pD):∃q,runT (Dv c x) []=S8 (.uF q):=by
 have h:(Dv c x).adi=Tl:=by
  unfold Dv GV KC KD KJ CC
  repeat' split
  all_goals rfl
 cases hp:Dv c x with
 |ret v=>rw[hp]at h;cases h
 |ask o k=>exact⟨_,rfl⟩
 |no=>rw[hp]at h;cases h
theorem ZBF(c:p5)(t:rU)(h0:0<=t.qM)(h:t.qM<(S7 t.pZ:Int)){r:s8}(e:GL c (t.pZ.getD t.qM.toNat pD.d) t.qm=S8 r):Hj c t=S8 r:=by
 unfold Hj;rw[o9 ⟨h0,h⟩];unfold GL at e;cases g:JR c (t.pZ.getD t.qM.toNat pD.d)with
 |none=>rw[g]at e;cases e
 |some k=>
  rw[g,oT]at e;rw[oT];cases k<;>(simp only[xr]at e;dsimp only;rw[e];rfl)
theorem ZFu(t:rU)(j:S7 t.pZ<=100000)(o:S7 t.qm<=100000)(u:S7 t.pA<=100000)(h:∀v∈t.qm,C5 v)(hp:∀r∈t.pA,S7 r.pG<=900000):ZiB t t=S8 Tl:=by
 unfold ZiB;simp only[bne_self_eq_false,cond_false,beq_self_eq_true,YP];have m2:∀(k i fu:Nat)(v5 v6:Int)(K0:Int->rU->rU->S6 Bool)(K1:Int->S6 Bool),S7 t.pA-i=k->i<=S7 t.pA->k<fu->Mn v5 t t v6 K0 K1 fu (i:Int)=S8 Tl:=by
  intro k;induction k with
  |zero=>
   intro i fu v5 v6 K0 K1 e hi g;obtain⟨fu,rfl⟩:=sC fu;unfold Mn;rw[o8,pO]
  |succ k ih=>
   intro i fu v5 v6 K0 K1 e hi g;obtain⟨fu,rfl⟩:=sC fu;unfold Mn;have bE:i<S7 t.pA:=by omega
   rw[o8,p7,o8,p7,o9 (by omega),o9 (by omega),YO,Zxj _ (by have:=hp _ (wy t.pA oZ.d i bE);omega),oT,YP,aFb,pY bE (by unfold maxLen;omega)];exact ih (i+1) fu v5 v6 K0 K1 (by omega) (by omega) (by omega)
 have m1:∀(k i fu:Nat)(v5:Int)(K0:Int->rU->rU->S6 Bool),S7 t.qm-i=k->i<=S7 t.qm->k<fu->HI v5 t t K0 fu (i:Int)=S8 Tl:=by
  intro k;induction k with
  |zero=>
   intro i fu v5 K0 e hi g;obtain⟨fu,rfl⟩:=sC fu;unfold HI;rw[o8,pO];exact m2 t.pA.length 0 1000000 _ _ _ _ (by omega) (by omega) (by omega)
  |succ k ih=>
   intro i fu v5 K0 e hi g;obtain⟨fu,rfl⟩:=sC fu;unfold HI;have bE:i<S7 t.qm:=by omega
   rw[o8,p7,o8,p7,o9 (by omega),o9 (by omega),YO,Zxi _ (h _ (wy t.qm oM.d i bE)),oT,YP,aFb,pY bE (by unfold maxLen;omega)];exact ih (i+1) fu v5 K0 (by omega) (by omega) (by omega)
 have m0:∀(k i fu:Nat),S7 t.pZ-i=k->i<=S7 t.pZ->k<fu->Kj fu (i:Int) t t=S8 Tl:=by
  intro k;induction k with
  |zero=>
   intro i fu e hi g;obtain⟨fu,rfl⟩:=sC fu;unfold Kj;rw[o8,pO];exact m1 t.qm.length 0 1000000 _ _ (by omega) (by omega) (by omega)
  |succ k ih=>
   intro i fu e hi g;obtain⟨fu,rfl⟩:=sC fu;unfold Kj;have bE:i<S7 t.pZ:=by omega
   rw[o8,p7,o8,p7,o9 (by omega),o9 (by omega),aFk rfl,YP,aFb,pY bE (by unfold maxLen;omega)];exact ih (i+1) fu (by omega) (by omega) (by omega)
 exact m0 t.pZ.length 0 1000000 (by omega) (by omega) (by omega)
theorem ZWR:PH=S8 Tl:=by decide +kernel
structure TS (c:p5) (l:List pD) (n:Nat) (t:rU):Prop where
 calls:t.pZ=l
 lo:0<=t.qM
 hi:t.qM<=(S7 l:Int)
 br:t.qC=Tm
 I9:S7 t.qm<=n
 m_:∀v∈t.qm,v.ok/\S7 v.po<=20/\S7 v.j_<=20
 NB:(S7 t.pA:Int)=t.qM
 I4:∀r∈t.pA,S7 r.pG<=900000
 wait:t.qM<(S7 l:Int)->∃q,runT (Dv c (l.getD t.qM.toNat pD.d)) t.qm=S8 (.uF q)
section
variable {c:p5} {l:S5 pD} {m_:S5 oM} (s1:1<=c.e_) (s2:c.e_<=8) (hl : ∀ x ∈ l,x.ok) (h6:S7 l<=6) (hg : ∀ v ∈ m_,v.ok/\S7 v.po<=20/\S7 v.j_<=20) (jv:S7 m_<=80)
include s1 s2 hl h6 hg jv
variable{n:Nat}{t:rU}
theorem TS.gl(h:TS c l n t)(e:n<=80):Gl t.qm:=⟨by have:=h.I9;omega,λv d=>⟨(h.m_ v d).1,by have:=(h.m_ v d).2.1;omega,by have:=(h.m_ v d).2.2;omega⟩⟩
theorem TS.same(h:TS c l n t)(e:n<=81):ZiB t t=S8 Tl:=
 ZFu t (by rw[h.calls];omega) (by have:=h.I9;omega) (by have:=h.NB;have:=h.hi;omega) (λv d=>⟨by have:=(h.m_ v d).2.1;omega,by have:=(h.m_ v d).2.2;omega⟩) h.I4
theorem ZTv:∀(k i fu:Nat)(t:rU),S7 m_-i=k->i<=S7 m_->k<fu->TS c l i t->Qh m_ c fu (i:Int) t t=S8 Tl:=by
 intro k;induction k with
 |zero=>
  intro i fu t H hi I h;obtain⟨fu,rfl⟩:=sC fu;unfold Qh;rw[o8,pO,ZWR];rfl
 |succ k ih=>
  intro i fu t H hi I h;obtain⟨fu,rfl⟩:=sC fu;have bE:i<S7 m_:=by omega
  have zC:=h.lo;have zD:=h.hi;have g:=hg _ (wy m_ oM.d i bE);have next:=λt' (h':TS c l (i+1) t')=>ih (i+1) fu t' (by omega) (by omega) (by omega) h'
  have J:n_ (i:Int) 1=((i+1:Nat):Int):=pY bE (by unfold maxLen;omega);have hb:=h.br;have fR:LF t=S8 (decide (t.qM>=(S7 l:Int))):=by
   unfold LF;rw[hb,cond_false,decide_eq_false (by omega),cond_false,h.calls]
  have dN:PT t=S8 (decide (t.qM>=(S7 l:Int))):=by
   unfold PT;rw[h.calls]
  unfold Qh;rw[o8,p7,J];simp only[YO];generalize m_.getD i oM.d=v at g ⊢;by_cases ho:t.qM<(S7 l:Int)
  .obtain⟨M,hq0⟩:=h.wait ho;have hx:=hl _ (wy l pD.d t.qM.toNat);have cE:t.qM<(S7 t.pZ:Int):=by rw[h.calls];exact ho
   have hG:=h.gl s1 s2 hl h6 hg jv (by omega);have y:decide (t.qM>=(S7 l:Int))=Tm:=aFo (by omega);rw[y]at fR dN;rcases ZBI hx s1 s2 hG with⟨w,a,o,D,F⟩|⟨q,b,o,D,F,O⟩
   .rw[ZPd hx s1 s2 hG,hq0]at o;cases o
   have tn:Hj c t=S8 ⟨q,oZ.d,Tm,Tm⟩:=ZBF c t zC cE (by rw[h.calls];exact o);have n1:LD c t=S8 (q,Tl):=by
    unfold LD;rw[fR,oT,cond_false,tn];rfl
   have n2:PS c t=S8 (q,Tl):=by
    unfold PS;rw[dN,oT,cond_false,o9 ⟨zC,cE⟩,h.calls,D];rfl
   have hgl:=h.I9;have g8:=h.NB;have nx:(t.qm++[v]).length=S7 t.qm+1:=by simp
   -- it is told a value
   have hG':Gl (t.qm++[v]):=⟨by omega,λu j=>by
    rcases T9.1 j with e|e
    .exact hG.val u e
    .rw[Y9.1 e];exact⟨g.1,by have:=g.2.1;omega,by have:=g.2.2;omega⟩⟩
   have lQ:∀u∈t.qm++[v],u.ok/\S7 u.po<=20/\S7 u.j_<=20:=λu j=>by
    rcases T9.1 j with e|e
    .exact h.m_ u e
    .rw[Y9.1 e];exact g
   have m1:S7 t.qm * 136<=140737488355328/\S7 t.qm<=maxLen:=⟨by omega,by unfold maxLen;omega⟩;have m2:(t.qm++[v]).length * 136<=140737488355328/\(t.qm++[v]).length<=maxLen:=⟨by omega,by unfold maxLen;omega⟩;have m3:S7 t.pA * 80<=140737488355328/\S7 t.pA<=maxLen:=⟨by omega,by unfold maxLen;omega⟩;have ca:Zcl t.qm=S8 t.qm:=by
    unfold Zcl;rw[o9 m1]
   have cb:Zcm t.pA=S8 t.pA:=by
    unfold Zcm;rw[o9 m3]
   have tk:∃t' d,JS c t v=S8 (t',d)/\Ml c t v=S8 (t',d)/\TS c l (i+1) t':=by
    rcases ZBI hx s1 s2 hG' with⟨w,a,u1,u2,u3⟩|⟨q',b',u1,u2,u3,u4⟩
    .have nP:Hj c ⟨t.pZ,t.qM,t.qm++[v],t.pA,t.qC⟩=S8 ⟨xS,w,Tl,Tm⟩:=ZBF c ⟨t.pZ,t.qM,t.qm++[v],t.pA,t.qC⟩ zC cE (by show GL c (t.pZ.getD t.qM.toNat pD.d) (t.qm++[v])=_;rw[h.calls];exact u1);have nQ:Fa c (t.pZ.getD t.qM.toNat pD.d) (t.qm++[v])=S8 (wk (t.qm++[v]) a,w):=by rw[h.calls];exact u2
     have nr:(t.pA++[w]).length=S7 t.pA+1:=by simp
     have m4:(t.pA++[w]).length * 80<=140737488355328/\(t.pA++[w]).length<=maxLen:=⟨by omega,by unfold maxLen;omega⟩;have ea:n_ t.qM 1=t.qM+1:=s_ (by omega) (by omega);refine⟨⟨t.pZ,t.qM+1,[],t.pA++[w],t.qC⟩,Tl,?_,?_,⟨h.calls,by show 0<=t.qM+1;omega,by show t.qM+1<=(S7 l:Int);omega,hb,UK _,λu j=>by (cases j),by show ((t.pA++[w]).length:Int)=t.qM+1;omega,λr L=>?_,λe=>ZKT c _⟩⟩
     .unfold JS;rw[fR,oT,aFb,ca,oT,o9 m2,nP,oT,aFb,YP,aFb,cb,oT,o9 m4,ea]
     .unfold Ml;simp only[YY];rw[dN,oT,aFb,o9 m1,o9 m2,o9 ⟨zC,cE⟩,nQ,oT];show (bif Tm then _ else _)=_;rw[aFb,o9 m3,o9 m4,ea]
     .rcases T9.1 L with e|e
      .exact h.I4 r e
      .rw[Y9.1 e];exact u3
    .have nP:Hj c ⟨t.pZ,t.qM,t.qm++[v],t.pA,t.qC⟩=S8 ⟨q',oZ.d,Tm,Tm⟩:=ZBF c ⟨t.pZ,t.qM,t.qm++[v],t.pA,t.qC⟩ zC cE (by show GL c (t.pZ.getD t.qM.toNat pD.d) (t.qm++[v])=_;rw[h.calls];exact u1);have nQ:Fa c (t.pZ.getD t.qM.toNat pD.d) (t.qm++[v])=S8 (wt (t.qm++[v]) q',b'):=by rw[h.calls];exact u2
     refine⟨⟨t.pZ,t.qM,t.qm++[v],t.pA,t.qC⟩,Tm,?_,?_,⟨h.calls,zC,zD,hb,by show (t.qm++[v]).length<=i+1;omega,lQ,g8,h.I4,λ_=>⟨q',by show runT (Dv c (l.getD t.qM.toNat pD.d)) (t.qm++[v])=_;exact u4⟩⟩⟩
     .unfold JS;rw[fR,oT,aFb,ca,oT,o9 m2,nP,oT,aFb,YT,aFc]
     .unfold Ml;simp only[YY];rw[dN,oT,aFb,o9 m1,o9 m2,o9 ⟨zC,cE⟩,nQ,oT];rfl
   obtain⟨t',d,A,B,G⟩:=tk;rw[n1,n2,oT,oT,Zui q F,oT,YP,aFb,aFp,YP,aFb,fR,dN,oT,oT,aFp,YP,aFb,o9 (by omega),A,B,oT,oT,aFp,YP,aFb,G.same s1 s2 hl h6 hg jv (by omega),oT,YP,aFb];exact next t' G
  .have y:decide (t.qM>=(S7 l:Int))=Tl:=aFk (by omega);rw[y]at fR dN;have n1:LD c t=S8 (xS,Tm):=by
    unfold LD;rw[fR,oT,cond_true];rfl
   have n2:PS c t=S8 (xS,Tm):=by
    unfold PS;rw[dN,oT,cond_true];rfl
   have A:JS c t v=S8 (t,Tm):=by
    unfold JS;rw[fR,oT,cond_true]
   have B:Ml c t v=S8 (t,Tm):=by
    unfold Ml;rw[dN,oT,cond_true]
   rw[n1,n2,oT,oT,Zui xS GN,oT,YP,aFb,aFp,YP,aFb,fR,dN,oT,oT,aFp,YP,aFb,o9 (by omega),A,B,oT,oT,aFp,YP,aFb,h.same s1 s2 hl h6 hg jv (by omega),oT,YP,aFb];exact next t ⟨h.calls,zC,zD,hb,by have:=h.I9;omega,h.m_,h.NB,h.I4,h.wait⟩
end
theorem alU(h:zA oM.ok l)(g:S7 l<=80)(e:∀v∈l,S7 v.po<=20/\S7 v.j_<=20):Gl l:=⟨by omega,λv d=>⟨h.2 v d,by have:=(e v d).1;omega,by have:=(e v d).2;omega⟩⟩
theorem ZDn(c:p5)(l:S5 pD)(m_:S5 oM)(D:c.ok)(hl:zA pD.ok l)(hg:zA oM.ok m_):ZhA c l m_=S8 Tl:=by
 obtain⟨b,hb⟩:=amh c;obtain⟨d,B,fQ⟩:=adk m_;unfold ZhA;rw[hb,oT,ZWR,B,oT,oT];cases b with
 |false=>rfl
 |true=>
  obtain⟨s1,s2⟩:=ZYy hb;rw[YP,aFb];cases d with
  |false=>rfl
  |true=>
   rw[YP,aFb];obtain⟨jv,iN⟩:=fQ rfl;have hG:=alU hg jv iN;by_cases h6:S7 l<=6
   .have bD:CY l m_ c=S8 Tl:=by
     unfold CY ZwD Zcu;rw[o9 ⟨by omega,by unfold maxLen;omega⟩,oT,oT];exact ZTv s1 s2 hl.2 h6 (λv y=>⟨hg.2 v y,iN v y⟩) jv m_.length 0 _ _ (by omega) (by omega) (by omega) ⟨rfl,by show (0:Int)<=0;omega,by show (0:Int)<=_;omega,rfl,UK _,λu j=>by (cases j),rfl,λu j=>by (cases j),λ_=>ZKT c _⟩
    rw[o8,pO];by_cases h0:0<S7 l
    .have hx:=hl.2 _ (wy l pD.d 0 h0);rw[o8,p7,o9 (by omega)];have isT:∃t w v,GL c (l.getD 0 pD.d) m_=S8 t/\Fa c (l.getD 0 pD.d) m_=S8 (w,v)/\CW t w v=S8 Tl:=by
      rcases ZBI hx s1 s2 hG with⟨w,a,e,g,h⟩|⟨q,b,e,g,h,F⟩
      .refine⟨_,_,_,e,g,?_⟩;unfold CW;have o:J1 xS (pU.mk (0:Int) (0:Int) (pM.mk (0:Int) (0:Int) (0:Int)) (0:Int) (0:Int) (oM.mk (0:Int) (a_.mk (l_.mk (oV.mk Tm (0:Int) (0:Int)) (0:Int)) Tm (0:Int) (pW.mk (0:Int) (0:Int)) (0:Int) (0:Int)) ([]:(S5 oD)) ([]:(S5 k_))) Tm)=S8 Tl:=Zui xS GN;show (bif Tm then _ else _)=_;rw[aFb,aFc,YT,aFc,o,oT,aFc,Zxj w (by omega)];rfl
      .refine⟨_,_,_,e,g,?_⟩;unfold CW;have o:J1 q (wt m_ q).s'=S8 Tl:=Zui q h;show (bif Tl then _ else _)=_;rw[aFc,YT,aFc,o,oT,aFc];rfl
     obtain⟨t,w,v,e,g,h⟩:=isT;rw[show (0:Int).toNat=0 from rfl,g,oT];unfold GL at e;cases A:JR c (l.getD 0 pD.d)with
     |none=>rw[A]at e;cases e
     |some k=>
      rw[A,oT]at e;rw[oT];cases k<;>(simp only[xr]at e;dsimp only;rw[e,oT,h,oT,YP,aFb];exact bD)
    .rw[o8,pO];exact bD
   .rw[o8,p7]
end Go.Proofs.YtmcnjofonpkfmaaGreat
