import Derived.Test.YtmcnjofonpkfmaaGreatHTskA4
open BitVec renaming ofInt->Tz
open Bool renaming not_true->YP,false_eq_true->YQ,not_false->YT,true_and->YV,false->Tm,true->Tl,eq_iff_iff->Y6,not_eq_true'->VR,cond_eq_ite->XA,and_eq_true->VQ
open Go.Proofs renaming ltOf->Wo
open Int renaming toNat_natCast->YO,fdiv_eq_ediv_of_nonneg->YW,natCast_zero->YX,fdiv->Xo,toNat_of_nonneg->Xw,fdiv_eq_tdiv_of_nonneg->Y',tdiv->Yc,tmod_eq_emod_of_nonneg->Zj,tmod->XZ,le_refl->ZJ
open Go.IntKind renaming bits->UB,wrap->US,signed->Ut,u64->Wn,i64->TZ,min->ZB,max->UT,u8->ZL,u32->ZM
open List renaming take_succ_eq_append_getElem->YR,mem_append->T9,nil_append->YY,drop_zero->YZ,pairwise_append->Y4,takeWhile_cons->Y7,dropWhile_cons->Y8,mem_singleton->Y9,filter_append->Wa,drop_eq_nil_of_le->Y_,contains_iff_mem->Zb,getElem_of_mem->UZ,append_assoc->Vl,takeWhile_append_dropWhile->Zf,take_length->Zg,pairwise_iff_getElem->Zi,pairwise_singleton->Zk,length_filter_le->Zn,length->Vt,take_set_of_le->Zp,filter_eq_self->VX,find?_append->Zv,drop_length->Zx,mem_filter->VU,filter_nil->Zy,append_nil->Zz,mem_cons->VJ,range->Tr,length->S7
open Nat renaming pow_le_pow_right->YS,testBit_lt_two_pow->YU,lt_of_lt_of_le->TC,eq_of_testBit_eq->Y0,testBit_two_pow_mul->Y3,pow_add->Y5,testBit_and->Za,div_add_mod->WT,le_div_iff_mul_le->Zc,pow_pos->Zd,le_refl->Tq,mod_lt->Ub,testBit_eq_decide_div_mod_eq->Ze,testBit_two_pow_sub_one->Zh,testBit_div_two_pow->Zl,pow_succ->Zm,div_lt_iff_lt_mul->Zo,mul_one->UM,xor_lt_two_pow->Zq,sub_le->Zr,lt_of_le_of_lt->Zs,eq_zero_or_pos->Zt,and_lt_two_pow->Zu,div_le_self->ZA,mul_assoc->ZC,zero_add->TX,lt_or_ge->ZD,and_zero->ZE,testBit->ZH,mul_sub->ZI
open Option renaming bind_some->Xt,some->S8
open Option.some renaming injEq->S9
namespace Go.Proofs.YtmcnjofonpkfmaaGreat
set_option linter.unusedSimpArgs false
set_option linter.unusedVariables false
theorem yQ{a:Int}(h:0<=a):∃n:Nat,a=n:=⟨a.toNat,by omega⟩
def tC(a:oV):Bool:=if a.qt then !(decide (a.rk=0)&&decide (a.qX / 4294967296=65535))else decide (a.rk=0)&&decide (a.qX<4294967296)
theorem alW(n:Nat)(h:n<=18446744073709551615):ZM.wrap (Wn.wrap (((Tz (UB .u64) (n:Int)) &&& (Tz (UB .u64) (4294967295:Int))).toNat:Int))=((n % 4294967296:Nat):Int):=by
 have:=ZOO n 4294967295 (by omega) (by omega);rw[show ((4294967295:Nat):Int)=(4294967295:Int)from rfl]at this;rw[this,show (4294967295:Nat)=2 ^ 32-1 from rfl,Nat.and_two_pow_sub_one_eq_mod];rw[show (2:Nat) ^ 32=4294967296 from rfl];have d:n % 4294967296<4294967296:=Ub _ (by omega);rw[Ay (by omega) (by omega)];simp only[US,UB,Ut];simp
theorem acJ(n:Nat)(h:n<4294967296):RT ((n:Nat):Int)=S8 ⟨Tm,0,n⟩:=by
 unfold RT;rw[Ay (by omega) (by omega)]
theorem JO(a:oV)(h:a.ok):E6 a=S8 (tC a):=by
 obtain⟨v,hi,lo⟩:=a;obtain⟨_,e,d,_⟩:=h;have e:=BC e;have d:=BC d;simp only at e d;obtain⟨n,rfl⟩:=yQ d.1;have hm:=alW n (by omega);have qI:n % 4294967296<4294967296:=Ub _ (by omega);have g:Xo (n:Int) (2 ^ (min (32:Int).toNat (UB .u64)))=(n:Int) / 4294967296:=by
  rw[show (2:Int) ^ (min (32:Int).toNat (UB .u64))=4294967296 from rfl,YW _ (by omega)]
 cases v with
 |true=>
  simp only[E6,ZCG,tC,aFc,g,hm];have hb:∀(p q:Int),(p==q)=decide (p=q):=λp q=>by rfl
  have j:=acJ _ qI;by_cases o:hi=0
  .by_cases t:(n:Int) / 4294967296=65535
   all_goals simp_all
  simp_all
 |false=>
  simp only[E6,tC,aFb,hm,acJ _ qI,Xt];congr 1
  grind
theorem Gq(a:oV)(h:a.ok):CV a=S8 (tC a):=by
 obtain⟨v,hi,lo⟩:=a;obtain⟨_,e,d,_⟩:=h;have e:=BC e;have d:=BC d;simp only at e d;have g:Wn.wrap (Yc lo 4294967296)=lo / 4294967296:=by
  rw[Int.tdiv_eq_ediv_of_nonneg d.1];exact Ay (by omega) (by omega)
 cases v with
 |true=>
  simp only[CV,tC,g,YP,aFb,aFg]
  grind
 |false=>
  simp only[CV,tC,YT,aFc,YQ,aFi]
  grind
theorem ZPq(a b:oV):ZgE a b=S8 (uy a b):=by
 obtain⟨v,hi,lo⟩:=a;obtain⟨v',cO,lT⟩:=b;simp only[ZgE,Zhf,Zhe,uy,vP,sK,xm,oV.mk.injEq]
 grind
theorem ZYM(a b:pn):ZiI a b=S8 (rb a b):=by
 simp only[ZiI,ZPq,Xt,rb,xm,sK]
 grind
def BM(a:l_):Bool:=tC a.b_&&decide (1<=a.qE)&&decide (a.qE<=65535)
theorem ZEQ(a:l_)(h:a.ok):O6 a=S8 (BM a):=by
 simp only[O6,JO _ h.1,BM,Xt]
 grind
theorem ZAA(a:l_)(h:a.ok):ZhX a=S8 (BM a):=by
 simp only[ZhX,Gq _ h.1,BM,Xt]
 grind
def CL(e:k_):Bool:=BM e.c_&&decide (1<=e.ql)&&decide (e.ql<=3)&&decide (0<=e.p6)&&decide (e.p6<=1000)&&decide (0<=e.pS)&&decide (e.pS<=1099511627776)
theorem alz(n:Int):(n==(if(1099511627776:Int)<(if(0:Int)>n then(0:Int)else n)then(1099511627776:Int)else(if(0:Int)>n then(0:Int)else n)))=(decide (0<=n)&&decide (n<=1099511627776)):=by
 grind
theorem ZxU(e:k_)(h:e.ok):O' e=S8 (CL e):=by
 simp only[O',ZEQ _ h.1,zt,alz,CL,Xt]
 grind
theorem ZsI(e:k_)(h:e.ok):PJ e=S8 (CL e):=by
 simp only[PJ,ZAA _ h.1,CL,Xt]
 grind
def qK(a b:l_):Int:=xm (uy a.b_ b.b_) (sK a.qE b.qE)
theorem Rs(a b:l_):JW a b=S8 (qK a b):=by
 simp only[JW,ZQT,K7,N_,Xt,qK]
theorem Rz(a b:l_):Kl a b=S8 (qK a b):=by
 simp only[Kl,ZPq,Xt,qK,xm,sK]
 grind
variable{a:oV}{p n q:pn}{t:uE}{ac:Int}{b:l_}{v:Bool}{l:S5 rq}{α:Type}{i:Nat}{r:S5 oD}
theorem ZWA{a:l_}:qK a b<0↔uy a.b_ b.b_<0\/(a.b_=b.b_/\a.qE<b.qE):=by simp only[qK,QY,Q3,OA]
theorem alO{a:l_}:0<qK a b↔0<uy a.b_ b.b_\/(a.b_=b.b_/\b.qE<a.qE):=by simp only[qK,QX,Q2,OA]
theorem JC{a:l_}:qK a b=0↔a=b:=by
 simp only[qK,ZBf,EX,OA];obtain⟨x,p⟩:=a;obtain⟨y,q⟩:=b;simp
theorem Eh{a b:l_}:0<qK a b↔qK b a<0:=by
 rw[alO,ZWA,ZKL]
 grind
theorem OE{a c:l_}(d:qK a b<0)(e:qK b c<0):qK a c<0:=by
 rw[ZWA]at *
 rcases d with d|⟨d,g⟩<;>rcases e with e|⟨e,h⟩
 .exact .inl (ZEW d e)
 all_goals grind
def xh(l:S5 k_)(e:l_):Int:=rM (λx=>decide (x.c_=e)) l 0
def QS(l:S5 k_)(e:l_):Int:=rM (λx=>decide (0<qK x.c_ e)) l 0
theorem Zzn(l:S5 k_)(e:l_)(hl:S7 l<=maxLen):Ly l e=S8 (xh l e):=by
 simp only[Ly,Zej];rw[show ((0:Int))=((0:Nat):Int)from rfl];rw[CM l k_.d (λx=>decide (x.c_=e)) hl (λfu i=>Qx l e fu (S7 l:Int) i) (λi=>i) ?_ ?_ _ 0 (by omega) (by omega)]
 .rfl
 .intro fu i hi;simp only[Qx,ZuS,o8,Xt];rw[p7,o9 ⟨by omega,by omega⟩];simp
 .intro fu;simp only[Qx,o8];rw[pO]
theorem ZBb(l:S5 k_)(e:l_)(hl:S7 l<=maxLen):Mj l e=S8 (xh l e):=by
 simp only[Mj];rw[show ((0:Int))=((0:Nat):Int)from rfl];rw[CM l k_.d (λx=>decide (x.c_=e)) hl (λfu i=>PX l fu i e) (λi=>i) ?_ ?_ _ 0 (by omega) (by omega)]
 .rfl
 .intro fu i hi;simp only[PX,o8];rw[p7,o9 ⟨by omega,by omega⟩];simp
 .intro fu;simp only[PX,o8];rw[pO]
theorem ZSA(l:S5 k_)(e:k_)(hl:S7 l<=maxLen):Zdd l e=S8 (QS l e.c_):=by
 simp only[Zdd];rw[show ((0:Int))=((0:Nat):Int)from rfl];rw[CM l k_.d (λx=>decide (0<qK x.c_ e.c_)) hl (λfu i=>Qw l e fu (S7 l:Int) i) (λi=>i) ?_ ?_ _ 0 (by omega) (by omega)]
 .rfl
 .intro fu i hi;simp only[Qw,ZvQ,Rs,o8,Xt];rw[p7,o9 ⟨by omega,by omega⟩];simp
 .intro fu;simp only[Qw,o8];rw[pO]
def zW(l:S5 k_)(e:k_):S5 k_:=l.takeWhile (λx=>!decide (0<qK x.c_ e.c_))++[e]++l.dropWhile (λx=>!decide (0<qK x.c_ e.c_))
def vz(l:S5 k_)(e:k_)(aY:Int):S5 k_×Int:=if CL e then if 0<=xh l e.c_ then([],7)else if(S7 l:Int)>=aY then([],5)else(zW l e,0)else([],1)
theorem ZDb(l:S5 k_)(h:S7 l<=10000):MI l=S8 l:=by
 unfold MI;rw[o9 ⟨by omega,EZ⟩]
theorem ZIT(l:S5 k_)(i:Int)(e:k_)(h:S7 l<=10000)(h0:0<=i)(d:i.toNat<=S7 l):QA l i [e]=S8 (l.take i.toNat++[e]++l.drop i.toNat):=by
 unfold QA;rw[o9 ⟨h0,d,by simp,by grind,EZ (by grind)⟩]
theorem amI(l:S5 k_)(e:k_)(aY:Int)(h:S7 l<=10000)(o:e.ok):ZwG l e aY=S8 (vz l e aY):=by
 have hm:S7 l<=maxLen:=EZ;have hs:=ZzM (λx:k_=>decide (0<qK x.c_ e.c_)) l 0;have hle:=Oe (λx:k_=>decide (0<qK x.c_ e.c_)) l 0;simp only[ZwG,ZxU e o,Zzn l _ hm,ZSA l e hm,ZDb l h,Xt,vz];cases CL e
 .rfl
 .simp only[YP,aFb,aFg,o8,aFx];by_cases g:0<=xh l e.c_
  .simp only[g,aFg]
  .simp only[g,aFi];by_cases j:aY<=(S7 l:Int)
   .simp only[j,aFg]
   .simp only[j,aFi];by_cases d:QS l e.c_<0
    .rw[aFa d,ZIT l _ e h (by omega) (by simp)];simp only[Xt];obtain⟨t,u⟩:=hs.1 d;unfold zW;simp_all
    .rw[aE_ d];have i4:0<=QS l e.c_:=by omega
     unfold QS at i4;rw[ZIT l _ e h (by omega) (by unfold QS;omega)];simp only[Xt];obtain⟨_,t,u⟩:=hs.2 i4;unfold zW QS;simp_all
theorem amg(l:S5 k_)(e:k_)(h:S7 l<=10000):∀fu (i:Nat),i<=S7 l->S7 l-i<fu ->
  Zhn l fu (i:Int) e=S8 (l.take i++zW (l.drop i) e,0):=by
 have hm:S7 l<=maxLen:=EZ;have c4:∀i:Nat,i<=S7 l->(f_ (0<=(i:Int)/\(i:Int)<=((S7 l:Nat):Int)) <|
   f_ ((([]:S5 k_)++(l.take (i:Int).toNat)).length * 56<=140737488355328/\(([]:S5 k_)++(l.take (i:Int).toNat)).length<=maxLen) <|
   f_ (((([]:S5 k_)++(l.take (i:Int).toNat))++([e]:S5 k_)).length * 56<=140737488355328/\((([]:S5 k_)++(l.take (i:Int).toNat))++([e]:S5 k_)).length<=maxLen) <|
   f_ ((((([]:S5 k_)++(l.take (i:Int).toNat))++([e]:S5 k_))++(l.drop (i:Int).toNat)).length * 56<=140737488355328/\(((([]:S5 k_)++(l.take (i:Int).toNat))++([e]:S5 k_))++(l.drop (i:Int).toNat)).length<=maxLen) <|
   S8 ((((([]:S5 k_)++(l.take (i:Int).toNat))++([e]:S5 k_))++(l.drop (i:Int).toNat)),(0:Int)))=S8 (l.take i++[e]++l.drop i,0):=by
  intro i hi;have b:∀n:Nat,n<=10001->n * 56<=140737488355328/\n<=maxLen:=λn o=>⟨by omega,EZ⟩;rw[o9 ⟨by omega,by omega⟩,o9 (b _ (by simp;omega)),o9 (b _ (by simp;omega)),o9 (b _ (by simp;omega))];simp
 intro fu;induction fu with
 |zero=>intro i _ h;omega
 |succ fu ih=>
  intro i hi t;simp only[Zhn,Rz,Xt,o8];by_cases qI:i<S7 l
  .rw[p7,o9 ⟨by omega,by omega⟩];have j:=xZ l k_.d i qI;by_cases g:qK (l.getD i k_.d).c_ e.c_<=0
   .rw[aFa (by simpa using g),pY qI hm,ih (i+1) (by omega) (by omega)];congr 2;unfold zW;rw[j,Y7,Y8,aFa (by simp;simpa using g),aFa (by simp;simpa using g),YR qI];rw[ua l k_.d i qI]
    grind
   .rw[aE_ (by simpa using g),c4 i hi];congr 2;unfold zW;rw[j,Y7,Y8,aE_ (by simp;simpa using g),aE_ (by simp;simpa using g)];simp
  .rw[pO,c4 i hi];have:l.drop i=[]:=Y_ (by omega);rw[this];simp[zW]
theorem ZUb(l:S5 k_)(e:k_)(aY:Int)(h:S7 l<=10000)(j:e.ok):Zji l e aY=S8 (vz l e aY):=by
 have hm:S7 l<=maxLen:=EZ;simp only[Zji,ZsI e j,ZBb l _ hm,Xt,vz];cases CL e
 .rfl
 .simp only[YP,aFb,aFg,o8,aFx];by_cases d:0<=xh l e.c_
  .simp only[d,aFg]
  .simp only[d,aFi];by_cases g:aY<=(S7 l:Int)
   .simp only[g,aFg]
   .simp only[g,aFi];have:=amg l e h ((((S7 l:Nat):Int)-(0:Int)).toNat+2) 0 (by omega) (by omega);simp_all
def Cm(l:S5 k_)(e:k_):S5 k_:=if 0<=xh l e.c_ then l.set (xh l e.c_).toNat e else l
theorem Q7(l:S5 k_)(e:l_):xh l e<(S7 l:Int):=by
 have:=Oe (λx:k_=>decide (x.c_=e)) l 0;simpa[xh]using this
theorem amJ(l:S5 k_)(e:k_)(h:S7 l<=10000):Si l e=S8 (Cm l e):=by
 have hm:S7 l<=maxLen:=EZ;have:=Q7 l e.c_;simp only[Si,ZDb l h,Zzn l _ hm,Xt,o8,Cm,aFx];split
 .rename_i d;rw[o9 ⟨d,this⟩]
 .rfl
theorem ZTV(l:S5 k_)(e:k_)(h:S7 l<=10000):ZlO l e=S8 (Cm l e):=by
 have hm:S7 l<=maxLen:=EZ;have:=Q7 l e.c_;simp only[ZlO,ZBb l _ hm,Xt,o8,Cm,YY];split
 .grind
 .rename_i d;rw[o9 ⟨by omega,hm⟩,o9 ⟨by omega,this⟩,p7]
theorem ZYS(l:S5 k_)(e:k_):(zW l e).length=S7 l+1:=by
 unfold zW;have:=congrArg Vt (Zf (p:=λx:k_=>!decide (0<qK x.c_ e.c_)) (l:=l))
 grind
theorem anf(l:S5 k_)(e:k_)(aY:Int):(vz l e aY).1.length<=S7 l+1:=by
 unfold vz
 repeat' split
 all_goals simp[ZYS]
theorem ZYr(l:S5 k_)(e:k_):(Cm l e).length=S7 l:=by
 unfold Cm;split<;>simp
theorem ZxV(l:S5 l_)(e:l_)(hl:S7 l<=maxLen):Zdy l e=S8 (l.contains e):=by
 simp only[Zdy,Zhj];have:=CM l l_.d (λx=>decide (e=x)) hl (λfu i=>Qq l fu (S7 l:Int) i e) (λi=>i) (λfu i hi=>by
   simp only[Qq,o8];rw[p7,o9 ⟨by omega,by omega⟩];simp) (λfu=>by
   simp only[Qq,o8];rw[pO]) ((((S7 l:Nat):Int)-(0:Int)).toNat+2) 0 (by omega) (by omega)
 simp only[YX,YZ]at this;rw[this];simp only[Xt,S9];rw[Y6,aFl,Zb];have g:=Gn (λx=>decide (e=x)) l 0
 grind
theorem alJ(l:S5 l_)(e:l_)(hl:S7 l<=maxLen):ZlN l e=S8 (l.contains e):=by
 simp only[ZlN];have:=CM l l_.d (λx=>decide (x=e)) hl (λfu i=>P_ l fu i e) (λi=>decide (0<=i)) (λfu i hi=>by
   simp only[P_,o8];rw[p7,o9 ⟨by omega,by omega⟩];simp) (λfu=>by
   simp only[P_,o8];simp_all) ((((S7 l:Nat):Int)-(0:Int)).toNat+2) 0 (by omega) (by omega)
 simp only[YX,YZ]at this;rw[this];congr 1;rw[Y6,aFl,Zb];have g:=Gn (λx=>decide (x=e)) l 0
 grind
def H4(ends:S5 l_)(x:k_):k_:=if x.ql=3 then(if ends.contains x.c_ then⟨x.c_,1,x.p6,x.pS⟩else x)else x
theorem ZKZ(l:S5 k_)(ends:S5 l_)(h:S7 l<=10000)(hm:S7 ends<=maxLen):OS l ends=S8 (l.map (H4 ends)):=by
 simp only[OS,ZDb l h,Xt];have:=ZPV (H4 ends) k_.d l.length (EZ) (λfu i w=>JV ends fu (S7 l:Int) i w) S8 (λfu i w e hi=>by
   simp only[JV,o8,ZxV ends _ hm,O8,Xt];rw[p7,o9 ⟨by omega,by omega⟩];simp only[YO,H4,XA,aFv];split
   .split
    all_goals simp_all
   simp_all) (λfu w e=>by
   simp only[JV,o8];rw[pO]) ((((S7 l:Nat):Int)-(0:Int)).toNat+2) 0 l rfl (by omega) (by omega)
 simpa using this
theorem ZYL(l:S5 k_)(ends:S5 l_)(h:S7 l<=10000)(hm:S7 ends<=maxLen):Zix l ends=S8 (l.map (H4 ends)):=by
 simp only[Zix,YY];rw[o9 ⟨by omega,EZ⟩];have:=ZPV (H4 ends) k_.d l.length (EZ) (λfu i w=>Kn ends fu i w) S8 (λfu i w e hi=>by
   simp only[Kn,o8,alJ ends _ hm,Xt];rw[p7,o9 ⟨by omega,by omega⟩];simp only[YO,H4,XA,aFv];split
   .split
    all_goals simp_all
   simp_all) (λfu w e=>by
   simp only[Kn,o8];rw[pO]) ((((S7 l:Nat):Int)-(0:Int)).toNat+2) 0 l rfl (by omega) (by omega)
 simpa using this
theorem ZVS{l:S5 k_}{e:l_}:xh l e<0↔∀x∈l,x.c_≠e:=by
 unfold xh;rw[Gn];simp
def qp(n:Int):Int:=if n<0 then 0 else if n>1099511627776 then 1099511627776 else n
theorem Gs(n:Int):zt n=S8 (qp n):=by
 unfold zt qp
 grind
theorem Hb(n:Int):AG n=S8 (qp n):=by
 unfold AG qp
 grind
theorem BU(n:Int):0<=qp n/\qp n<=1099511627776:=by
 unfold qp;omega
theorem ZTn(p:a_)(n:Int):∃q,Pc p n=S8 q/\HJ p n=S8 q:=by
 unfold Pc HJ;simp only[Gs,Hb,Xt,o8];refine⟨_,rfl,?_⟩;split
 .rfl
 .rfl
theorem al_(p:a_)(n:Int):∃q,OO p n=S8 q/\Hz p n=S8 q:=by
 unfold OO Hz;simp only[o8];by_cases e:n<1
 .simp_all;omega
 .rw[p7,aE_ e];by_cases g:n>1048576
  .simp_all;omega
  .rw[p7,aE_ g];by_cases d:p.p_=0
   .simp_all
   .have h:(p.p_==0)=Tm:=by simp[d]
    have j:(p.p_ != 0)=Tl:=by simp[d]
    rw[h,j];simp only[aFb,aFc];by_cases o:n<p.p_
    all_goals (simp_all;omega)
theorem ZRy(k:Int):∃q,Pp k=S8 q/\ZgD k=S8 q/\0<=q/\q<=100:=by
 unfold Pp ZgD;simp only[o8];by_cases e:k<0
 .grind
 .rw[aE_ e];by_cases d:k>=6
  .rw[aFa d]
   grind
  .rw[aE_ d];obtain h|h|h|h|h|h:k=0\/k=1\/k=2\/k=3\/k=4\/k=5:=by omega
   all_goals subst h;exact⟨_,rfl,rfl,by decide,by decide⟩
def r5(l:S5 a_)(e:l_):Int:=rM (λx=>decide (x.c_=e)) l 0
theorem Se(l:S5 a_)(e:l_)(hl:S7 l<=maxLen):Hp l e=S8 (r5 l e):=by
 simp only[Hp,ZeE];have:=CM l a_.d (λx=>decide (x.c_=e)) hl (λfu i=>QH l e fu (S7 l:Int) i) (λi=>i) (λfu i hi=>by
   simp only[QH,ZsM,o8,Xt];rw[p7,o9 ⟨by omega,by omega⟩];simp) (λfu=>by
   simp only[QH,o8];rw[pO]) ((((S7 l:Nat):Int)-(0:Int)).toNat+2) 0 (by omega) (by omega)
 simp only[YX,YZ]at this;rw[this];rfl
theorem Dm(l:S5 a_)(e:l_)(hl:S7 l<=maxLen):Al l e=S8 (r5 l e):=by
 simp only[Al];have:=CM l a_.d (λx=>decide (x.c_=e)) hl (λfu i=>P7 l fu i e) (λi=>i) (λfu i hi=>by
   simp only[P7,o8];rw[p7,o9 ⟨by omega,by omega⟩];simp) (λfu=>by
   simp only[P7,o8];rw[pO]) ((((S7 l:Nat):Int)-(0:Int)).toNat+2) 0 (by omega) (by omega)
 simp only[YX,YZ]at this;rw[this];rfl
theorem ES(l:S5 a_)(e:l_):r5 l e<(S7 l:Int):=by
 have:=Oe (λx:a_=>decide (x.c_=e)) l 0;unfold r5;omega
theorem ZZi(p:α->Bool)(d:α)(l:S5 α)(hl:S7 l<=maxLen)(F:Nat->Int->Int->S5 α->S6 (S5 α))
  (hs:∀fu (k j:Nat) w,S7 w=S7 l->k<=j->j<S7 w->F (fu+1) (k:Int) (j:Int) w=if p (w.getD j d)=Tl then F fu (k:Int) (n_ (j:Int) 1) w else F fu (n_ (k:Int) 1) (n_ (j:Int) 1) (w.set k (w.getD j d)))
  (t:∀fu (k:Nat) w,S7 w=S7 l->k<=S7 w->F (fu+1) (k:Int) (S7 w:Int) w=S8 (w.take k)) :
  ∀fu (k j:Nat) w,S7 w=S7 l->k<=j->j<=S7 l->S7 l-j<fu->w.take k=(l.take j).filter (λx=>!p x)->w.drop j=l.drop j->F fu (k:Int) (j:Int) w=S8 (l.filter λx=>!p x):=by
 intro fu;induction fu with
 |zero=>omega
 |succ fu ih=>
  intro k j w e mO u y o g;by_cases h:j<S7 l
  .rw[hs fu k j w e mO (by omega),pY h hl];have hx:w.getD j d=l.getD j d:=by
    have:=aFj (λq:S5 α=>q.getD 0 d) g
    grind
   have dB:l.take (j+1)=l.take j++[l.getD j d]:=by
    simp_all
   have hd1:w.drop (j+1)=l.drop (j+1):=by
    have:=aFj (List.drop 1) g;simpa[List.drop_drop,Nat.add_comm]using this
   by_cases hp:p (w.getD j d)=Tl
   .grind
   .rw[aE_ hp,pY (n:=S7 l) (by omega) hl];refine ih (k+1) (j+1) _ (by simp[e]) (by omega) (by omega) (by omega) ?_ ?_
    .rw[dB,Wa,<-hx];have hf1:[w.getD j d].filter (λx=>!p x)=[w.getD j d]:=by simp_all
     rw[YR (by simp;omega),Zp (by omega),o,hf1];simp
    .rw[List.drop_set_of_lt (by omega)];exact hd1
  grind
def zK(l:S5 a_)(ends:S5 l_):S5 a_:=l.filter λx=>!ends.contains x.c_
theorem ZOC(l:S5 a_)(ends:S5 l_)(hl:S7 l<=1000000)(hm:S7 ends<=maxLen):Zdk l ends=S8 (zK l ends):=by
 have hL:S7 l<=maxLen:=by unfold maxLen;omega
 have hx:Zdr l ends=S8 (rM (λx=>ends.contains x.c_) l 0):=by
  simp only[Zdr];have:=CM l a_.d (λx=>ends.contains x.c_) hL (λfu i=>Qv l ends fu (S7 l:Int) i) (λi=>i) (λfu i hi=>by
    simp only[Qv,SS,ZxV ends _ hm,o8,Xt];rw[p7,o9 ⟨by omega,by omega⟩];simp_all) (λfu=>by
    simp only[Qv,o8];rw[pO]) ((((S7 l:Nat):Int)-(0:Int)).toNat+2) 0 (by omega) (by omega)
  simp_all
 simp only[Zdk,hx,Xt];by_cases h:rM (λx:a_=>ends.contains x.c_) l 0<0
 .have A:=(Gn _ l 0).1 h;have e:(rM (λx:a_=>ends.contains x.c_) l 0 == -1)=Tl:=by
   have:=amx (λx:a_=>ends.contains x.c_) l 0;rw[aFv];omega
  rw[e,aFc];congr 1;unfold zK;rw[VX.2];simp_all
 .obtain⟨k,g,o,⟨x,B,D⟩,F⟩:=ZBk (λx:a_=>ends.contains x.c_) l 0 (by omega);have e:(rM (λx:a_=>ends.contains x.c_) l 0 == -1)=Tm:=by
   simp_all
  rw[e,aFb,o,TX,pY g hL];refine ZZi (λx:a_=>ends.contains x.c_) a_.d l hL (λfu a b w=>ME ends fu a b w) ?_ ?_ _ k (k+1) l rfl (by omega) (by omega) (by omega) ?_ rfl
  .intro fu a b w t Ob hb;simp only[ME,SS,ZxV ends _ hm,o8,Xt];rw[p7,o9 ⟨by omega,by omega⟩];simp only[YO];cases G:ends.contains (w.getD b a_.d).c_
   .simp only[YT,aFc];rw[o9 ⟨by omega,by omega⟩,aE_ (by simp)]
   rfl
  .intro fu a w t ha;simp only[ME,o8];rw[pO,o9 ⟨by omega,by omega,by omega⟩];simp only[YO];rw[o9 (by omega),o9 ⟨by omega,by omega,by omega⟩,o9 (by rw[Oz _ _ _ _];exact ha)];congr 1;simp only[Ak,Vl];simp_all
  .rw[YR g,Wa];have H:(l.take k).filter (λx=>!ends.contains x.c_)=l.take k:=by
    rw[VX];intro y u;obtain⟨j,I,rfl⟩:=UZ u
    grind
   grind
theorem ZDX(l:S5 a_)(ends:S5 l_)(hl:S7 l<=1000000)(hm:S7 ends<=maxLen):OW l ends=S8 (zK l ends):=by
 unfold OW Du;rw[o9 ⟨by omega,by unfold maxLen;omega⟩];simp only[Xt,ZOC l ends hl hm]
theorem amS(l:S5 l_)(e:l_)(hl:S7 l<=maxLen):ZlK l e=S8 (l.contains e):=by
 simp only[ZlK];have:=CM l l_.d (λx=>decide (x=e)) hl (λfu i=>Qa l fu i e) (λi=>decide (0<=i)) (λfu i hi=>by
   simp only[Qa,o8];rw[p7,o9 ⟨by omega,by omega⟩];simp) (λfu=>by
   simp only[Qa,o8];simp_all) ((((S7 l:Nat):Int)-(0:Int)).toNat+2) 0 (by omega) (by omega)
 simp only[YX,YZ]at this;rw[this];congr 1;rw[Y6,aFl,Zb];have g:=Gn (λx=>decide (x=e)) l 0
 grind
theorem Lm(l:S5 a_)(ends:S5 l_):(zK l ends).length<=S7 l:=Zn _ _
theorem RB(l:S5 a_)(ends:S5 l_)(hl:S7 l<=1000000)(hm:S7 ends<=maxLen):Ds l ends=S8 (zK l ends):=by
 have hL:S7 l<=maxLen:=by unfold maxLen;omega
 have aF:∀fu (i:Nat) w,i<=S7 l->S7 l-i<fu->w=zK (l.take i) ends->PZ l ends fu (i:Int) w=S8 (zK l ends):=by
  intro fu;induction fu with
  |zero=>intro i w _ h;omega
  |succ fu ih=>
   intro i w hi j e;simp only[PZ,amS ends _ hm,o8,Xt];by_cases h:i<S7 l
   .rw[p7,o9 ⟨by omega,by omega⟩,pY h hL];simp only[YO];have cD:zK (l.take (i+1)) ends=w++[l.getD i a_.d].filter (λx=>!ends.contains x.c_):=by
     rw[e];unfold zK;rw[YR h,Wa,ua l _ i h]
    have k8:S7 w<=1000000:=by
     rw[e];have:=Lm (l.take i) ends
     grind
    cases g:ends.contains (l.getD i a_.d).c_
    .rw[List.filter_cons_of_pos (by rw[g];rfl)]at cD;simp only[YT,aFc];rw[o9 ⟨by simp;omega,by simp[maxLen];omega⟩]
     grind
    grind
   grind
 unfold Ds;exact aF _ 0 [] (by omega) (by omega) rfl
def wid(a:oV):Nat:=if a.qt then 128 else 32
def num(a:oV):Nat:=if a.qt then 2 ^ 64*a.rk.toNat+a.qX.toNat else a.qX.toNat
def qx(a:oV)(i:Nat):Bool:=(num a).testBit (wid a-1-i)
structure Fits (a:oV):Prop where
 vR:0<=a.rk
 yE:a.rk<=18446744073709551615
 Bl:0<=a.qX
 C6:a.qX<=18446744073709551615
 v4:a.qt=Tm->a.rk=0/\a.qX<4294967296
theorem G5(h:a.ok)(g:tC a=Tl):Fits a:=by
 have d:=BC h.2.1;have e:=BC h.2.2.1;refine⟨d.1,d.2,e.1,e.2,λj=>?_⟩;unfold tC at g;simp_all
theorem Fits.ok(h:Fits a):a.ok:=by
 refine⟨trivial,?_,?_,trivial⟩
 .have:=h.vR;have:=h.yE;simp only[rn,Lit.wf,ZB,UT,UB,Ut];simp;omega
 .have:=h.Bl;have:=h.C6;simp only[rn,Lit.wf,ZB,UT,UB,Ut];simp;omega
theorem acO(h:Fits a):num a<2 ^ wid a:=by
 have:=h.vR;have:=h.yE;have:=h.Bl;have:=h.C6;unfold num wid;cases d:a.qt
 .have:=h.v4 d;simp_all
 grind
theorem Rr{b:oV}(ha:Fits a)(hb:Fits b)(d:a.qt=b.qt)(h:∀i,i<wid a->qx a i=qx b i):a=b:=by
 have e:num a=num b:=by
  apply Y0;intro j;have g:wid a=wid b:=by unfold wid;rw[d]
  by_cases o:j<wid a
  .have:=h (wid a-1-j) (by omega);unfold qx at this
   grind
  .rw[YU (TC (acO ha) (YS (by omega) (by omega))),YU (TC (acO hb) (YS (by omega) (by omega)))]
 have:=ha.vR;have:=ha.yE;have:=ha.Bl;have:=ha.C6;have:=hb.vR;have:=hb.yE;have:=hb.Bl;have:=hb.C6;obtain⟨v,hi,lo⟩:=a;obtain⟨v',cO,lT⟩:=b;simp only at d;subst d;simp only[num]at e;simp only[oV.mk.injEq,aFn];cases v
 .have:=ha.v4 rfl;have:=hb.v4 rfl
  grind
 grind
theorem ZGU(n k T:Nat)(g:k<=T:=by omega)(h:n<2 ^ T:=by omega):n &&& (2 ^ T-2 ^ k)=n-n % 2 ^ k:=by
 have d:n-n % 2 ^ k=2 ^ k*(n / 2 ^ k):=by have:=WT n (2 ^ k);omega
 rw[d];apply Y0;intro i;have e:2 ^ T-2 ^ k=2 ^ k*(2 ^ (T-k)-1):=by
  rw[ZI,<-Y5,UM];congr 2;omega
 rw[Za,e,Y3,Y3,Zh,Zl];by_cases hi:k<=i
 .by_cases j:i<T
  .grind
  .have:n.testBit i=Tm:=YU (TC h (YS (by omega) (by omega)));simp_all
 .simp[hi]
theorem ZOE(n k j:Nat):(n-n % 2 ^ k).testBit j=(decide (k<=j)&&n.testBit j):=by
 have d:n-n % 2 ^ k=2 ^ k*(n / 2 ^ k):=by have:=WT n (2 ^ k);omega
 grind
theorem Oo(a b:Nat)(ha:a<2 ^ 64)(hb:b<2 ^ 64):Wn.wrap (((Tz (UB .u64) (a:Int)) &&& (Tz (UB .u64) (b:Int))).toNat:Int)=((a &&& b:Nat):Int):=by
 rw[ZOO a b ha hb];have:a &&& b<2 ^ 64:=Zu _ hb;exact Ay (by omega) (by omega)
theorem al3:∀n:Fin 65,CQ ((n.val:Nat):Int)=S8 (((2 ^ 64-2 ^ (64-n.val):Nat)):Int):=by decide +kernel
theorem ZHR(n:Nat)(h:n<=64:=by omega):CQ ((n:Nat):Int)=S8 (((2 ^ 64-2 ^ (64-n):Nat)):Int):=al3 ⟨n,by omega⟩
theorem ZHS(n:Int):CQ n=CQ (if(64:Int)<(if(0:Int)>n then(0:Int)else n)then(64:Int)else(if(0:Int)>n then(0:Int)else n)):=by
 unfold CQ
 grind
theorem amB(n:Int)(h:n<=0):CQ n=S8 0:=by
 rw[ZHS,show (if(64:Int)<(if(0:Int)>n then(0:Int)else n)then(64:Int)else(if(0:Int)>n then(0:Int)else n))=((0:Nat):Int)by repeat' split<;>omega,ZHR 0]
 rfl
theorem ZYj(n:Int)(h:64<=n):CQ n=S8 18446744073709551615:=by
 rw[ZHS,show (if(64:Int)<(if(0:Int)>n then(0:Int)else n)then(64:Int)else(if(0:Int)>n then(0:Int)else n))=((64:Nat):Int)by repeat' split<;>omega,ZHR 64]
 rfl
def we(a:oV)(n:Nat):oV:=if a.qt then(if n<=64 then⟨Tl,((a.rk.toNat-a.rk.toNat % 2 ^ (64-n):Nat):Int),0⟩else⟨Tl,a.rk,((a.qX.toNat-a.qX.toNat % 2 ^ (128-n):Nat):Int)⟩)else⟨Tm,a.rk,((a.qX.toNat-a.qX.toNat % 2 ^ (32-n):Nat):Int)⟩
theorem ZUG(h:a.ok)(g:tC a=Tl)(n:Nat)(e:n<=wid a):JP a (n:Int)=S8 (we a n):=by
 have d:=G5 h g;have gH:=JO a h;have u:=d.vR;have y:=d.yE;have A:=d.Bl;have B:=d.C6;obtain⟨v,hi,lo⟩:=a;obtain⟨p,hp⟩:=yQ d.vR;obtain⟨q,j⟩:=yQ d.Bl;simp only at hp j u y A B;subst hp j;cases v with
 |false=>
  have D:=d.v4 rfl;simp only at D;have e:n<=32:=e;have dG:(if(32:Int)<(if(0:Int)>(n:Int)then(0:Int)else(n:Int))then(32:Int)else(if(0:Int)>(n:Int)then(0:Int)else(n:Int)))=(n:Int):=by repeat' split<;>omega
  simp only[JP,gH,g,Xt,YP,aFb,B1,YT,aFc,dG,ZHR n];have hp:(2:Nat) ^ (64-n)=2 ^ 32 * 2 ^ (32-n):=by rw[<-Y5];congr 1;omega
  have dD:(2:Nat) ^ (32-n)<=2 ^ 32:=YS (by omega) (by omega);have io:0<(2:Nat) ^ (32-n):=Zd (by omega);have F:(2 ^ 64-2 ^ (64-n):Nat) / 4294967296=2 ^ 32-2 ^ (32-n):=by
   omega
  have G:Xo ((2 ^ 64-2 ^ (64-n):Nat):Int) (2 ^ (min (32:Int).toNat (UB .u64)))=((2 ^ 32-2 ^ (32-n):Nat):Int):=by
   rw[show (2:Int) ^ (min (32:Int).toNat (UB .u64))=4294967296 from rfl,YW _ (by omega),<-F];rfl
  rw[G,Oo q _ (by omega) (by omega),ZGU q (32-n) 32];simp[we]
 |true=>
  have e:n<=128:=e;have dG:(if(128:Int)<(if(0:Int)>(n:Int)then(0:Int)else(n:Int))then(128:Int)else(if(0:Int)>(n:Int)then(0:Int)else(n:Int)))=(n:Int):=by repeat' split<;>omega
  simp only[JP,gH,g,Xt,YP,aFb,B1,aFc,dG,ZqU];have hs:pR (n:Int) 64=(n:Int)-64:=tq (by omega) (by omega);rw[hs];by_cases GS:n<=64
  .rw[ZHR n GS,amB _ (by omega)];simp only[Xt];rw[Oo p _ (by omega) (by grind),ZGU p (64-n) 64];have:=Oo q 0 (by omega) (by omega);rw[ZE]at this;rw[show (0:Int)=((0:Nat):Int)from rfl,this];simp[we,GS]
  .rw[ZYj _ (by omega),show (n:Int)-64=((n-64:Nat):Int)by omega,ZHR (n-64)];simp only[Xt];have o:=Oo p 18446744073709551615 (by omega) (by omega);have t:=ZGU p 0 64;rw[show (2:Nat) ^ 64-2 ^ 0=18446744073709551615 from rfl,Nat.pow_zero,Nat.mod_one,Nat.sub_zero]at t;rw[t]at o;rw[show (18446744073709551615:Int)=((18446744073709551615:Nat):Int)from rfl,o];rw[show 64-(n-64)=128-n by omega,Oo q _ (by omega) (by have:=Zd (a:=2) (n:=128-n) (by omega);omega),ZGU q (128-n) 64];simp[we,GS]
theorem Dl(a:oV)(n:Nat):(we a n).qt=a.qt:=by
 unfold we
 grind
theorem JJ(h:Fits a)(n:Nat):Fits (we a n):=by
 have:=h.vR;have:=h.yE;have:=h.Bl;have:=h.C6;have l:∀x y:Nat,x-x % y<=x:=λx y=>Zr _ _;have l1:=l a.rk.toNat (2 ^ (64-n));have l2:=l a.qX.toNat (2 ^ (128-n));have l3:=l a.qX.toNat (2 ^ (32-n));unfold we;cases d:a.qt
 .have:=h.v4 d;simp only[YQ,aFi];exact⟨by simp only;omega,by simp only;omega,by simp only;omega,by simp only;omega,λ_=>⟨this.1,by simp only;omega⟩⟩
 .simp only[aFg];split
  .exact⟨by simp only;omega,by simp only;omega,by simp only;omega,by simp only;omega,λh=>by simp at h⟩
  .exact⟨by simp only;omega,by simp only;omega,by simp only;omega,by simp only;omega,λh=>by simp at h⟩
theorem Lb{hi lo j:Nat}(hl:lo<2 ^ 64:=by omega):(2 ^ 64*hi+lo).testBit j=if j<64 then lo.testBit j else hi.testBit (j-64):=Nat.testBit_two_pow_mul_add hi hl j
theorem Gi(h:Fits a)(n i:Nat)(g:n<=wid a:=by omega)(hi:i<wid a:=by omega):qx (we a n) i=(decide (i<n)&&qx a i):=by
 have o:=h.vR;have t:=h.yE;have u:=h.Bl;have y:=h.C6;unfold qx;have j:wid (we a n)=wid a:=by unfold wid;rw[Dl]
 rw[j];unfold wid at g hi ⊢;unfold num we;cases e:a.qt
 .simp only[e,YQ,aFi]at *
  rw[YO,ZOE]
  grind
 .simp only[e,aFg]at *
  have zC:a.qX.toNat<2 ^ 64:=by omega
  by_cases GS:n<=64
  .simp only[GS,aFg,YO];rw[Lb (by simp),Lb zC];by_cases d:128-1-i<64
   .grind
   .simp only[d,aFi];rw[ZOE]
    grind
  .simp only[GS,aFi,aFg,YO];rw[Lb (Zs (Zr _ _) zC),Lb zC];by_cases d:128-1-i<64
   .simp only[d,aFg];rw[ZOE]
    grind
   grind
theorem ZRL(h:Fits a)(hr:tC a=Tl)(n:Nat):tC (we a n)=Tl:=by
 have g:=h.vR;have j:=h.yE;have o:=h.Bl;have t:=h.C6;unfold we;cases d:a.qt
 .have:=h.v4 d;have l3:a.qX.toNat-a.qX.toNat % 2 ^ (32-n)<=a.qX.toNat:=Zr _ _;simp[tC,this.1];omega
 .simp only[aFg];split
  .simp[tC]
  .rename_i GS;unfold tC at hr ⊢;rw[d]at hr;simp only[aFg,VR,Bool.and_eq_false_iff,aFm]at hr ⊢;rcases hr with hr|hr
   .exact .inl hr
   .refine .inr λe=>hr ?_;have e':(a.qX.toNat-a.qX.toNat % 2 ^ (128-n)) / 4294967296=65535:=by omega
    have hx:a.qX.toNat-a.qX.toNat % 2 ^ (128-n)=2 ^ (128-n)*(a.qX.toNat / 2 ^ (128-n)):=by have:=WT a.qX.toNat (2 ^ (128-n));omega
    rw[hx]at e';by_cases u:128-n<=32
    .have hp:(4294967296:Nat)=2 ^ (128-n) * 2 ^ (32-(128-n)):=by
      rw[<-Y5,show 128-n+(32-(128-n))=32 by omega]
     rw[hp,Nat.mul_div_mul_left _ _ (Zd (by omega)),Nat.div_div_eq_div_mul,<-hp]at e';omega
    .have hp:(2:Nat) ^ (128-n)=4294967296*(2 * 2 ^ (128-n-33)):=by
      rw[show (4294967296:Nat)*(2 * 2 ^ (128-n-33))=2 ^ 33 * 2 ^ (128-n-33)by omega,<-Y5];congr 1;omega
     rw[hp,ZC,Nat.mul_div_cancel_left _ (by omega),ZC]at e';omega
def xx(p:pn):Bool:=tC p.b_&&decide (0<=p.oR)&&decide (p.oR<=(wid p.b_:Int))&&decide (we p.b_ p.oR.toNat=p.b_)
structure RN (p:pn):Prop where
 ok:p.b_.ok
 right:tC p.b_=Tl
 nn:0<=p.oR
 le:p.oR<=(wid p.b_:Int)
 cut:we p.b_ p.oR.toNat=p.b_
theorem RN.fits(h:RN p):Fits p.b_:=G5 h.ok h.right
theorem MW(h:p.b_.ok):xx p=Tl↔RN p:=by
 unfold xx;simp only[VQ,decide_eq_true_eq];exact⟨λ⟨⟨⟨a,b⟩,c⟩,d⟩=>⟨h,a,b,c,d⟩,λ⟨_,a,b,c,d⟩=>⟨⟨⟨a,b⟩,c⟩,d⟩⟩
theorem ZOM(a:oV):B1 a=S8 (wid a:Int):=by
 unfold B1 wid;cases a.qt<;>rfl
theorem ZNn(a:oV)(h:a.ok)(n:Int):E5 a n=S8 (if tC a=Tl/\0<=n/\n<=(wid a:Int)then(⟨we a n.toNat,n⟩,Tl)else(⟨⟨Tm,0,0⟩,0⟩,Tm)):=by
 simp only[E5,JO a h,ZOM,Xt,o8];cases d:tC a
 .simp
 .simp only[YP,aFb,aFn];by_cases h0:n<0
  .grind
  .rw[aE_ h0];by_cases e:n>(wid a:Int)
   .simp_all
   .rw[aE_ e,p7];have:=ZUG h d n.toNat (by omega)
    grind
theorem Lw(p:pn)(h:p.b_.ok):JT p=S8 (xx p):=by
 simp only[JT,ZNn _ h,Xt];unfold xx;split
 .rename_i d;simp only[aFc,d.1,d.2.1,d.2.2,aFr,YV,S9];rw[decide_eq_decide];obtain⟨x,n⟩:=p;simp
 grind
def bs(p:pn):S5 Bool:=(Tr p.oR.toNat).map (qx p.b_)
theorem acX(p:pn):(bs p).length=p.oR.toNat:=by simp[bs]
theorem acW(p:pn)(i:Nat)(h:i<p.oR.toNat):(bs p)[i]?=S8 (qx p.b_ i):=by simp[bs,h]
theorem ZTL(h:RN p)(i:Nat)(hi:i<wid p.b_:=by omega)(e:p.oR.toNat<=i:=by omega):qx p.b_ i=Tm:=by
 have d:=Gi h.fits p.oR.toNat i (by have:=h.le;omega) hi;rw[h.cut]at d
 grind
theorem alY(hp:RN p)(d:RN q)(e:p.b_.qt=q.b_.qt)(hb:bs p=bs q):p=q:=by
 have j:wid p.b_=wid q.b_:=by unfold wid;rw[e]
 have o:p.oR=q.oR:=by
  have:=aFj Vt hb;rw[acX,acX]at this;have:=hp.nn;have:=d.nn;omega
 have ha:p.b_=q.b_:=by
  refine Rr hp.fits d.fits e λi hi=>?_;by_cases h:i<p.oR.toNat
  .have g:=acW p i h;rw[hb,acW q i (by omega)]at g;simp_all
  .rw[ZTL hp i hi,ZTL d i]
 obtain⟨x,n⟩:=p;simp_all
theorem amj(h:a.ok)(e:tC a=Tl)(n:Nat)(g:n<=wid a):RN ⟨we a n,(n:Int)⟩/\bs ⟨we a n,(n:Int)⟩=(Tr n).map (qx a):=by
 have d:=G5 h e;have j:wid (we a n)=wid a:=by unfold wid;rw[Dl]
 refine⟨⟨(JJ d n).ok,ZRL d e n,by simp only;omega,by simp only;omega,?_⟩,?_⟩
 .simp only[YO];refine Rr (JJ (JJ d n) n) (JJ d n) (Dl _ _) λi hi=>?_;have hi:i<wid a:=by unfold wid at hi ⊢;rwa [Dl,Dl]at hi
  rw[Gi (JJ d n) n i,Gi d n i g hi];simp_all
 .unfold bs;simp only[YO];apply List.map_congr_left;intro i hi;have hi:i<n:=by simpa using hi
  rw[Gi d n i g,show decide (i<n)=Tl by simp_all];rfl
theorem ac6(p:pn)(a:oV)(hp:RN p)(ha:a.ok):Lx p a=S8 (tC a&&decide (p.b_.qt=a.qt)&&decide (∀i,i<p.oR.toNat->qx a i=qx p.b_ i)):=by
 have hrc:=(MW hp.ok).2 hp;simp only[Lx,Lw p hp.ok,hrc,JO a ha,Xt,aFc];cases j:tC a
 .rfl
 .simp only[aFc,YV];by_cases d:p.b_.qt=a.qt
  .have o:wid p.b_=wid a:=by unfold wid;rw[d]
   have hm:=ZUG ha j p.oR.toNat (by have:=hp.le;omega);rw[Xw hp.nn]at hm;have g:=G5 ha j;rw[show (p.b_.qt==a.qt)=Tl by simp[d],aFc,hm,aFk d];simp only[Xt,YV,S9];rw[decide_eq_decide];have hle:p.oR.toNat<=wid a:=by have:=hp.le;omega
   constructor
   .intro e i hi;have t:=Gi g p.oR.toNat i hle;simp_all
   .intro h;refine Rr (JJ g _) hp.fits (by rw[Dl];exact d.symm) λi hi=>?_;have hi:i<wid a:=by unfold wid at hi ⊢;rwa [Dl]at hi
    rw[Gi g p.oR.toNat i hle hi];by_cases hb:i<p.oR.toNat
    .simp_all
    .rw[aFo hb,ZTL hp i];rfl
  grind
theorem Q1(n k:Nat)(h:k<64:=by omega)(d:n<2 ^ 64:=by omega):TZ.wrap (Wn.wrap (((Tz (UB .u64) (Xo (n:Int) (2 ^ (min ((k:Nat):Int).toNat (UB .u64))))) &&& (Tz (UB .u64) (1:Int))).toNat:Int))=if n.testBit k then 1 else 0:=by
 rw[YO,show min k (UB .u64)=k from Nat.min_eq_left (by simp[UB];omega)];have e:Xo (n:Int) (2 ^ k)=((n / 2 ^ k:Nat):Int):=by
  grind
 have g:n / 2 ^ k<2 ^ 64:=Zs (ZA _ _) d;rw[e,show (1:Int)=((1:Nat):Int)from rfl,Oo _ 1 g (by omega),Nat.and_one_is_mod,Ze];have j:n / 2 ^ k % 2<2:=Ub _ (by omega);have o:TZ.wrap ((n / 2 ^ k % 2:Nat):Int)=((n / 2 ^ k % 2:Nat):Int):=by
  simp only[US,UB,Ut];simp;omega
 grind
theorem ZXb(h:Fits a)(i:Nat)(hi:i<wid a):Gv a (i:Int)=S8 (if qx a i then 1 else 0):=by
 have g:=h.vR;have j:=h.yE;have o:=h.Bl;have t:=h.C6;obtain⟨v,cO,lo⟩:=a;obtain⟨p,hp⟩:=yQ h.vR;obtain⟨q,d⟩:=yQ h.Bl;simp only at hp d g j o t;subst hp d;cases v with
 |false=>
  have hi:i<32:=hi;have u:=h.v4 rfl;simp only at u;have e:pR (pR (32:Int) 1) (i:Int)=((31-i:Nat):Int):=by rw[show pR (32:Int) 1=31 from rfl,tq (by omega) (by omega)];omega
  simp only[Gv,B1,aFb,Xt,o8,e];rw[pO,pO,pO,o9 (by omega),Q1 q _];rfl
 |true=>
  have hi:i<128:=hi;have e:pR (pR (128:Int) 1) (i:Int)=((127-i:Nat):Int):=by rw[show pR (128:Int) 1=127 from rfl,tq (by omega) (by omega)];omega
  simp only[Gv,B1,aFc,Xt,o8,e];rw[pO,pO];have hb:qx ⟨Tl,(p:Int),(q:Int)⟩ i=if 127-i<64 then q.testBit (127-i)else p.testBit (127-i-64):=by
   unfold qx num wid;simp only[if_true,YO];rw[Lb]
  rw[hb];by_cases GS:i<64
  .have y:pR ((127-i:Nat):Int) 64=((127-i-64:Nat):Int):=by rw[tq (by omega) (by omega)];omega
   rw[p7,y,o9 (by omega),Q1 p _,aE_ (show ¬127-i<64 by omega)]
  .rw[pO,o9 (by omega),Q1 q _,aFa (show 127-i<64 by omega)]
theorem ZFo(h:RN p)(i:Nat)(hi:i<wid p.b_:=by omega):Hi p (i:Int)=S8 (if qx p.b_ i then 1 else 0):=by
 simp only[Hi,ZXb h.fits i hi,Xt]
def Len(z r:Nat):Prop:=z<2 ^ r/\(0<r->2 ^ (r-1)<=z)
theorem ZCt{z r:Nat}(k:Nat)(j:2 ^ k<=z)(h:Len (z / 2 ^ k) r):Len z (r+k)/\0<r:=by
 have d:0<2 ^ k:=Zd (by omega);have o:1<=z / 2 ^ k:=(Zc d).2 (by omega);have g:0<r:=by
  rcases Zt r with e|e
  .subst e;have:=h.1;simp at this;omega
  .exact e
 refine⟨⟨?_,λ_=>?_⟩,g⟩
 .rw[Y5];exact(Zo d).1 h.1
 .have:=(Zc d).1 (h.2 g);rw[<-Y5]at this
  grind
set_option maxRecDepth 100000 in
theorem alV:∃T:ByteArray,T.size=256/\(∀i:Fin 256,i.val<2 ^ Ai T i.val/\(0<Ai T i.val->2 ^ (Ai T i.val-1)<=i.val)/\Ai T i.val<=8)/\∀v0 v2:Int,ZhM v0 v2 =
  bif(decide (v0>=(256:Int)))then
   f_ (0<=(US .u8 (Xo v0 (2 ^ (min (8:Int).toNat (UB .u64)))))/\(US .u8 (Xo v0 (2 ^ (min (8:Int).toNat (UB .u64)))))<((T.size:Nat):Int)) <|
   S8 (n_ (n_ v2 (8:Int)) (US .i64 ((Ai T (US .u8 (Xo v0 (2 ^ (min (8:Int).toNat (UB .u64))))).toNat:Nat):Int)))
  else
   f_ (0<=(US .u8 v0)/\(US .u8 v0)<((T.size:Nat):Int)) <|
   S8 (n_ v2 (US .i64 ((Ai T (US .u8 v0).toNat:Nat):Int))):=by
 refine⟨_,?_,?_,λv0 v2=>rfl⟩
 .rfl
 .decide +kernel
theorem ZTl{a:Int}(h:0<=a:=by omega)(h':a<256:=by omega):ZL.wrap a=a:=by
 simp only[US,UB,Ut];simp;omega
theorem ZHN{a:Int}(h:0<=a:=by omega)(h':a<256:=by omega):TZ.wrap a=a:=by
 simp only[US,UB,Ut];simp;omega
theorem acw(z v:Nat)(y:z<65536:=by omega)(A:v<=1000:=by omega):∃r,Len z r/\r<=16/\ZhM (z:Int) (v:Int)=S8 ((v+r:Nat):Int):=by
 obtain⟨T,o,hi,t⟩:=alV;rw[t,o8,o];by_cases h:256<=z
 .rw[p7];have e:Xo (z:Int) (2 ^ (min (8:Int).toNat (UB .u64)))=((z / 256:Nat):Int):=by
   rw[show (2:Int) ^ (min (8:Int).toNat (UB .u64))=256 from rfl,YW _ (by omega)];rfl
  obtain⟨d,g,j⟩:=hi ⟨z / 256,by omega⟩;simp only at d g j;rw[e,ZTl,o9 (by omega),YO,ZHN];obtain⟨u,B⟩:=ZCt (z:=z) (r:=Ai T (z / 256)) 8 (by omega) ⟨by omega,by omega⟩;refine⟨_,u,by omega,?_⟩;rw[s_ (a:=(v:Int)) (by omega) (by omega),s_ (by omega) (by omega)];congr 1;omega
 .rw[pO];obtain⟨d,g,j⟩:=hi ⟨z,by omega⟩;simp only at d g j;rw[ZTl,o9 (by omega),YO,ZHN];refine⟨_,⟨d,g⟩,by omega,?_⟩;rw[s_ (by omega) (by omega)];congr 1
theorem acx(z v:Nat)(o:z<4294967296:=by omega)(t:v<=900:=by omega):∃r,Len z r/\r<=32/\ZhN (z:Int) (v:Int)=S8 ((v+r:Nat):Int):=by
 simp only[ZhN,o8];by_cases h:65536<=z
 .rw[p7];have e:Xo (z:Int) (2 ^ (min (16:Int).toNat (UB .u64)))=((z / 65536:Nat):Int):=by
   rw[show (2:Int) ^ (min (16:Int).toNat (UB .u64))=65536 from rfl,YW _ (by omega)];rfl
  rw[e,show n_ (v:Int) 16=((v+16:Nat):Int)by rw[s_ (by omega) (by omega)];omega];obtain⟨r,d,g,j⟩:=acw (z / 65536) (v+16);obtain⟨u,_⟩:=ZCt (z:=z) 16 (by omega) (by rw[show (2:Nat) ^ 16=65536 from rfl];exact d)
  grind
 .rw[pO];obtain⟨r,d,g,j⟩:=acw z v
  grind
theorem adh(z:Nat)(o:z<2 ^ 64):∃r,Len z r/\r<=64/\ZmS (z:Int)=S8 ((r:Nat):Int):=by
 simp only[ZmS,o8];by_cases h:4294967296<=z
 .rw[p7];have e:Xo (z:Int) (2 ^ (min (32:Int).toNat (UB .u64)))=((z / 4294967296:Nat):Int):=by
   rw[show (2:Int) ^ (min (32:Int).toNat (UB .u64))=4294967296 from rfl,YW _ (by omega)];rfl
  rw[e];obtain⟨r,d,g,j⟩:=acx (z / 4294967296) 32;obtain⟨t,_⟩:=ZCt (z:=z) 32 (by omega) (by rw[show (2:Nat) ^ 32=4294967296 from rfl];exact d)
  grind
 .rw[pO];obtain⟨r,d,g,j⟩:=acx z 0
  grind
theorem ZTk(a b:Nat)(ha:a<2 ^ 64:=by omega)(hb:b<2 ^ 64:=by omega):Wn.wrap (((Tz (UB .u64) (a:Int)) ^^^ (Tz (UB .u64) (b:Int))).toNat:Int)=((a ^^^ b:Nat):Int):=by
 have e:∀c:Nat,c<2 ^ 64->(Tz 64 (c:Int)).toNat=c:=λc g=>by
  simp_all
 have d:((Tz (UB .u64) (a:Int)) ^^^ (Tz (UB .u64) (b:Int))).toNat=a ^^^ b:=by
  show (Tz 64 (a:Int) ^^^ Tz 64 (b:Int)).toNat=a ^^^ b
  grind
 rw[d];have:a ^^^ b<2 ^ 64:=Zq ha hb;exact Ay (by omega) (by omega)
theorem lead(a b:Nat)(ha:a<2 ^ 64:=by omega)(hb:b<2 ^ 64:=by omega):∃k,k<=64/\Zfg ((a ^^^ b:Nat):Int)=S8 ((k:Nat):Int)/\(∀j,64-k<=j->a.testBit j=b.testBit j)/\(k<64->a.testBit (63-k)≠b.testBit (63-k))/\(k=64↔a ^^^ b=0):=by
 have hx:a ^^^ b<2 ^ 64:=Zq ha hb;obtain⟨r,d,u,g⟩:=adh (a ^^^ b) hx;refine⟨64-r,by omega,?_,λj y=>?_,λA=>?_,?_⟩
 .simp only[Zfg,g,Xt];rw[tq (by omega) (by omega)];congr 1;omega
 .have o:(a ^^^ b).testBit j=Tm:=YU (TC d.1 (YS (by omega) (by omega)));simp_all
 .have o:(a ^^^ b).testBit (r-1)=Tl:=by
   have B:=d.2 (by omega);have h6:a ^^^ b<2 ^ (r-1) * 2:=by rw[<-Zm,show (r-1).succ=r by omega];exact d.1
   rw[Ze,aFl];have t:(a ^^^ b) / 2 ^ (r-1)=1:=by
    have hp:0<2 ^ (r-1):=Zd (by omega);have:=(Zc hp).2 (show 1 * 2 ^ (r-1)<=a ^^^ b by omega);have:=(Zo hp).2 (show a ^^^ b<2 * 2 ^ (r-1)by omega);omega
   rw[t]
  grind
 .constructor
  .intro e;have:r=0:=by omega
   subst this;have:=d.1;simpa using this
  .intro e;rw[e]at d;rcases Zt r with h|h
   .omega
   .have:=d.2 h;simp_all
theorem ZWv(hp:RN p)(j:RN q)(u:p.b_.qt=q.b_.qt) :
  ∃k:Nat,ZqI p q=S8 (k:Int)/\k<=p.oR.toNat/\k<=q.oR.toNat/\(∀i,i<k->qx p.b_ i=qx q.b_ i)/\(k<p.oR.toNat->k<q.oR.toNat->qx p.b_ k≠qx q.b_ k):=by
 have fp:=hp.fits;have fq:=j.fits;have A:=fp.vR;have F:=fp.yE;have B:=fp.Bl;have G:=fp.C6;have b1:=fq.vR;have b2:=fq.yE;have b3:=fq.Bl;have b4:=fq.C6;have n1:=hp.nn;have n2:=j.nn;have l1:=hp.le;have l2:=j.le;have nq:=fp.v4;have ns:=fq.v4;clear hp j fp fq;obtain⟨⟨v,hi,lo⟩,n⟩:=p;obtain⟨⟨v',cO,lT⟩,n'⟩:=q;simp only at u A F B G b1 b2 b3 b4 n1 n2 nq ns;subst u;obtain⟨x,rfl⟩:=yQ A;obtain⟨y,rfl⟩:=yQ B;obtain⟨x',rfl⟩:=yQ b1;obtain⟨y',rfl⟩:=yQ b3;obtain⟨n,rfl⟩:=yQ n1;obtain⟨n',rfl⟩:=yQ n2;have dG:(if(n':Int)<(n:Int)then(n':Int)else(n:Int))=((min n n':Nat):Int):=by split<;>omega
 have nt:∀k:Nat,(if((min n n':Nat):Int)<(k:Int)then((min n n':Nat):Int)else(k:Int))=((min k (min n n'):Nat):Int):=λk=>by split<;>omega
 obtain⟨D,J,H,I,L,M⟩:=lead x x';obtain⟨d,d1,d2,d3,d4,d5⟩:=lead y y';simp only[ZqI,ZTk x x',ZTk y y',H,d2,Xt,dG]
 -- what is to be shown of a number
 have bD:∀k:Nat,(∀i,i<k->i<wid ⟨v,x,y⟩->qx ⟨v,x,y⟩ i=qx ⟨v,x',y'⟩ i)->(k<wid ⟨v,x,y⟩->qx ⟨v,x,y⟩ k≠qx ⟨v,x',y'⟩ k) ->
   (min k (min n n'))<=n/\(min k (min n n'))<=n'/\(∀i,i<min k (min n n')->qx ⟨v,x,y⟩ i=qx ⟨v,x',y'⟩ i)/\((min k (min n n'))<n->(min k (min n n'))<n'->qx ⟨v,x,y⟩ (min k (min n n'))≠qx ⟨v,x',y'⟩ (min k (min n n'))):=by
  intro k o g;simp only at l1 l2;refine⟨by omega,by omega,λi hi=>o i (by omega) (by omega),λO U=>?_⟩;have e:min k (min n n')=k:=by omega
  grind
 cases v with
 |false=>
  have W:=(nq rfl).1;have Z:=(ns rfl).1;have e3:=(nq rfl).2;have e4:=(ns rfl).2;have iz:x ^^^ x'=0:=by simp_all
  have sR:32<=d:=by
   rcases ZD d 32 with h|h
   .exfalso;apply d4 (by omega);rw[YU (TC (show y<2 ^ 32 by omega) (YS (by omega) (by omega))),YU (TC (show y'<2 ^ 32 by omega) (YS (by omega) (by omega)))]
   .exact h
  rw[iz,show (((0:Nat):Int)==0)=Tl from rfl,aFc];have t:pR (n_ 64 (d:Int)) (pR 128 32)=((d-32:Nat):Int):=by
   rw[s_ (by omega) (by omega),show pR (128:Int) 32=96 from rfl,tq (by omega) (by omega)];omega
  simp only[PB,YT,aFc,B1,aFb,Xt,t,nt];refine⟨_,rfl,?_⟩;refine bD (d-32) (λi o g=>?_) (λh=>?_)
  .have g:i<32:=g;show (y.testBit (32-1-i))=(y'.testBit (32-1-i));exact d3 _ (by omega)
  .have h:d-32<32:=h;show (y.testBit (32-1-(d-32)))≠(y'.testBit (32-1-(d-32)));rw[show 32-1-(d-32)=63-d by omega];exact d4 (by omega)
 |true=>
  have hb:∀(x y:Nat),y<2 ^ 64->∀i,qx ⟨Tl,(x:Int),(y:Int)⟩ i=if 127-i<64 then y.testBit (127-i)else x.testBit (127-i-64):=λx y hy i=>by
   unfold qx num wid;simp only[if_true,YO];rw[Lb]
  by_cases hx:x ^^^ x'=0
  .rw[hx,show (((0:Nat):Int)==0)=Tl from rfl,aFc];have hxx:x=x':=by
    apply Y0;simp_all
   have t:n_ 64 (d:Int)=((64+d:Nat):Int):=by rw[s_ (by omega) (by omega)];omega
   simp only[PB,YP,aFb,t,nt];refine⟨_,rfl,?_⟩;refine bD (64+d) (λi o g=>?_) (λh=>?_)
   .have g:i<128:=g;rw[hb x y (by omega),hb x' y' (by omega),hxx];split
    all_goals grind
   .have h:64+d<128:=h;rw[hb x y (by omega),hb x' y' (by omega),p7,p7]
    grind
  .have hk:D<64:=by
    omega
   have qN:(((x ^^^ x':Nat):Int)==0)=Tm:=by
    simp_all
   rw[qN,aFb];simp only[PB,YP,aFb,nt];refine⟨_,rfl,?_⟩;refine bD D (λi o g=>?_) (λh=>?_)
   .rw[hb x y (by omega),hb x' y' (by omega),pO,pO];exact I _ (by omega)
   .rw[hb x y (by omega),hb x' y' (by omega),pO,pO]
    grind
def xQ(n:Nat)(f:Nat->Bool)(p:pn):Prop:=n<=p.oR.toNat/\∀i,i<n->qx p.b_ i=f i
def ext'(p:pn)(b:Bool):Nat->Bool:=λi=>if i<p.oR.toNat then qx p.b_ i else b
theorem BR{b:Bool}:xQ (p.oR.toNat+1) (ext' p b) q↔p.oR.toNat<q.oR.toNat/\(∀i,i<p.oR.toNat->qx q.b_ i=qx p.b_ i)/\qx q.b_ p.oR.toNat=b:=by
 unfold xQ ext'
 grind
def zp(v:Bool):qY->Nat->(Nat->Bool)->Prop | .nil,_,_=>True | .mk h has k0 k1,n,f=>RN h.g_/\h.g_.b_.qt=v/\xQ n f h.g_/\zp v k0 (h.g_.oR.toNat+1) (ext' h.g_ Tm)/\zp v k1 (h.g_.oR.toNat+1) (ext' h.g_ Tl)
def pF:qY->S5 rq | .nil=>[] | .mk h has k0 k1=>(if has then[h]else[])++pF k0++pF k1
theorem wQ{v:Bool}:∀{nd:qY}{n:Nat}{f:Nat->Bool},zp v nd n f->∀x∈pF nd,RN x.g_/\x.g_.b_.qt=v/\xQ n f x.g_
 | .nil,_,_,_,x,hx=>by simp[pF]at hx
 | .mk h has u y,n,f,hg,x,hx=>by
  obtain⟨A,B,d,e,g⟩:=hg
  have lc:∀b,xQ (h.g_.oR.toNat+1) (ext' h.g_ b) x.g_->xQ n f x.g_:=λb hb=>by
   obtain⟨b1,b2,_⟩:=BR.1 hb
   have:=d.1
   exact⟨by omega,λi hi=>by rw[b2 i (by omega)];exact d.2 i hi⟩
  simp only[pF,T9]at hx
  rcases hx with (hx|hx)|hx
  .simp_all
  .obtain⟨j,o,t⟩:=wQ e x hx
   simp_all
  .obtain⟨j,o,t⟩:=wQ g x hx
   simp_all
theorem zp.FY{nd:qY}{n m:Nat}{f g:Nat->Bool}(h:zp v nd n f)(hb:∀x has d e,nd=.mk x has d e->xQ m g x.g_):zp v nd m g:=by
 cases nd with
 |nil=>trivial
 |mk x has d e=>exact⟨h.1,h.2.1,hb x has d e rfl,h.2.2.2⟩
def xV(l:S5 rq)(n:pn):Int×Bool:=match l.find? (λx=>decide (x.g_=n))with
 |some x=>(x.fV,Tl)
 |none=>(0,Tm)
theorem ZKj(h:∀x∈l,x.g_≠n):l.find? (λx=>decide (x.g_=n))=none:=by
 simp_all
theorem ZQr(o:RN n)(A:n.b_.qt=v):∀fu (nd:qY) (m:Nat) (f:Nat->Bool),zp v nd m f->n.oR.toNat+1<fu+m ->
  Hy fu nd n=S8 (xV (pF nd) n)\/(n.oR.toNat<m/\fu=0):=by
 intro fu;induction fu with
 |zero=>omega
 |succ fu ih=>
  intro nd m f hg G;refine .inl ?_;cases nd with
  |nil=>rfl
  |mk h has d g=>
   obtain⟨B,D,F,t,u⟩:=hg;have H:wid h.g_.b_=wid n.b_:=by unfold wid;rw[D,A]
   have b0:=λx hx=>BR.1 (wQ t x hx).2.2;have b1:=λx hx=>BR.1 (wQ u x hx).2.2;have hnn:=B.nn;have aD_:=o.nn;simp only[Hy,o8];by_cases qI:h.g_.oR<n.oR
   .rw[aFa qI];have y:=ZFo o h.g_.oR.toNat (by have:=o.le;omega);rw[Xw hnn]at y;rw[y];have I:∀x∈(if has then[h]else[]),x.g_≠n:=λx hx e=>by
     simp_all
    have gm:=F.1;cases hb:qx n.b_ h.g_.oR.toNat with
    |false=>
     simp only[YQ,aFi,Xt];rw[o9 (by omega)];have j:xV (pF (.mk h has d g)) n=xV (pF d) n:=by
      unfold xV;simp only[pF]
      grind
     rw[j];rcases ih d _ _ t (by omega)with h|h
     .exact h
     .omega
    |true=>
     simp only[aFg,Xt];rw[o9 (by omega)];have j:xV (pF (.mk h has d g)) n=xV (pF g) n:=by
      unfold xV;simp only[pF]
      grind
     rw[j];rcases ih g _ _ u (by omega)with h|h
     .exact h
     .omega
   .rw[aE_ qI];have j:xV (pF (.mk h has d g)) n=xV (if has then[h]else[]) n:=by
     unfold xV;simp only[pF]
     grind
    rw[j];cases has with
    |false=>rfl
    |true=>
     by_cases e:h.g_=n
     .simp[xV,e]
     .simp[xV,e]
theorem ZHP{su:rq}(d:RN su.g_)(o:su.g_.b_.qt=v):∀fu (nd:qY) (m:Nat) (f:Nat->Bool),zp v nd m f->xQ m f su.g_->su.g_.oR.toNat+1<fu+m ->
  ∃lf,E3 fu nd su=S8 lf/\zp v lf m f/\∀x,x∈pF lf↔x=su\/(x∈pF nd/\x.g_≠su.g_):=by
 intro fu;induction fu with
 |zero=>intro nd m f _ hb h;have:=hb.1;omega
 |succ fu ih=>
  intro nd m f hg cd hf;cases nd with
  |nil=>exact⟨_,rfl,⟨d,o,cd,trivial,trivial⟩,λx=>by simp[pF]⟩
  |mk h has g j=>
   have kP:=hg;obtain⟨t,y,G,H,I⟩:=hg;have hwd:wid h.g_.b_=wid su.g_.b_:=by unfold wid;rw[y,o]
   have b0:=λx hx=>BR.1 (wQ H x hx).2.2;have b1:=λx hx=>BR.1 (wQ I x hx).2.2;have aEn:∀x∈pF (.mk h has g j),h.g_.oR.toNat<=x.g_.oR.toNat/\∀i,i<h.g_.oR.toNat->qx x.g_.b_ i=qx h.g_.b_ i:=λx hx=>by
    simp only[pF,T9]at hx
    grind
   have n1:=t.nn;have n2:=d.nn;have l1:=t.le;have l2:=d.le;obtain⟨k,W,c2,c3,L,Z⟩:=ZWv t d (y.trans o.symm);simp only[E3,W,Xt,o8];by_cases M:k<h.g_.oR.toNat
   .rw[p7];have FM:=ZFo t k;by_cases nu:k=su.g_.oR.toNat
    .-- the new one stands above
     have e:((k:Int)==su.g_.oR)=Tl:=by rw[aFv];omega
     have qN:∀x∈pF (.mk h has g j),x.g_≠su.g_:=λx hx e=>by grind
     have u:xQ (su.g_.oR.toNat+1) (ext' su.g_ (qx h.g_.b_ k)) h.g_:=BR.2 ⟨by omega,λi hi=>L i (by omega),by rw[<-nu]⟩;have hG:zp v (.mk h has g j) (su.g_.oR.toNat+1) (ext' su.g_ (qx h.g_.b_ k)):=kP.FY λx _ _ _ e=>by cases e;exact u
     simp only[SG,e,aFc,FM,Xt];cases hb:qx h.g_.b_ k with
     |false=>
      rw[hb]at hG;simp only[YQ,aFi];rw[o9 (by omega)];refine⟨_,rfl,⟨d,o,cd,hG,trivial⟩,λx=>?_⟩;have:pF (.mk su Tl (.mk h has g j) .nil)=[su]++pF (.mk h has g j):=by simp[pF]
      grind
     |true=>
      rw[hb]at hG;simp only[aFg];rw[o9 (by omega)];refine⟨_,rfl,⟨d,o,cd,trivial,hG⟩,λx=>?_⟩;have:pF (.mk su Tl .nil (.mk h has g j))=[su]++pF (.mk h has g j):=by simp[pF]
      grind
    .-- they part
     have sR:k<su.g_.oR.toNat:=by omega
     have e:((k:Int)==su.g_.oR)=Tm:=by grind
     have iK:=Z M sR;have qN:∀x∈pF (.mk h has g j),x.g_≠su.g_:=λx hx e=>iK (by grind);obtain⟨O,r2⟩:=amj d.ok d.right k (by omega);have hmk:E5 su.g_.b_ (k:Int)=S8 (⟨we su.g_.b_ k,(k:Int)⟩,Tl):=by
      rw[ZNn _ d.ok,aFa ⟨d.right,by omega,by omega⟩,YO]
     have lg:(⟨we su.g_.b_ k,(k:Int)⟩ : pn).oR.toNat=k:=YO k;have iA:∀i,i<k->qx (we su.g_.b_ k) i=qx su.g_.b_ i:=λi hi=>by
      rw[Gi d.fits k i,aFk hi];rfl
     have hm:m<=k:=by
      rcases ZD k m with hh|hh
      .exact aFe ((G.2 k hh).trans (cd.2 k hh).symm) iK
      .exact hh
     have U:xQ m f ⟨we su.g_.b_ k,(k:Int)⟩:=⟨by rw[lg];exact hm,λi hi=>by rw[iA i (by omega)];exact cd.2 i hi⟩;have J:zp v (.mk h has g j) ((⟨we su.g_.b_ k,(k:Int)⟩ : pn).oR.toNat+1) (ext' ⟨we su.g_.b_ k,(k:Int)⟩ (qx h.g_.b_ k)):=kP.FY λx _ _ _ e=>by
      cases e;exact BR.2 ⟨by rw[lg];exact M,λi hi=>by simp_all,by rw[lg]⟩
     have hL:zp v (.mk su Tl .nil .nil) ((⟨we su.g_.b_ k,(k:Int)⟩ : pn).oR.toNat+1) (ext' ⟨we su.g_.b_ k,(k:Int)⟩ (qx su.g_.b_ k)):=
      ⟨d,o,BR.2 ⟨by rw[lg];exact sR,λi hi=>by simp_all,by rw[lg]⟩,trivial,trivial⟩
     have bF:=ZFo d k;simp only[SG,e,aFb,hmk,FM,bF,Xt];cases hb:qx h.g_.b_ k with
     |false=>
      have bg:qx su.g_.b_ k=Tl:=by
       simp_all
      rw[hb]at J;rw[bg]at hL;simp only[bg,YQ,aFi,aFg];rw[o9 (by omega)];have D:∀(A B:S6 qY),vZ 0 A B=A:=λ_ _=>rfl;have F:∀(A B:S6 qY),vZ 1 A B=B:=λ_ _=>rfl;rw[D,o9 (by omega),F];refine⟨_,rfl,⟨O,by simp only[Dl];exact o,U,J,hL⟩,λx=>?_⟩;have:pF (.mk ⟨⟨we su.g_.b_ k,(k:Int)⟩,0⟩ Tm (.mk h has g j) (.mk su Tl .nil .nil))=pF (.mk h has g j)++[su]:=by simp[pF]
      grind
     |true=>
      have bg:qx su.g_.b_ k=Tm:=by
       simp_all
      rw[hb]at J;rw[bg]at hL;simp only[bg,YQ,aFi,aFg];rw[o9 (by omega)];have D:∀(A B:S6 qY),vZ 0 A B=A:=λ_ _=>rfl;have F:∀(A B:S6 qY),vZ 1 A B=B:=λ_ _=>rfl;rw[F,o9 (by omega),D];refine⟨_,rfl,⟨O,by simp only[Dl];exact o,U,hL,J⟩,λx=>?_⟩;have:pF (.mk ⟨⟨we su.g_.b_ k,(k:Int)⟩,0⟩ Tm (.mk su Tl .nil .nil) (.mk h has g j))=[su]++pF (.mk h has g j):=by simp[pF]
      grind
   .rw[pO];have nu:k=h.g_.oR.toNat:=by omega
    by_cases hke:k=su.g_.oR.toNat
    .-- it is there
     have e:((k:Int)==su.g_.oR)=Tl:=by rw[aFv];omega
     have hpq:h.g_=su.g_:=alY t d (y.trans o.symm) (by
      unfold bs;simp_all)
     rw[e,aFc];refine⟨_,rfl,⟨d,o,cd,by rw[<-hpq];exact H,by rw[<-hpq];exact I⟩,λx=>?_⟩;have n0:x∈pF g->x.g_≠su.g_:=λhx e=>by grind
     have n1:x∈pF j->x.g_≠su.g_:=λhx e=>by grind
     simp only[pF,T9,aFg,Y9]
     grind
    .have e:((k:Int)==su.g_.oR)=Tm:=by grind
     have FM:=ZFo d k;have u:xQ (h.g_.oR.toNat+1) (ext' h.g_ (qx su.g_.b_ k)) su.g_:=BR.2 ⟨by omega,λi hi=>(L i (by omega)).symm,by rw[<-nu]⟩;have nh:∀x∈(if has then[h]else[]),x.g_≠su.g_:=λx hx e=>by
      simp_all
     have gm:=G.1;simp only[e,aFb,FM,Xt];cases hb:qx su.g_.b_ k with
     |false=>
      rw[hb]at u;simp only[YQ,aFi];rw[o9 (by omega)];obtain⟨lf,w1,w2,w3⟩:=ih g _ _ H u (by omega);have D:∀(A B:S6 qY),vZ 0 A B=A:=λ_ _=>rfl;rw[D,w1];refine⟨_,rfl,⟨t,y,G,w2,I⟩,λx=>?_⟩;have n1:x∈pF j->x.g_≠su.g_:=λhx e=>by grind
      simp only[pF,T9,w3]
      grind
     |true=>
      rw[hb]at u;simp only[aFg];rw[o9 (by omega)];obtain⟨lf,w1,w2,w3⟩:=ih j _ _ I u (by omega);have F:∀(A B:S6 qY),vZ 1 A B=B:=λ_ _=>rfl;rw[F,w1];refine⟨_,rfl,⟨t,y,G,H,w2⟩,λx=>?_⟩;have n1:x∈pF g->x.g_≠su.g_:=λhx e=>by grind
      simp only[pF,T9,w3]
      grind
def Bn(a:oV)(x:rq):Bool:=decide (∀i,i<x.g_.oR.toNat->qx a i=qx x.g_.b_ i)
theorem Su{p:α->Bool}{l:S5 α}(h:∀x∈l,p x=Tm):l.filter p=[]:=by
 simp_all
theorem ZEU(ha:a.ok)(y:tC a=Tl)(o:a.qt=v):∀fu (nd:qY) (m:Nat) (f:Nat->Bool) (w:S5 rq),zp v nd m f->(∀i,i<m->i<wid a->qx a i=f i)->m<=wid a+1->wid a+1<fu+m->S7 w<=m ->
  CX fu nd w a=S8 (w++(pF nd).filter (Bn a)):=by
 have hwa:wid a<=128:=by unfold wid;split<;>omega
 intro fu;induction fu with
 |zero=>omega
 |succ fu ih=>
  intro nd m f w hg hp hmw H hl;cases nd with
  |nil=>simp[CX,pF]
  |mk h has d e=>
   obtain⟨t,D,G,g,j⟩:=hg;have hwd:wid h.g_.b_=wid a:=by unfold wid;rw[D,o]
   have b0:=λx hx=>BR.1 (wQ g x hx).2.2;have b1:=λx hx=>BR.1 (wQ j x hx).2.2;have w0:=λx hx=>(wQ g x hx);have w1:=λx hx=>(wQ j x hx);have n1:=t.nn;have l1:=t.le;have gm:=G.1;simp only[CX,ac6 _ a t ha,y,aFk (D.trans o.symm),YV,Xt,o8];by_cases u:∀i,i<h.g_.oR.toNat->qx a i=qx h.g_.b_ i
   .rw[aFa u];have nw:Bn a h=Tl:=by unfold Bn;simp_all
    -- what lies below
    have ny:∀w':S5 rq,S7 w'<=h.g_.oR.toNat+1->((Gv a h.g_.oR).bind λx6=>f_ (0<=x6/\x6<((2:Nat):Int))<|vZ x6 (CX fu d w' a) (CX fu e w' a))=S8 (w'++((pF d).filter (Bn a)++(pF e).filter (Bn a))):=by
     intro w' nz;by_cases hb:h.g_.oR.toNat<wid a
     .have F:=ZXb (G5 ha y) h.g_.oR.toNat hb;rw[Xw n1]at F;rw[F];cases FM:qx a h.g_.oR.toNat with
      |false=>
       simp only[YQ,aFi,Xt];rw[o9 (by omega),show ∀(A B:S6 (S5 rq)),vZ 0 A B=A from λ_ _=>rfl];rw[ih d _ _ w' g (λi hi cO=>by
        unfold ext'
        grind) (by omega) (by omega) nz]
       rw[Su (l:=pF e) λx hx=>?_]
       .simp
       .unfold Bn
        grind
      |true=>
       simp only[aFg,Xt];rw[o9 (by omega),show ∀(A B:S6 (S5 rq)),vZ 1 A B=B from λ_ _=>rfl];rw[ih e _ _ w' j (λi hi cO=>by
        unfold ext'
        grind) (by omega) (by omega) nz]
       rw[Su (l:=pF d) λx hx=>?_]
       .simp
       .unfold Bn
        grind
     .-- a whole address: nothing lies below
      have bu:∀(lc:qY)(b:Bool),zp v lc (h.g_.oR.toNat+1) (ext' h.g_ b)->lc=.nil:=λlc b dU=>by
       cases lc with
       |nil=>rfl
       |mk x hs I J=>
        have L:=dU.2.2.1.1;have M:=dU.1.le;have O:wid x.g_.b_=wid a:=by unfold wid;rw[dU.2.1,o]
        omega
      rw[bu d _ g,bu e _ j];have lh:Gv a h.g_.oR=S8 0:=by
       simp only[Gv,ZOM,Xt,o8];simp_all
      rw[lh];simp only[Xt];rw[o9 (by omega),show ∀(A B:S6 (S5 rq)),vZ 0 A B=A from λ_ _=>rfl];have:=ih .nil (h.g_.oR.toNat+1) (ext' h.g_ Tm) w' trivial (λi hi cO=>by
        unfold ext'
        grind) (by omega) (by omega) nz
      rw[this];simp[pF]
    cases has with
    |true=>
     simp only[aFc,pF,aFg];rw[o9 ⟨by simp;omega,by unfold maxLen;simp;omega⟩,ny _ (by simp;omega)];simp[nw]
    |false=>
     simp only[aFb,pF,YQ,aFi]
     grind
   .rw[aE_ u];rw[Su]
    .simp
    .intro x hx;unfold Bn;rw[aFm];intro U;apply u;intro i hi;simp only[pF,T9]at hx
     grind
theorem ZME(h:Fits a)(i:Nat)(hi:i<wid a:=by omega):CT a (i:Int)=S8 (if qx a i then 1 else 0):=by
 have j:=h.vR;have o:=h.yE;have t:=h.Bl;have u:=h.C6;obtain⟨v,cO,lo⟩:=a;obtain⟨p,hp⟩:=yQ h.vR;obtain⟨q,d⟩:=yQ h.Bl;simp only at hp d j o t u;subst hp d;have g:∀k:Nat,k<64->(Wn.wrap ((k:Nat):Int))=((k:Nat):Int):=λk y=>Ay (by omega) (by omega);cases v with
 |false=>
  have hi:i<32:=hi;have e:pR (31:Int) (i:Int)=((31-i:Nat):Int):=by rw[tq (by omega) (by omega)];omega
  simp only[CT,Dr,Kh,o8,Xt,aFb,YT,aFc,e,g (31-i) (by omega)];rw[pO,pO,o9 (by omega),Q1 q _];rfl
 |true=>
  have hi:i<128:=hi;have hb:qx ⟨Tl,(p:Int),(q:Int)⟩ i=if 127-i<64 then q.testBit (127-i)else p.testBit (127-i-64):=by
   unfold qx num wid;simp only[if_true,YO];rw[Lb]
  rw[hb];have et:XZ (i:Int) 64=((i % 64:Nat):Int):=by rfl
  have hm:i % 64<64:=Ub _ (by omega);have e:pR (63:Int) ((i % 64:Nat):Int)=((63-i % 64:Nat):Int):=by rw[tq (by omega) (by omega)];omega
  simp only[CT,Dr,Kh,o8,Xt,aFb,YP,aFc,et,e,g (63-i % 64) (by omega)];rw[pO,pO];by_cases GS:i<64
  .rw[p7,o9 (by omega),Q1 p _,aE_ (show ¬127-i<64 by omega),show 63-i % 64=127-i-64 by omega]
  .rw[pO,o9 (by omega),Q1 q _,aFa (show 127-i<64 by omega),show 63-i % 64=127-i by omega]
theorem ZBd(a:oV):Dr a=S8 (wid a:Int):=by
 unfold Dr wid;cases a.qt<;>rfl
theorem KI(a:oV):wid a<=128:=by unfold wid;split<;>omega
theorem acs(h:i<=1000000:=by omega):n_ (i:Int) 1=((i+1:Nat):Int):=by rw[s_ (by omega) (by omega)];omega
theorem ZUc(d:Fits p.b_):∀fu (i:Nat),i<=wid p.b_->wid p.b_-i<fu->∃r,Zgh fu (i:Int) p=S8 r/\(r=Tl↔∀j,i<=j->j<wid p.b_->qx p.b_ j=Tm):=by
 have e:=KI p.b_;intro fu;induction fu with
 |zero=>intro _ _ h;omega
 |succ fu ih=>
  intro i hi lU;simp only[Zgh,ZBd,Xt,o8];by_cases h:i<wid p.b_
  .rw[p7,ZME d i h,acs]
   grind
  .rw[pO]
   grind
theorem ZzG(p:pn)(h:p.b_.ok):PI p=S8 (xx p):=by
 simp only[PI,Gq p.b_ h,ZBd,Xt,o8];unfold xx;cases g:tC p.b_
 .simp
 .have d:=G5 h g;simp only[YP,aFb,YV];by_cases h0:p.oR<0
  .grind
  .rw[aE_ h0];by_cases o:p.oR>(wid p.b_:Int)
   .grind
   .rw[aE_ o,show decide (0<=p.oR)=Tl by simp_all,show decide (p.oR<=(wid p.b_:Int))=Tl by simp_all];have y:=KI p.b_;obtain⟨r,e,t⟩:=ZUc d 1000000 p.oR.toNat (by omega) (by omega);rw[Xw (by omega)]at e;rw[e,S9,YV,YV,Y6,t,aFl];constructor
    .intro q;refine Rr (JJ d _) d (Dl _ _) λi hi=>?_;have hi:i<wid p.b_:=by unfold wid at hi ⊢;rwa [Dl]at hi
     rw[Gi d p.oR.toNat i (by omega) hi]
     grind
    .intro q j A u;have:=Gi d p.oR.toNat j (by omega) u
     grind
def uY(p:pn)(a:oV):Bool:=xx p&&(tC a&&decide (p.b_.qt=a.qt)&&decide (∀i,i<p.oR.toNat->qx a i=qx p.b_ i))
theorem ZIn(hp:RN p)(ha:Fits a)(d:p.b_.qt=a.qt):∀fu (i:Nat),i<=p.oR.toNat->p.oR.toNat-i<fu->∃r,P9 fu (i:Int) p a=S8 r/\(r=Tl↔∀j,i<=j->j<p.oR.toNat->qx a j=qx p.b_ j):=by
 have e:=KI p.b_;have hwa:wid p.b_=wid a:=by unfold wid;rw[d]
 have n1:=hp.nn;have l1:=hp.le;intro fu;induction fu with
 |zero=>intro _ _ h;omega
 |succ fu ih=>
  intro i hi lU;simp only[P9,o8];by_cases h:i<p.oR.toNat
  .rw[p7,ZME hp.fits i,ZME ha i,acs]
   grind
  .rw[pO]
   grind
theorem ZPr(p:pn)(a:oV)(hp:p.b_.ok)(ha:a.ok):Zjn p a=S8 (uY p a):=by
 simp only[Zjn,ZzG p hp,Gq a ha,Xt];unfold uY;cases g:xx p
 .rfl
 .have eJ:=(MW hp).1 g;simp only[YP,aFb,YV];cases h:tC a
  .rfl
  .simp only[YP,aFb,YV];by_cases d:p.b_.qt=a.qt
   .rw[show (!(p.b_.qt==a.qt))=Tm by simp[d],aFb,aFk d,YV];have o:=KI p.b_;have n1:=eJ.nn;have l1:=eJ.le;obtain⟨r,e,j⟩:=ZIn eJ (G5 ha h) d 1000000 0 (by omega) (by omega);have e:P9 1000000 0 p a=S8 r:=e;rw[e,S9,Y6,j,aFl];simp_all
   grind
def f0:Nat->Bool:=λ_=>Tm
def GT:uE->Prop | .nil=>False | .mk r4 r6 _=>zp Tm r4 0 f0/\zp Tl r6 0 f0
def ye:uE->S5 rq | .nil=>[] | .mk r4 r6 _=>pF r4++pF r6
theorem acr(p:pn):xQ 0 f0 p:=⟨Nat.zero_le _,λi hi=>by omega⟩
theorem ZIQ(h:GT t):∀x∈ye t,RN x.g_:=by
 cases t with
 |nil=>exact h.elim
 |mk d e n=>
  intro x hx;simp only[ye,T9]at hx;rcases hx with hx|hx
  .exact(wQ h.1 x hx).1
  .exact(wQ h.2 x hx).1
theorem ZVT(a:oV):LM a=S8 (if a.qt then 1 else 0):=by
 unfold LM;cases a.qt<;>rfl
theorem ZPe(h:GT t)(n:pn)(d:n.b_.ok):Pq t n=S8 (if xx n then xV (ye t) n else(0,Tm)):=by
 cases t with
 |nil=>exact h.elim
 |mk g j k=>
  simp only[Pq,Lw n d,Xt,ZVT];cases u:xx n
  .rfl
  .have eJ:=(MW d).1 u;have hb:n.oR.toNat<=128:=by have:=eJ.le;have:=eJ.nn;have:=KI n.b_;omega
   simp only[YP,aFb,aFg];cases o:n.b_.qt with
   |false=>
    simp only[YQ,aFi];rw[o9 (by omega),show ∀(A B:S6 (Int×Bool)),vZ 0 A B=A from λ_ _=>rfl];rcases ZQr eJ o 1000000 g 0 f0 h.1 (by omega)with e|e
    .rw[e];unfold xV;simp only[ye];rw[Zv,ZKj (l:=pF j) λx hx e=>by have:=(wQ h.2 x hx).2.1;simp_all];simp
    .omega
   |true=>
    simp only[aFg];rw[o9 (by omega),show ∀(A B:S6 (Int×Bool)),vZ 1 A B=B from λ_ _=>rfl];rcases ZQr eJ o 1000000 j 0 f0 h.2 (by omega)with e|e
    .rw[e];unfold xV;simp only[ye];rw[Zv,ZKj (l:=pF g) λx hx e=>by have:=(wQ h.1 x hx).2.1;simp_all];simp
    .omega
theorem ZTu(h:GT t)(n:pn)(o:n.b_.ok)(val:Int)(u:xx n=Tl):∃t',J2 t n val=S8 t'/\GT t'/\∀x,x∈ye t'↔x=⟨n,val⟩\/(x∈ye t/\x.g_≠n):=by
 cases t with
 |nil=>exact h.elim
 |mk d g k=>
  have eJ:=(MW o).1 u;have hb:n.oR.toNat<=128:=by have:=eJ.le;have:=eJ.nn;have:=KI n.b_;omega
  have hg:=ZPe h n o;simp only[J2,PW,Lw n o,u,hg,aFg,Xt,YP,aFb,ZVT];have lj:n.b_.qt=Tm->∃r,E3 1000 d ⟨n,val⟩=S8 r/\zp Tm r 0 f0/\∀x,(x∈pF r\/x∈pF g)↔x=⟨n,val⟩\/((x∈pF d\/x∈pF g)/\x.g_≠n):=λj=>by
   obtain⟨r,w1,w2,w3⟩:=ZHP (su:=⟨n,val⟩) eJ j 1000 d 0 f0 h.1 (acr _) (by simp only;omega);refine⟨r,w1,w2,λx=>?_⟩;rw[w3 x];have h6:x∈pF g->x.g_≠n:=λhx e=>by have:=(wQ h.2 x hx).2.1;simp_all
   grind
  have lk:n.b_.qt=Tl->∃r,E3 1000 g ⟨n,val⟩=S8 r/\zp Tl r 0 f0/\∀x,(x∈pF d\/x∈pF r)↔x=⟨n,val⟩\/((x∈pF d\/x∈pF g)/\x.g_≠n):=λj=>by
   obtain⟨r,w1,w2,w3⟩:=ZHP (su:=⟨n,val⟩) eJ j 1000 g 0 f0 h.2 (acr _) (by simp only;omega);refine⟨r,w1,w2,λx=>?_⟩;rw[w3 x];have F:x∈pF d->x.g_≠n:=λhx e=>by have:=(wQ h.1 x hx).2.1;simp_all
   grind
  have y:∀(A B:S6 uE),vZ 0 A B=A:=λ_ _=>rfl;have D:∀(A B:S6 uE),vZ 1 A B=B:=λ_ _=>rfl;cases j:n.b_.qt with
  |false=>
   obtain⟨r,w1,w2,w3⟩:=lj j;cases(xV (ye (.mk d g k)) n).2 <;>
   .simp only[YT,YP,aFc,aFb,YQ,aFi];rw[o9 (by omega),y,w1];exact⟨_,rfl,⟨w2,h.2⟩,λx=>by simp only[ye,T9];exact w3 x⟩
  |true=>
   obtain⟨r,w1,w2,w3⟩:=lk j;cases(xV (ye (.mk d g k)) n).2 <;>
   .simp only[YT,YP,aFc,aFb,aFg];rw[o9 (by omega),D,w1];exact⟨_,rfl,⟨h.1,w2⟩,λx=>by simp only[ye,T9];exact w3 x⟩
theorem Zuz{v:Bool}:∀{nd:qY}{n:Nat}{f:Nat->Bool},zp v nd n f->(pF nd).Pairwise λx y=>x.g_≠y.g_
 | .nil,_,_,_=>List.Pairwise.nil
 | .mk h has o t,n,f,hg=>by
  obtain⟨u,A,B,d,g⟩:=hg
  have b0:=λx hx=>BR.1 (wQ d x hx).2.2
  have b1:=λx hx=>BR.1 (wQ g x hx).2.2
  have D:∀x∈(if has then[h]else[]),x.g_=h.g_:=λx hx=>by
   simp_all
  simp only[pF]
  rw[Y4,Y4]
  refine⟨⟨?_,Zuz d,λx hx y j e=>?_⟩,Zuz g,λx hx y j e=>?_⟩
  .split
   all_goals simp_all
  all_goals grind
theorem ZIR(h:GT t):(ye t).Pairwise λx y=>x.g_≠y.g_:=by
 cases t with
 |nil=>exact h.elim
 |mk g j k=>
  simp only[ye];rw[Y4];refine⟨Zuz h.1,Zuz h.2,λx hx y d e=>?_⟩;have o:=(wQ h.1 x hx).2.1;have u:=(wQ h.2 y d).2.1;simp_all
theorem ZVs(h:(xV l n).2=Tl):∃x∈l,x.g_=n/\x.fV=(xV l n).1:=by
 unfold xV at h ⊢
 grind
theorem ZZZ(h:(xV l n).2=Tm):∀x∈l,x.g_≠n:=by
 unfold xV at h
 grind
theorem ani(h:l.Pairwise λx y=>x.g_≠y.g_){x y:rq}(hx:x∈l)(d:y∈l)(e:x.g_=y.g_):x=y:=by
 obtain⟨i,hi,rfl⟩:=UZ hx;obtain⟨j,g,rfl⟩:=UZ d;have hp:=Zi.1 h
 grind
theorem Zzl{v:Bool}{a:oV}(d:a.qt=v):∀{nd:qY}{m:Nat}{f:Nat->Bool},zp v nd m f->m<=wid a+1->((pF nd).filter (Bn a)).length+m<=wid a+1
 | .nil,m,f,_,h=>by simp[pF];exact h
 | .mk h has o t,m,f,hg,hm=>by
  obtain⟨e,u,y,g,j⟩:=hg
  have b0:=λx hx=>BR.1 (wQ g x hx).2.2
  have b1:=λx hx=>BR.1 (wQ j x hx).2.2
  have A:wid h.g_.b_=wid a:=by unfold wid;rw[u,d]
  have n1:=e.nn;have l1:=e.le;have gm:=y.1
  have i0:=Zzl d g (by omega)
  have i1:=Zzl d j (by omega)
  have B:((if has then[h]else[]).filter (Bn a)).length<=1:=by
   grind
  have D:((pF o).filter (Bn a)).length=0\/((pF t).filter (Bn a)).length=0:=by
   cases hb:qx a h.g_.oR.toNat with
   |false=>
    refine .inr ?_;rw[Su]
    .rfl
    .intro x hx;unfold Bn
     grind
   |true=>
    refine .inl ?_;rw[Su]
    .rfl
    .intro x hx;unfold Bn
     grind
  simp only[pF,Wa,List.length_append];omega
theorem ZRb(h:GT t)(a:oV)(ha:a.ok):∃L,Pu t a=S8 L/\S7 L<=maxLen/\∀x,x∈L↔x∈ye t/\uY x.g_ a=Tl:=by
 cases t with
 |nil=>exact h.elim
 |mk j o k=>
  simp only[Pu,JO a ha,Xt,ZVT];cases d:tC a
  .exact⟨[],rfl,by simp,λx=>by simp[uY,d]⟩
  .simp only[YP,aFb];have D:=KI a;have u:∀(A B:S6 (S5 rq)),vZ 0 A B=A:=λ_ _=>rfl;have y:∀(A B:S6 (S5 rq)),vZ 1 A B=B:=λ_ _=>rfl;have hs:∀x:rq,RN x.g_->uY x.g_ a=(decide (x.g_.b_.qt=a.qt)&&Bn a x):=λx hx=>by
    unfold uY Bn;rw[(MW hx.ok).2 hx,d,YV,YV]
   cases e:a.qt with
   |false=>
    simp only[YQ,aFi];rw[o9 (by omega),u,ZEU ha d e 1000000 j 0 f0 [] h.1 (λi hi=>by omega) (by omega) (by omega) (by simp)];refine⟨_,rfl,by have:=Zzl e h.1 (by omega);unfold maxLen;grind,λx=>?_⟩;simp only[YY,VU,ye,T9];constructor
    .rintro ⟨hx,g⟩;have:=wQ h.1 x hx;simp_all
    .rintro ⟨hx|hx,g⟩
     .have:=wQ h.1 x hx;simp_all
     .have:=wQ h.2 x hx;simp_all
   |true=>
    simp only[aFg];rw[o9 (by omega),y,ZEU ha d e 1000000 o 0 f0 [] h.2 (λi hi=>by omega) (by omega) (by omega) (by simp)];refine⟨_,rfl,by have:=Zzl e h.2 (by omega);unfold maxLen;grind,λx=>?_⟩;simp only[YY,VU,ye,T9];constructor
    .rintro ⟨hx,g⟩;have:=wQ h.2 x hx;simp_all
    .rintro ⟨hx|hx,g⟩
     .have:=wQ h.1 x hx;simp_all
     .have:=wQ h.2 x hx;simp_all
structure H_ (ac:Int) (t:uE) (l:List oD):Prop where
 gt:GT t
 from_:∀x∈ye t,∃b∈l,ac<b.pq/\b.g_=x.g_/\b.pq=x.fV
 has:∀b∈l,ac<b.pq->xx b.g_=Tl->∃x∈ye t,x.g_=b.g_/\b.pq<=x.fV
theorem ZGd{l:S5 oD}{b:oD}(h:H_ ac t l)(hb:ac<b.pq->xx b.g_=Tl->∃x∈ye t,x.g_=b.g_/\b.pq<=x.fV):H_ ac t (l++[b]):=
 ⟨h.gt,λx hx=>by obtain⟨c,d,e⟩:=h.from_ x hx;grind,λc hc d e=>by
  rcases T9.1 hc with hc|hc
  .exact h.has c hc d e
  simp_all⟩
theorem ZGc{l:S5 oD}{b:oD}(h:H_ ac t l)(hb:b.g_.b_.ok)(hl:ac<b.pq)(cQ:∀x∈ye t,x.g_=b.g_->x.fV<=b.pq):∃t',J2 t b.g_ b.pq=S8 t'/\H_ ac t' (l++[b]):=by
 cases d:xx b.g_ with
 |true=>
  obtain⟨t',w1,w2,w3⟩:=ZTu h.gt b.g_ hb b.pq d;refine⟨t',w1,w2,λx hx=>?_,λc hc g j=>?_⟩
  .rcases(w3 x).1 hx with e|⟨hx,qN⟩
   .simp_all
   .obtain⟨c,g,j⟩:=h.from_ x hx;grind
  .by_cases e:c.g_=b.g_
   .refine⟨⟨b.g_,b.pq⟩,(w3 _).2 (.inl rfl),e.symm,?_⟩;rcases T9.1 hc with hc|hc
    .obtain⟨x,x1,x2,x3⟩:=h.has c hc g j
     grind
    simp_all
   .rcases T9.1 hc with hc|hc
    .obtain⟨x,x1,x2,x3⟩:=h.has c hc g j
     grind
    simp_all
 |false=>
  refine⟨t,?_,ZGd h λ_ q=>by rw[d]at q;cases q⟩;cases t with
  |nil=>exact h.gt.elim
  |mk o u k=>
   simp only[J2,PW,Lw b.g_ hb,d,Xt,YT,aFc]
theorem ZLf(b:oD)(ac:Int):ZuW b ac=S8 (decide (ac<b.pq)):=rfl
theorem ZRU(l:S5 oD)(ac:Int)(hl:S7 l<=maxLen)(qb:∀b∈l,b.ok):∀fu (i:Nat) (t:uE),i<=S7 l->S7 l-i<fu->H_ ac t (l.take i)->∃t',Hr ac fu t l (S7 l:Int) (i:Int)=S8 t'/\H_ ac t' l:=by
 intro fu;induction fu with
 |zero=>intro _ _ _ h;omega
 |succ fu ih=>
  intro i t hi j h;simp only[Hr,o8];by_cases qI:i<S7 l
  .rw[p7,o9 ⟨by omega,by omega⟩];simp only[YO];have dt:=qb _ (wy l oD.d i qI);have dB:l.take (i+1)=l.take i++[l.getD i oD.d]:=by simp_all
   generalize l.getD i oD.d=b at dt dB ⊢;rw[ZPe h.gt b.g_ dt.1.1,ZLf];simp only[Xt];rw[pY qI hl];have next:∀t',H_ ac t' (l.take i++[b])->∃t'',Hr ac fu t' l (S7 l:Int) ((i+1:Nat):Int)=S8 t''/\H_ ac t'' l:=λt' ht'=>ih (i+1) t' (by omega) (by omega) (by rw[dB];exact ht')
   by_cases Oa:ac<b.pq
   .rw[aFk Oa,aFc];cases o:xx b.g_ with
    |false=>
     simp only[YQ,aFi,YT,aFc];obtain⟨t',s1,s2⟩:=ZGc h dt.1.1 Oa (λx hx e=>by
      have:=(MW dt.1.1).2 (e ▸ ZIQ h.gt x hx);simp_all)
     simp_all
    |true=>
     simp only[aFg];cases g:(xV (ye t) b.g_).2 with
     |false=>
      simp only[YT,aFc];obtain⟨t',s1,s2⟩:=ZGc h dt.1.1 Oa (λx hx e=>aFe e (ZZZ g x hx));simp_all
     |true=>
      simp only[YP,aFb];obtain⟨y,y1,y2,y3⟩:=ZVs g;by_cases w8:(xV (ye t) b.g_).1<b.pq
      .rw[aFa w8];obtain⟨t',s1,s2⟩:=ZGc h dt.1.1 Oa (λx hx e=>by
        have:=ani (ZIR h.gt) hx y1 (e.trans y2.symm);rw[this];omega)
       simp_all
      .rw[aE_ w8];exact next t (ZGd h λ_ _=>⟨y,y1,y2,by omega⟩)
   .rw[aFo Oa,aFb];exact next t (ZGd h λq=>aFe q Oa)
  grind
theorem ZZr(l:S5 oD)(ac:Int)(hl:S7 l<=maxLen)(qb:∀b∈l,b.ok):∃t,ZsD l ac=S8 t/\H_ ac t l:=by
 have:=ZRU l ac hl qb ((((S7 l:Nat):Int)-(0:Int)).toNat+2) 0 (.mk .nil .nil 0) (by omega) (by omega) ⟨⟨trivial,trivial⟩,λx hx=>by simp[ye,pF]at hx,λb hb=>by simp at hb⟩;simpa[ZsD,ZwC]using this
def yb(l:S5 oD)(a:oV)(ac:Int)(b:oD):Prop:=b∈l/\ac<b.pq/\uY b.g_ a=Tl
def ZDq(l:S5 oD)(a:oV)(ac r:Int):Prop:=(r=0/\∀b,¬yb l a ac b)\/∃b,yb l a ac b/\r=b.pq/\∀c,yb l a ac c->c.pq<=r
theorem ZEp{l l':S5 oD}{r s:Int}(h:ZDq l a ac r)(h':ZDq l' a ac s)(e:∀b,yb l a ac b↔yb l' a ac b):r=s:=by
 rcases h with⟨j,o⟩|⟨b,j,o,u⟩
 .rcases h' with⟨d,g⟩|⟨c,d,g,t⟩
  all_goals simp_all
 .rcases h' with⟨d,g⟩|⟨c,d,g,t⟩
  all_goals grind
theorem ZZf(L:S5 rq)(hL:S7 L<=maxLen):∀fu (i:Nat) (v:Int),i<=S7 L->S7 L-i<fu->∃r,SV fu v L (S7 L:Int) (i:Int)=S8 r/\v<=r/\(∀x∈L.drop i,x.fV<=r)/\(r=v\/∃x∈L.drop i,r=x.fV):=by
 intro fu;induction fu with
 |zero=>intro _ _ _ h;omega
 |succ fu ih=>
  intro i v hi e;simp only[SV,o8];by_cases h:i<S7 L
  .rw[p7,o9 ⟨by omega,by omega⟩];simp only[YO];rw[pY h hL,xZ L rq.d i h];generalize L.getD i rq.d=x;obtain⟨r,g,j,o,t⟩:=ih (i+1) (if x.fV>v then x.fV else v) (by omega) (by omega)
   grind
  .rw[pO]
   grind
theorem ZFk(l:S5 oD)(a:oV)(ac:Int)(hl:S7 l<=maxLen)(qb:∀b∈l,b.ok)(ha:a.ok):∃r,Hn l a ac=S8 r/\ZDq l a ac r:=by
 obtain⟨t,t1,t2⟩:=ZZr l ac hl qb;obtain⟨L,h,hL,e⟩:=ZRb t2.gt a ha;simp only[Hn,t1,h,Xt];have one:∀x∈L,∃b,yb l a ac b/\b.pq=x.fV:=λx hx=>by
  obtain⟨x1,x2⟩:=(e x).1 hx;obtain⟨b,b1,b2,b3,b4⟩:=t2.from_ x x1;exact⟨b,⟨b1,b2,by rw[b3];exact x2⟩,b4⟩
 have two:∀b,yb l a ac b->∃x∈L,b.pq<=x.fV:=λb hb=>by
  have j:xx b.g_=Tl:=by have:=hb.2.2;unfold uY at this;simp_all
  obtain⟨x,x1,x2,x3⟩:=t2.has b hb.1 hb.2.1 j;exact⟨x,(e x).2 ⟨x1,by rw[x2];exact hb.2.2⟩,x3⟩
 by_cases h0:L=[]
 .subst h0;refine⟨0,rfl,.inl ⟨rfl,λb hb=>?_⟩⟩;simp_all
 .have ip:0<S7 L:=List.length_pos_iff.2 h0;rw[show (((S7 L:Nat):Int)==0)=Tm by simp_all,aFb,o9 ⟨by omega,by omega⟩];obtain⟨r,g,y,o,u⟩:=ZZf L hL ((((S7 L:Nat):Int)-(0:Int)).toNat+2) 0 (L.getD (0:Int).toNat rq.d).fV (by omega) (by omega);simp only[YX,YZ]at g o u;refine⟨r,g,.inr ?_⟩
  grind
theorem ZFF(l:S5 oD)(a:oV)(ac:Int)(hl:S7 l<=maxLen)(qb:∀b∈l,b.ok)(ha:a.ok):∀fu (i:Nat) (v:Int) (q:Bool),i<=S7 l->S7 l-i<fu ->
  ∃r,HK l ac fu v q (i:Int) a=S8 r/\(∀b,yb (l.drop i) a ac b->b.pq<=r)/\(q=Tl->v<=r)/\(r=v\/∃b,yb (l.drop i) a ac b/\r=b.pq)/\(q=Tm->(∃b,yb (l.drop i) a ac b)->∃b,yb (l.drop i) a ac b/\r=b.pq):=by
 intro fu;induction fu with
 |zero=>intro _ _ _ _ h;omega
 |succ fu ih=>
  intro i v q hi y;simp only[HK,o8];by_cases h:i<S7 l
  .rw[p7,o9 ⟨by omega,by omega⟩];simp only[YO];have dt:=qb _ (wy l oD.d i h);rw[pY h hl,xZ l oD.d i h];generalize l.getD i oD.d=b at dt ⊢;have nA:ZkU b a ac=S8 (decide (ac<b.pq)&&uY b.g_ a):=by
    simp only[ZkU,ZPr _ _ dt.1.1 ha,o8,gt_iff_lt,Xt]
    grind
   rw[nA];simp only[Xt];have cG:∀c,yb (l.drop (i+1)) a ac c->yb (b :: l.drop (i+1)) a ac c:=λc g=>⟨by simp[g.1],g.2⟩;cases j:(decide (ac<b.pq)&&uY b.g_ a)with
   |false=>
    simp only[aFb];have bu:∀c,yb (b :: l.drop (i+1)) a ac c↔yb (l.drop (i+1)) a ac c:=λc=>by
     refine⟨λg=>⟨?_,g.2⟩,cG c⟩;rcases VJ.1 g.1 with e|hm
     .subst e;rw[aFk g.2.1,g.2.2]at j;cases j
     .exact hm
    obtain⟨r,o,t,u,A,B⟩:=ih (i+1) v q (by omega) (by omega);simp_all;omega
   |true=>
    simp only[aFc];rw[VQ,aFl]at j;have hb:yb (b :: l.drop (i+1)) a ac b:=⟨by simp,j⟩
    -- what follows from a step that took b's,or something longer
    have step:∀v',b.pq<=v'->(q=Tl->v<=v')->(v'=b.pq\/(q=Tl/\v'=v))->∃r,HK l ac fu v' Tl ((i+1:Nat):Int) a=S8 r/\(∀c,yb (b :: l.drop (i+1)) a ac c->c.pq<=r)/\(q=Tl->v<=r)/\(r=v\/∃c,yb (b :: l.drop (i+1)) a ac c/\r=c.pq)/\(q=Tm->(∃c,yb (b :: l.drop (i+1)) a ac c)->∃c,yb (b :: l.drop (i+1)) a ac c/\r=c.pq):=by
     intro v' F D G;obtain⟨r,o,t,u,A,B⟩:=ih (i+1) v' Tl (by omega) (by omega);have r3':=u rfl;refine⟨r,o,λc g=>?_,λer=>by have:=D er;omega,?_,λy _=>?_⟩
     .rcases VJ.1 g.1 with e|hm
      .subst e;omega
      .exact t c ⟨hm,g.2⟩
     all_goals grind
    cases q with
    |false=>
     grind
    |true=>
     rw[YP,aFb];by_cases Jq:b.pq>v
     .rw[aFa Jq];exact step b.pq (ZJ _) (λ_=>by omega) (.inl rfl)
     grind
  .rw[pO];have:l.drop i=[]:=Y_ (by omega);rw[this];exact⟨v,rfl,λb hb=>by simp[yb]at hb,λ_=>ZJ _,.inl rfl,λ_ ⟨b,hb⟩=>by simp[yb]at hb⟩
theorem ZBX(l:S5 oD)(a:oV)(ac:Int)(hl:S7 l<=maxLen)(qb:∀b∈l,b.ok)(ha:a.ok):∃r,GA l a ac=S8 r/\ZDq l a ac r:=by
 obtain⟨r,d,e,o,j,g⟩:=ZFF l a ac hl qb ha ((((S7 l:Nat):Int)-(0:Int)).toNat+2) 0 0 Tm (by omega) (by omega);simp only[YX,YZ]at d e j g;refine⟨r,d,?_⟩;by_cases h:∃b,yb l a ac b
 .obtain⟨b,b1,b2⟩:=g trivial h;exact .inr ⟨b,b1,b2,e⟩
 .refine .inl ⟨?_,λb hb=>h ⟨b,hb⟩⟩;simp_all
set_option maxRecDepth 100000 in
def xy(l:S5 oD)(ac:Int):S5 oD:=l.filter λb=>decide (ac<b.pq)
theorem ZDU{b:oD}(h:ac<b.pq):xy (b :: r) ac=b :: xy r ac:=by simp[xy,h]
theorem ZHV{b:oD}(h:¬ac<b.pq):xy (b :: r) ac=xy r ac:=by simp[xy,h]
theorem G4{n:Nat}(h:n<=100000:=by omega):n * 40<=140737488355328/\n<=maxLen:=⟨by omega,by unfold maxLen;omega⟩
theorem ZRf(l:S5 oD)(ac:Int)(hl:S7 l<=10000):∀fu (i:Nat) (w:S5 oD),i<=S7 l->S7 l-i<fu->S7 w<=i ->
  Po l ac fu l (S7 l:Int) (i:Int) w=S8 (w++xy (l.drop i) ac,((S7 l:Int)-((w++xy (l.drop i) ac).length:Int))):=by
 have hm:S7 l<=maxLen:=by unfold maxLen;omega
 intro fu;induction fu with
 |zero=>intro _ _ _ h;omega
 |succ fu ih=>
  intro i w hi g j;simp only[Po,o8,ZLf,Xt];by_cases h:i<S7 l
  .rw[p7,o9 ⟨by omega,by omega⟩];simp only[YO];rw[pY h hm,xZ l oD.d i h];by_cases hb:ac<(l.getD i oD.d).pq
   .have hs:=ZDU (r:=l.drop (i+1)) hb;rw[aFa hb,o9 (G4 (by simp;omega)),ih (i+1) _ (by omega) (by omega) (by simp;omega),hs];simp
   .have hs:=ZHV (r:=l.drop (i+1)) hb
    grind
  .have e:i=S7 l:=by omega
   rw[pO,e,Zx];simp only[xy,Zy,Zz];rw[tq (by omega) (by omega)]
theorem ZSB(l:S5 oD)(ac:Int)(hl:S7 l<=10000):ZsE l ac=S8 (xy l ac,((S7 l:Int)-((xy l ac).length:Int))):=by
 have:=ZRf l ac hl ((((S7 l:Nat):Int)-(0:Int)).toNat+2) 0 [] (by omega) (by omega) (by simp);simpa[ZsE]using this
theorem ZFC(l:S5 oD)(ac:Int)(hl:S7 l<=10000):∀fu (i:Nat) (w:S5 oD),i<=S7 l->S7 l-i<fu->S7 w<=i ->
  P5 l ac fu (i:Int) w=S8 (w++xy (l.drop i) ac,((S7 l:Int)-((w++xy (l.drop i) ac).length:Int))):=by
 have hm:S7 l<=maxLen:=by unfold maxLen;omega
 intro fu;induction fu with
 |zero=>intro _ _ _ h;omega
 |succ fu ih=>
  intro i w hi g j;simp only[P5,o8,gt_iff_lt];by_cases h:i<S7 l
  .rw[p7,o9 ⟨by omega,by omega⟩];simp only[YO];rw[pY h hm,xZ l oD.d i h];by_cases hb:ac<(l.getD i oD.d).pq
   .have hs:=ZDU (r:=l.drop (i+1)) hb;rw[aFa hb,o9 (G4 (by simp;omega)),ih (i+1) _ (by omega) (by omega) (by simp;omega),hs];simp
   .have hs:=ZHV (r:=l.drop (i+1)) hb
    grind
  .have e:i=S7 l:=by omega
   rw[pO,e,Zx];simp only[xy,Zy,Zz];rw[tq (by omega) (by omega)]
theorem ZIk(l:S5 oD)(ac:Int)(hl:S7 l<=10000):ZhU l ac=S8 (xy l ac,((S7 l:Int)-((xy l ac).length:Int))):=by
 have:=ZFC l ac hl ((((S7 l:Nat):Int)-(0:Int)).toNat+2) 0 [] (by omega) (by omega) (by simp);simpa[ZhU]using this
theorem ZDV(l:S5 oD)(ac:Int):(xy l ac).length<=S7 l:=Zn _ _
def Ld(b:oD):Bool:=xx b.g_&&decide (1<=b.pq)&&decide (b.pq<=1099511627776)
theorem ZWQ(b:oD)(h:b.ok):ZuV b=S8 (Ld b):=by
 simp only[ZuV,Lw _ h.1.1,Ld,Xt,o8]
 grind
theorem ZMD(b:oD)(h:b.ok):ZjZ b=S8 (Ld b):=by
 simp only[ZjZ,ZzG _ h.1.1,Ld,Xt,o8]
 grind
def wU(l:S5 oD)(n:pn):Int:=rM (λx=>decide (x.g_=n)) l 0
def QR(l:S5 oD)(n:pn):Int:=rM (λx=>decide (0<rb x.g_ n)) l 0
theorem ZLd(l:S5 oD)(n:pn)(hl:S7 l<=maxLen):Sv l n=S8 (wU l n):=by
 simp only[Sv,ZeW];rw[show ((0:Int))=((0:Nat):Int)from rfl];rw[CM l oD.d (λx=>decide (x.g_=n)) hl (λfu i=>QF l n fu (S7 l:Int) i) (λi=>i) ?_ ?_ _ 0 (by omega) (by omega)]
 .rfl
 .intro fu i hi;simp only[QF,ZuT,o8,Xt];rw[p7,o9 ⟨by omega,by omega⟩];simp
 .intro fu;simp only[QF,o8];rw[pO]
theorem ZEa(l:S5 oD)(n:pn)(hl:S7 l<=maxLen):ZhV l n=S8 (wU l n):=by
 simp only[ZhV];rw[show ((0:Int))=((0:Nat):Int)from rfl];rw[CM l oD.d (λx=>decide (x.g_=n)) hl (λfu i=>P4 l fu i n) (λi=>i) ?_ ?_ _ 0 (by omega) (by omega)]
 .rfl
 .intro fu i hi;simp only[P4,o8];rw[p7,o9 ⟨by omega,by omega⟩];simp
 .intro fu;simp only[P4,o8];rw[pO]
theorem ZSC(l:S5 oD)(b:oD)(hl:S7 l<=maxLen):ZdF l b=S8 (QR l b.g_):=by
 simp only[ZdF];rw[show ((0:Int))=((0:Nat):Int)from rfl];rw[CM l oD.d (λx=>decide (0<rb x.g_ b.g_)) hl (λfu i=>QE l b fu (S7 l:Int) i) (λi=>i) ?_ ?_ _ 0 (by omega) (by omega)]
 .rfl
 .intro fu i hi;simp only[QE,ZvR,ZQI,o8,Xt];rw[p7,o9 ⟨by omega,by omega⟩];simp
 .intro fu;simp only[QE,o8];rw[pO]
def zX(l:S5 oD)(b:oD):S5 oD:=l.takeWhile (λx=>!decide (0<rb x.g_ b.g_))++[b]++l.dropWhile (λx=>!decide (0<rb x.g_ b.g_))
def NV(x b:oD):oD:=⟨x.g_,if b.pq>x.pq then b.pq else x.pq⟩
def uA(l:S5 oD)(b:oD)(aY:Int):S5 oD×Int:=if Ld b then if 0<=wU l b.g_ then(l.set (wU l b.g_).toNat (NV (l.getD (wU l b.g_).toNat oD.d) b),0)else if(S7 l:Int)>=aY then([],5)else(zX l b,0)else([],1)
theorem ZGz(l:S5 oD)(n:pn)(h:0<=wU l n:=by omega):(wU l n).toNat<S7 l/\(l.getD (wU l n).toNat oD.d).g_=n:=by
 obtain⟨k,j,g,⟨x,o,t⟩,_⟩:=ZBk _ l 0 h;have e:(wU l n).toNat=k:=by unfold wU;rw[g];omega
 simp_all
theorem ZKO(l:S5 oD)(h:S7 l<=10000):ZbX l=S8 l:=by
 unfold ZbX;rw[o9 (G4)]
theorem ZEv(l:S5 oD)(i:Int)(e:oD)(h:S7 l<=10000)(h0:0<=i)(d:i.toNat<=S7 l):Qz l i [e]=S8 (l.take i.toNat++[e]++l.drop i.toNat):=by
 unfold Qz;rw[o9 ⟨h0,d,by simp,by grind,by unfold maxLen;grind⟩]
theorem ZQP(l:S5 oD)(b:oD)(aY:Int)(h:S7 l<=10000)(hb:b.ok):Sh l b aY=S8 (uA l b aY):=by
 have hm:S7 l<=maxLen:=by unfold maxLen;omega
 have hs:=ZzM (λx:oD=>decide (0<rb x.g_ b.g_)) l 0;have hle:=Oe (λx:oD=>decide (0<rb x.g_ b.g_)) l 0;simp only[Sh,ZWQ b hb,ZLd l _ hm,ZSC l b hm,ZKO l h,Xt,uA];cases Ld b
 .rfl
 .simp only[YP,aFb,aFg,o8,aFx];by_cases d:0<=wU l b.g_
  .obtain⟨f1,f2⟩:=ZGz l b.g_ d;simp only[d,aFg];rw[o9 ⟨trivial,by omega⟩];simp only[ZAi,f2,aFr,aFc,Xt];rw[o9 ⟨trivial,by omega⟩];simp only[NV,f2]
  .simp only[d,aFi];by_cases g:aY<=(S7 l:Int)
   .simp only[g,aFg]
   .simp only[g,aFi];by_cases e:QR l b.g_<0
    .rw[aFa e,ZEv l _ b h (by omega) (by simp)];simp only[Xt];obtain⟨j,o⟩:=hs.1 e;unfold zX;simp_all
    .rw[aE_ e];have i4:0<=QR l b.g_:=by omega
     unfold QR at i4;rw[ZEv l _ b h (by omega) (by unfold QR;omega)];simp only[Xt];obtain⟨_,j,o⟩:=hs.2 i4;unfold zX QR;simp_all
theorem ZYO(l:S5 oD)(e:oD)(h:S7 l<=10000):∀fu (i:Nat),i<=S7 l->S7 l-i<fu ->
  Zhp l fu (i:Int) e=S8 (l.take i++zX (l.drop i) e,0):=by
 have hm:S7 l<=maxLen:=by unfold maxLen;omega
 have c4:∀i:Nat,i<=S7 l->(f_ (0<=(i:Int)/\(i:Int)<=((S7 l:Nat):Int)) <|
   f_ ((([]:S5 oD)++(l.take (i:Int).toNat)).length * 40<=140737488355328/\(([]:S5 oD)++(l.take (i:Int).toNat)).length<=maxLen) <|
   f_ (((([]:S5 oD)++(l.take (i:Int).toNat))++([e]:S5 oD)).length * 40<=140737488355328/\((([]:S5 oD)++(l.take (i:Int).toNat))++([e]:S5 oD)).length<=maxLen) <|
   f_ ((((([]:S5 oD)++(l.take (i:Int).toNat))++([e]:S5 oD))++(l.drop (i:Int).toNat)).length * 40<=140737488355328/\(((([]:S5 oD)++(l.take (i:Int).toNat))++([e]:S5 oD))++(l.drop (i:Int).toNat)).length<=maxLen) <|
   S8 ((((([]:S5 oD)++(l.take (i:Int).toNat))++([e]:S5 oD))++(l.drop (i:Int).toNat)),(0:Int)))=S8 (l.take i++[e]++l.drop i,0):=by
  intro i hi;rw[o9 ⟨by omega,by omega⟩,o9 (G4 (by simp;omega)),o9 (G4 (by simp;omega)),o9 (G4 (by simp;omega))];simp
 intro fu;induction fu with
 |zero=>intro i _ h;omega
 |succ fu ih=>
  intro i hi o;simp only[Zhp,ZYM,Xt,o8];by_cases qI:i<S7 l
  .rw[p7,o9 ⟨by omega,by omega⟩];have j:=xZ l oD.d i qI;by_cases g:rb (l.getD i oD.d).g_ e.g_<=0
   .rw[aFa (by simpa using g),pY qI hm,ih (i+1) (by omega) (by omega)];congr 2;unfold zX;rw[j,Y7,Y8,aFa (by simp;simpa using g),aFa (by simp;simpa using g),YR qI];rw[ua l oD.d i qI]
    grind
   .rw[aE_ (by simpa using g),c4 i hi];congr 2;unfold zX;rw[j,Y7,Y8,aE_ (by simp;simpa using g),aE_ (by simp;simpa using g)];simp
  .rw[pO,c4 i hi];have:l.drop i=[]:=Y_ (by omega);rw[this];simp[zX]
theorem ZFD(l:S5 oD)(b:oD)(aY:Int)(h:S7 l<=10000)(hb:b.ok):Zjm l b aY=S8 (uA l b aY):=by
 have hm:S7 l<=maxLen:=by unfold maxLen;omega
 simp only[Zjm,ZMD b hb,ZEa l _ hm,Xt,uA];cases Ld b
 .rfl
 .simp only[YP,aFb,aFg,o8,aFx,YY];by_cases g:0<=wU l b.g_
  .obtain⟨f1,f2⟩:=ZGz l b.g_ g;simp only[g,aFg];rw[o9 (G4),o9 ⟨trivial,by omega⟩];unfold NV;by_cases hg:b.pq>(l.getD (wU l b.g_).toNat oD.d).pq
   .simp only[hg,aFg]
   .simp only[hg,aFi];congr 2;have e:(⟨(l.getD (wU l b.g_).toNat oD.d).g_,(l.getD (wU l b.g_).toNat oD.d).pq⟩ : oD)=l[(wU l b.g_).toNat]:=by rw[ua l _ _ f1]
    simp_all
  .simp only[g,aFi];by_cases j:aY<=(S7 l:Int)
   .simp only[j,aFg]
   .simp only[j,aFi];have:=ZYO l b h ((((S7 l:Nat):Int)-(0:Int)).toNat+2) 0 (by omega) (by omega);simpa using this
def Ap(l:S5 oD)(n:pn):S5 oD×Int:=if wU l n<0 then([],6)else(l.take (wU l n).toNat++l.drop ((wU l n).toNat+1),0)
theorem ZSt(l:S5 oD)(i:Nat)(h:S7 l<=10000)(hi:i<S7 l):ZeX l (i:Int) ((i+1:Nat):Int)=S8 (l.take i++l.drop (i+1)):=by
 unfold ZeX;have iJ:(xP l i (i+1) (S7 l-(i+1))).length=S7 l:=ZWT l i (i+1) (S7 l-(i+1)) ⟨by omega,by omega⟩;rw[o9 ⟨by omega,by omega,by omega,by omega⟩,show ((i:Int)==((i+1:Nat):Int))=Tm by grind,cond_false];simp only[YO,TX];rw[o9 ⟨by omega,by omega,by omega⟩,o9 ⟨by omega,by omega,by omega⟩,o9 ⟨by omega,by omega⟩,o9 ⟨by omega,by omega,by omega⟩,o9 (by rw[iJ];omega),o9 (by rw[Oz _ _ _ _ (by rw[iJ];omega),iJ];omega)];congr 1;unfold Ak;rw[Vl,List.take_append_of_le_length (by simp[iJ];omega),List.take_take,Nat.min_self];unfold xP
 grind
theorem ZWP(l:S5 oD)(n:pn)(h:S7 l<=10000):ZuU l n=S8 (Ap l n):=by
 have hm:S7 l<=maxLen:=by unfold maxLen;omega
 simp only[ZuU,ZLd l n hm,ZKO l h,Xt,o8,Ap];by_cases d:wU l n<0
 .simp_all
 .rw[aE_ d,aE_ d];obtain⟨f1,_⟩:=ZGz l n;have e:wU l n=(((wU l n).toNat:Nat):Int):=by omega
  generalize (wU l n).toNat=k at f1 e;rw[e,pY f1 hm,ZSt l k h f1];rfl
theorem ZIm(l:S5 oD)(n:pn)(h:S7 l<=10000):Ziz l n=S8 (Ap l n):=by
 have hm:S7 l<=maxLen:=by unfold maxLen;omega
 simp only[Ziz,ZEa l n hm,Xt,o8,Ap];by_cases d:wU l n<0
 .simp_all
 .rw[aE_ d,aE_ d];obtain⟨f1,_⟩:=ZGz l n;have e:wU l n=(((wU l n).toNat:Nat):Int):=by omega
  generalize (wU l n).toNat=k at f1 e;rw[e,pY f1 hm];simp only[YO,YY];rw[o9 ⟨by omega,by omega⟩,o9 (G4 (by simp;omega)),o9 ⟨by omega,by omega⟩,o9 (G4 (by simp;omega))]
theorem ZYT(l:S5 oD)(e:oD):(zX l e).length=S7 l+1:=by
 unfold zX;have:=congrArg Vt (Zf (p:=λx:oD=>!decide (0<rb x.g_ e.g_)) (l:=l))
 grind
theorem ZQU(l:S5 oD)(e:oD)(aY:Int):(uA l e aY).1.length<=S7 l+1:=by
 unfold uA
 repeat' split
 all_goals simp[ZYT]
theorem ZWj(l:S5 oD)(n:pn):(Ap l n).1.length<=S7 l:=by
 unfold Ap
 grind
def xL(x:Int):Prop:=0<=x/\x<=18446744073709551615
theorem Lg(a:Int):xL (US .u64 a):=by
 unfold xL;simp only[US,UB,Ut];simp;omega
theorem acT{a:Int}(h:xL a):US .u64 a=a:=Ay h.1 h.2
theorem KG{a:Int}(h:xL a)(k:Int)(d:0<k:=by omega):US .u64 (Yc a k)=Xo a k:=by
 obtain⟨n,rfl⟩ : ∃n:Nat,a=n:=⟨a.toNat,by have:=h.1;omega⟩;obtain⟨m,rfl⟩ : ∃m:Nat,k=m:=⟨k.toNat,by omega⟩;have e:=h.2;rw[Y' (by omega) (by omega)];refine acT ⟨Int.tdiv_nonneg (by omega) (by omega),?_⟩;have:Yc (n:Int) (m:Int)<=(n:Int):=by
  rw[<-Int.ofNat_tdiv];have:=ZA n m;omega
 omega
theorem alc:(2:Int) ^ (min (30:Int).toNat (UB .u64))=1073741824:=by decide
theorem ald:(2:Int) ^ (min (27:Int).toNat (UB .u64))=134217728:=by decide
theorem alb:(2:Int) ^ (min (31:Int).toNat (UB .u64))=2147483648:=by decide
theorem ala:(2:Int) ^ (min (32:Int).toNat (UB .u64))=4294967296:=by decide
theorem ak_:(2:Int) ^ (min (57:Int).toNat (UB .u64))=144115188075855872:=by decide
theorem pw7:(2:Int) ^ (min (7:Int).toNat (UB .u64))=128:=by decide
theorem ZNk(x:Int)(h:xL x):∃y,OD x=S8 y/\PC x=S8 y/\xL y:=by
 unfold OD PC;simp only[alc,ald,alb,KG h 1073741824,KG (Lg _) 134217728,KG (Lg _) 2147483648];exact⟨_,rfl,rfl,Lg _⟩
theorem alX(a b:Nat)(ha:a<2 ^ 64)(hb:b<2 ^ 64):Wn.wrap (((Tz (UB .u64) (a:Int)) ||| (Tz (UB .u64) (b:Int))).toNat:Int)=((a |||b:Nat):Int):=by
 have e:∀c:Nat,c<2 ^ 64->(Tz 64 (c:Int)).toNat=c:=λc g=>by
  simp_all
 have d:((Tz (UB .u64) (a:Int)) ||| (Tz (UB .u64) (b:Int))).toNat=a |||b:=by
  show (Tz 64 (a:Int) |||Tz 64 (b:Int)).toNat=a |||b
  grind
 rw[d];have:=Nat.or_lt_two_pow ha hb;exact Ay (by omega) (by omega)
theorem ak9(x:Int)(h:xL x):Zhx x 7=S8 (US .u64 (US .u64 (x * 128)+US .u64 (Yc x 144115188075855872))):=by
 unfold Zhx;have d:US .u64 (((Tz (UB .u64) (US .u64 (7:Int))) &&& (Tz (UB .u64) (63:Int))).toNat:Int)=7:=by decide
 have e57:US .u64 ((64:Int)-7)=57:=by decide
 simp only[d,e57,ak_,pw7];rw[o9 (by omega),o9 (by omega),KG h 144115188075855872];obtain⟨n,rfl⟩ : ∃n:Nat,x=n:=⟨x.toNat,by have:=h.1;omega⟩;have o:=h.2;have e:US .u64 ((n:Int) * 128)=((n % 2 ^ 57 * 128:Nat):Int):=by
  simp only[US,UB,Ut];simp;omega
 have g:Xo (n:Int) 144115188075855872=((n / 2 ^ 57:Nat):Int):=by
  grind
 have qI:n % 2 ^ 57 * 128<2 ^ 64:=by omega
 have w8:n / 2 ^ 57<2 ^ 7:=by omega
 rw[e,g,alX _ _ qI (by omega)];have j:n % 2 ^ 57 * 128 |||n / 2 ^ 57=n % 2 ^ 57 * 128+n / 2 ^ 57:=by
  have:=Nat.shiftLeft_add_eq_or_of_lt w8 (n % 2 ^ 57);rw[Nat.shiftLeft_eq]at this;exact this.symm
 rw[j];congr 1;rw[Ay (by omega) (by omega)];omega
theorem acN(k:Int)(l:S5 Int)(hl:S7 l<=1000):∃h,RH k l=S8 h/\S4 k l=S8 h/\xL h:=by
 have hL:S7 l<=maxLen:=by unfold maxLen;omega
 have aF:∀fu (i:Nat) (v:Int),xL v->i<=S7 l->S7 l-i<fu->∃h,Sl fu v l (S7 l:Int) (i:Int)=S8 h/\ZhW l fu v (i:Int)=S8 h/\xL h:=by
  intro fu;induction fu with
  |zero=>intro i v _ _ h;omega
  |succ fu ih=>
   intro i v j hi u;unfold Sl ZhW;simp only[o8];by_cases h:i<S7 l
   .rw[p7,p7,o9 ⟨by omega,by omega⟩,o9 ⟨by omega,by omega⟩,ak9 v j];obtain⟨y,d,e,g⟩:=ZNk _ (Lg ((l.getD ((i:Int)).toNat (0:Int))+(11400714819323198485:Int)));simp only[d,e,Xt];obtain⟨z,o,t,h6⟩:=ZNk _ (Lg (((Tz (UB .u64) (US .u64 (US .u64 (v * 128)+US .u64 (Yc v 144115188075855872)))) ^^^ (Tz (UB .u64) y)).toNat:Int));simp only[o,t,Xt,pY h hL]
    grind
   grind
 unfold RH S4;obtain⟨y,d,e,g⟩:=ZNk _ (Lg (k+(11400714819323198485:Int)));simp only[d,e,Xt];exact aF _ 0 y g (by omega) (by omega)
theorem ZNl(k:Int)(n:pn):∃h,OC k n=S8 h/\L_ k n=S8 h/\xL h:=by
 unfold OC L_;cases n.b_.qt
 .obtain⟨h,d,e,g⟩:=acN k [(4:Int),n.b_.rk,n.b_.qX,(US .u64 n.oR)] (by simp);simp_all
 .obtain⟨h,d,e,g⟩:=acN k [(6:Int),n.b_.rk,n.b_.qX,(US .u64 n.oR)] (by simp);simp_all
theorem amH(h n:Int)(d:xL h)(e:1<=n)(y:n<=8):∃r,ZuL h n=S8 r/\Zka h n=S8 r/\0<=r/\r<n:=by
 unfold ZuL Zka;simp only[o8,ala];rw[pO,pO,pO,pO,KG d 4294967296,KG (Lg _) 4294967296];refine⟨_,rfl,rfl,?_⟩;obtain⟨a,rfl⟩ : ∃a:Nat,h=a:=⟨h.toNat,by have:=d.1;omega⟩;have g:=d.2;have j:Xo (a:Int) 4294967296=((a / 4294967296:Nat):Int):=by
  grind
 rw[j,acT (a:=n) ⟨by omega,by omega⟩];have hb:∀m:Nat,1<=m->m<=8->a / 4294967296*m<4294967296*m:=λm e g=>by
  have:a / 4294967296<4294967296:=by omega
  exact Nat.mul_lt_mul_of_pos_right this (by omega)
 obtain⟨m,rfl⟩ : ∃m:Nat,n=m:=⟨n.toNat,by omega⟩;have hb:=hb m (by omega) (by omega);generalize o:a / 4294967296*m=q at hb;have t:((a / 4294967296:Nat):Int)*(m:Int)=(q:Int):=by rw[<-o];simp
 rw[t,Ay (a:=(q:Int)) (by omega) (by omega)];have u:Xo (q:Int) 4294967296=((q / 4294967296:Nat):Int):=by
  grind
 rw[u,B0];omega
theorem ZRM(h:Fits a):we a (wid a)=a:=by
 refine Rr (JJ h _) h (Dl a _) λi hi=>?_;have d:wid (we a (wid a))=wid a:=by unfold wid;rw[Dl]
 rw[d]at hi;rw[Gi h (wid a) i (Tq _) hi,aFk hi,YV]
def Kx(a:oV):pn:=if tC a=Tl then⟨a,(wid a:Int)⟩else⟨⟨Tm,0,0⟩,0⟩
theorem ZKQ(a:oV)(h:a.ok):OT a=S8 (Kx a):=by
 unfold OT Kx;simp only[ZOM,Xt,ZNn a h];by_cases d:tC a=Tl
 .rw[aFa ⟨d,by omega,by omega⟩,aFa d];simp only[YO,ZRM (G5 h d)]
 simp_all
theorem amN(hi lo:Nat)(j:hi<2 ^ 64)(g:lo<2 ^ 64):∀fu (i:Nat) (z:Int),i<=64->64-i<fu->(i<64->z=((2 ^ (63-i):Nat):Int)) ->
  Ki (hi:Int) (lo:Int) 128 fu ((hi-hi % 2 ^ (64-i):Nat):Int) ((lo-lo % 2 ^ (64-i):Nat):Int) z (i:Int)=S8 ((hi:Int),(lo:Int)):=by
 intro fu;induction fu with
 |zero=>intro i z _ h;omega
 |succ fu ih=>
  intro i z aEg A d;unfold Ki;simp only[o8];by_cases h:i<64
  .have o:n_ (i:Int) 64=((i+64:Nat):Int):=by rw[s_ (by omega) (by omega)];omega
   have t:n_ (i:Int) 1=((i+1:Nat):Int):=by rw[s_ (by omega) (by omega)];omega
   have d:=d h;obtain⟨p,hp⟩ : ∃p:Nat,p=2 ^ (63-i):=⟨_,rfl⟩;have io:0<p:=by grind
   have dD:2 ^ (64-i)=2*p:=by rw[hp,show 64-i=(63-i)+1 by omega,Zm];omega
   have hp3:p<=2 ^ 63:=by rw[hp];exact YS (by omega) (by omega)
   have c5:p<2 ^ 64:=by omega
   rw[<-hp]at d;subst d;have ll:US .u64 (Yc (p:Int) 2)=((p / 2:Nat):Int):=by
    rw[KG ⟨by omega,by omega⟩ 2,Y' (by omega) (by omega)];rfl
   have cJ:i+1<64->((p / 2:Nat):Int)=((2 ^ (63-(i+1)):Nat):Int):=λu=>by
    have:p=2 * 2 ^ (63-(i+1)):=by rw[hp,show 63-i=(63-(i+1))+1 by omega,Zm];omega
    omega
   have bit:∀n:Nat,n<2 ^ 64->US .u64 (Yc (n:Int) (p:Int))=((n / p:Nat):Int):=λn y=>by
    rw[KG ⟨by omega,by omega⟩ _,Y' (by omega) (by omega)];rfl
   have step:∀n:Nat,n<2 ^ 64->(n / p % 2=1->US .u64 (((n-n % 2 ^ (64-i):Nat):Int)+(p:Int))=((n-n % 2 ^ (64-(i+1)):Nat):Int))/\(n / p % 2≠1->((n-n % 2 ^ (64-i):Nat):Int)=((n-n % 2 ^ (64-(i+1)):Nat):Int)):=λn y=>by
    have e:2 ^ (64-(i+1))=p:=by rw[hp];congr 1;omega
    rw[e,dD];have hm:n % (2*p)=n % p+p*(n / p % 2):=by rw[Nat.mul_comm 2 p];exact Nat.mod_mul
    have GP:n % p<p:=Ub _ io;have hm3:n % (2*p)<=n:=Nat.mod_le _ _;refine⟨λhb=>?_,λhb=>?_⟩
    .rw[hb,UM]at hm;rw[Ay (by omega) (by omega)];omega
    simp_all
   have tm:∀n:Nat,((XZ ((n:Nat):Int) 2)==(1:Int))=decide (n % 2=1):=λn=>by
    have:XZ ((n:Nat):Int) 2=((n % 2:Nat):Int):=(Int.ofNat_tmod n 2).symm;rw[this];by_cases u:n % 2=1
    all_goals simp_all
   have dK:∀v8:Int,v8=((hi-hi % 2 ^ (64-(i+1)):Nat):Int)->P8 (hi:Int) (lo:Int) 128 ((lo-lo % 2 ^ (64-i):Nat):Int) (p:Int) (i:Int) (Ki (hi:Int) (lo:Int) 128 fu) v8=S8 ((hi:Int),(lo:Int)):=by
    rintro v8 rfl;unfold P8;simp only[o8,o,t,ll,bit lo g,tm];rw[p7,o9 (by omega)];by_cases hb:lo / p % 2=1
    .rw[aFa hb,(step lo g).1 hb];exact ih (i+1) _ (by omega) (by omega) cJ
    .rw[aE_ hb,(step lo g).2 hb];exact ih (i+1) _ (by omega) (by omega) cJ
   rw[p7,p7,o9 (by omega)];simp only[bit hi j,tm,o8];simp_all
  grind
theorem ZTY(hi lo:Nat)(d:hi<2 ^ 64:=by omega)(e:lo<2 ^ 64:=by omega):Zjo (hi:Int) (lo:Int) 128=S8 ((hi:Int),(lo:Int)):=by
 unfold Zjo;have:=amN hi lo d e 66 0 9223372036854775808 (by omega) (by omega) (λ_=>by decide)
 grind
theorem ZPp(a:oV)(h:a.ok):PN a=S8 (Kx a):=by
 unfold PN Zoi Kx;simp only[ZBd,Xt,Gq a h,o8];by_cases g:tC a=Tl
 .rw[g,YP,aFb,pO,pO,aFa rfl];unfold Zoh ZiH ZiG;simp only[Gq a h,g,YP,aFb,Xt,o8,ZBd];rw[pO,pO];have d:=G5 h g;obtain⟨v6,hi,lo⟩:=a;have j:=d.vR;have o:=d.yE;have t:=d.Bl;have u:=d.C6;simp only at j o t u;obtain⟨x,rfl⟩ : ∃x:Nat,hi=x:=⟨hi.toNat,by omega⟩;obtain⟨y,rfl⟩ : ∃y:Nat,lo=y:=⟨lo.toNat,by omega⟩;cases v6
  .have B:=d.v4 rfl;have e:wid ⟨Tm,(x:Int),(y:Int)⟩=32:=rfl;have A:n_ (96:Int) ((32:Nat):Int)=128:=by decide
   simp only[e,A,aFb];have:=ZTY 0 y;simp_all
  .have e:wid ⟨Tl,(x:Int),(y:Int)⟩=128:=rfl;simp only[e,aFc];have:=ZTY x y;simp_all
 .simp[g]
def Kz(a:oV)(s n:Int):Int:=(Hh a s n).getD 0
def Dh(p:Int):Int:=if p<1 then 1 else if p>8 then 8 else p
theorem G8(a:oV)(h:a.ok)(s n:Int):Hh a s n=S8 (Kz a s n)/\Ep a s n=S8 (Kz a s n)/\0<=Kz a s n/\Kz a s n<Dh n:=by
 have e:ZqL n=S8 (Dh n):=by
  unfold ZqL Dh
  grind
 have g:J8 n=S8 (Dh n):=by
  unfold J8 Dh
  grind
 have d:1<=Dh n/\Dh n<=8:=by
  unfold Dh;omega
 obtain⟨m,j,o,t⟩:=ZNl s (Kx a);obtain⟨r,u,y,h6,B⟩:=amH m (Dh n) t d.1 d.2;have A:Hh a s n=S8 r:=by
  unfold Hh;simp only[ZKQ a h,j,e,u,Xt]
 have D:Ep a s n=S8 r:=by
  unfold Ep;simp only[ZPp a h,o,g,y,Xt]
 have F:Kz a s n=r:=by unfold Kz;rw[A];rfl
 simp_all
def vf(a:oV):pn:=if tC a then(if a.qt then⟨⟨Tl,a.rk-a.rk % 4294967296,0⟩,32⟩else⟨⟨Tm,0,a.qX-a.qX % 65536⟩,16⟩)else⟨⟨Tm,0,0⟩,0⟩
theorem ac9:CQ 16=S8 18446462598732840960:=by decide +kernel
theorem ac8:CQ 32=S8 18446744069414584320:=by decide +kernel
theorem ak8:CQ (pR 32 64)=S8 0:=by decide +kernel
theorem ZQR(n k:Nat)(g:k<=64:=by omega)(h:n<2 ^ 64:=by omega):n &&& (2 ^ 64-2 ^ k)=n-n % 2 ^ k:=by
 have d:n-n % 2 ^ k=2 ^ k*(n / 2 ^ k):=by have:=WT n (2 ^ k);omega
 rw[d];apply Y0;intro i;have e:2 ^ 64-2 ^ k=2 ^ k*(2 ^ (64-k)-1):=by
  rw[ZI,<-Y5,UM];congr 2;omega
 rw[Za,e,Y3,Y3,Zh,Zl];by_cases hi:k<=i
 .by_cases j:i<64
  .grind
  .have:n.testBit i=Tm:=YU (TC h (YS (by omega) (by omega)));simp_all
 .simp[hi]
theorem alo(n:Nat)(h:n<4294967296):n &&& 4294901760=n-n % 65536:=by
 have d:=ZQR n 16;have e:n &&& 4294901760=n &&& (2 ^ 64-2 ^ 16):=by
  apply Y0;intro i;rw[Za,Za];by_cases hi:i<32
  .congr 1;have:∀i:Fin 32,ZH 4294901760 i.val=ZH (2 ^ 64-2 ^ 16) i.val:=by decide
   exact this ⟨i,hi⟩
  .have:n.testBit i=Tm:=YU (TC h (YS (n:=2) (by omega) (show 32<=i by omega)));rw[this];rfl
 rw[e,d]
theorem ZGV(a b:Nat)(ha:a<2 ^ 64:=by omega)(hb:b<2 ^ 64:=by omega):Wn.wrap (((Tz (UB .u64) (a:Int)) &&& (Tz (UB .u64) (b:Int))).toNat:Int)=((a &&& b:Nat):Int):=by
 rw[ZOO a b ha hb];have:a &&& b<2 ^ 64:=Zu _ hb;exact Ay (by omega) (by omega)
theorem Li(a:oV)(h:a.ok):Ej a=S8 (vf a):=by
 have o:=JO a h;obtain⟨v,hi,lo⟩:=a;obtain⟨_,d,e,_⟩:=h;have d:=BC d;have e:=BC e;simp only at d e;obtain⟨n,y⟩:=yQ d.1;obtain⟨m,hm⟩:=yQ e.1;subst y hm;cases g:tC ⟨v,n,m⟩with
 |false=>
  cases v<;>simp[Ej,SA,E5,o,g,vf]
 |true=>
  cases v with
  |false=>
   have A:(n:Int)=0/\(m:Int)<4294967296:=by simpa[tC]using g
   have j:(m &&& 4294901760:Nat)=m-m % 65536:=alo m (by omega);have t:=ZGV m 4294901760;rw[j]at t;have u:Xo (18446462598732840960:Int) (2 ^ (min (32:Int).toNat (UB .u64)))=((4294901760:Nat):Int):=by decide +kernel
   simp only[Ej,SA,E5,o,g,Xt,aFb,YP,B1,JP,YT,aFc,vf,aFg,YQ,aFi];simp only[show (decide ((16:Int)<0))=Tm from rfl,show decide ((16:Int)>32)=Tm from rfl,aFb,Xt];rw[show (if(32:Int)<(if(0:Int)>16 then(0:Int)else 16)then(32:Int)else(if(0:Int)>16 then(0:Int)else 16))=16 from rfl,ac9]
   grind
  |true=>
   have t:=ZGV n 18446744069414584320;have j:=ZQR n 32;rw[show (2:Nat) ^ 64-2 ^ 32=18446744069414584320 from rfl,show (2:Nat) ^ 32=4294967296 from rfl]at j;rw[j]at t;have u:=ZGV m 0;rw[ZE]at u;simp only[Ej,SA,E5,o,g,Xt,aFb,YP,B1,JP,YT,aFc,vf,aFg,YQ,aFi];simp only[show (decide ((32:Int)<0))=Tm from rfl,show decide ((32:Int)>128)=Tm from rfl,aFb,Xt];rw[show (if(128:Int)<(if(0:Int)>32 then(0:Int)else 32)then(128:Int)else(if(0:Int)>32 then(0:Int)else 32))=32 from rfl];simp only[ZqU,ac8,ak8,Xt]
   grind
theorem ZPo(a:oV)(h:a.ok):Hv a=S8 (vf a):=by
 have g:=Gq a h;obtain⟨v,hi,lo⟩:=a;obtain⟨_,d,e,_⟩:=h;have d:=BC d;have e:=BC e;simp only at d e;have t1:XZ hi 4294967296=hi % 4294967296:=Zj d.1;have t2:XZ lo 65536=lo % 65536:=Zj e.1;cases j:tC ⟨v,hi,lo⟩with
 |false=>simp[Hv,g,j,vf]
 |true=>
  cases v with
  |false=>
   simp only[Hv,g,j,Xt,aFb,YP,vf,aFg,YQ,aFi,t2];rw[Ay (by omega) (by omega)]
  |true=>
   simp only[Hv,g,j,Xt,aFb,YP,vf,aFg,aFc,t1];rw[Ay (by omega) (by omega)]
def MY(l:S5 pn):Prop:=l.Pairwise λa b=>rb a b<0
theorem MY.nodup{l:S5 pn}(h:MY l):l.Nodup:=List.Pairwise.imp (λ{a b} Ob e=>by subst e;have:=(Gt (a:=a) (b:=a)).2 rfl;omega) h
def yF(l:S5 pn):Nat->S5 pn|0=>[]|m+1=>if 0<m/\l.getD m pn.d=l.getD (m-1) pn.d then yF l m else yF l m++[l.getD m pn.d]
theorem ZBv(l:S5 pn):∀m,m<=S7 l->(∀i,0<i->i<m->l.getD i pn.d≠l.getD (i-1) pn.d)->yF l m=l.take m
 | 0,_,_=>by simp[yF]
 |m+1,h,e=>by
  rw[yF,aE_ (λg=>e m g.1 (by omega) g.2),ZBv l m (by omega) (λi j o=>e i j (by omega)),YR (by omega),ua l _ m]
theorem ZWs(l:S5 pn):∀m,m<=S7 l->∀x,x∈yF l m↔x∈l.take m
 | 0,_,x=>by simp[yF]
 |m+1,h,x=>by
  have ih:=ZWs l m (by omega)
  rw[YR (by omega),T9,yF]
  have e:=ua l pn.d m
  split
  .rename_i g
   rw[ih x]
   constructor
   .exact .inl
   .rintro (h1|h1)
    .exact h1
    .rw[Y9]at h1
     rw[h1,<-e,g.2,ua l pn.d (m-1)]
     exact List.mem_take_iff_getElem.2 ⟨m-1,by omega,rfl⟩
  simp_all
theorem ZWr(l:S5 pn)(hs:l.Pairwise λa b=>rb a b<=0):∀m,m<=S7 l->MY (yF l m)/\∀x∈yF l m,rb x (l.getD (m-1) pn.d)<=0
 | 0,_=>by simp[yF,MY]
 |m+1,h=>by
  obtain⟨g,j⟩:=ZWr l hs m (by omega)
  rw[yF]
  by_cases hm:m=0
  .subst hm
   rw[aE_ (by simp)]
   simp only[yF,YY]
   exact⟨Zk _ _,λx hx=>by rw[Y9]at hx;rw[hx];have:=(Gt (a:=l.getD 0 pn.d) (b:=l.getD 0 pn.d)).2 rfl;simp at this ⊢;omega⟩
  .split
   .simp_all
   .rename_i o
    have qN:l.getD m pn.d≠l.getD (m-1) pn.d:=λe=>o ⟨by omega,e⟩
    have hle:rb (l.getD (m-1) pn.d) (l.getD m pn.d)<=0:=by
     rw[ua l _ m,ua l _ (m-1)];exact Zi.1 hs (m-1) m (by omega) (by omega) (by omega)
    have qI:rb (l.getD (m-1) pn.d) (l.getD m pn.d)<0:=by
     have:rb (l.getD (m-1) pn.d) (l.getD m pn.d)≠0:=λe=>qN (Gt.1 e).symm;omega
    have bH:∀x∈yF l m,rb x (l.getD m pn.d)<0:=λx hx=>by
     have u:=j x hx;by_cases t:rb x (l.getD (m-1) pn.d)=0
     .rw[Gt.1 t];exact qI
     .exact ZwK (by omega) qI
    refine⟨Y4.2 ⟨g,Zk _ _,λx hx y A=>by simp_all⟩,λx hx=>?_⟩;rw[Nat.add_sub_cancel];rcases T9.1 hx with hx|hx
    .grind
    .rw[Y9]at hx;rw[hx];have:=(Gt (a:=l.getD m pn.d) (b:=l.getD m pn.d)).2 rfl;omega
theorem aci(h:0<i)(hm:i<=maxLen:=by omega):pR (i:Int) 1=((i-1:Nat):Int):=by
 unfold maxLen at hm;rw[tq (by omega) (by omega)];omega
theorem ZSv(l:S5 pn)(hl:S7 l<=maxLen)(g:Nat)(Ae:0<g)(aEf:g<S7 l)(k:Int->S5 pn->S6 (S5 pn)):∀fu (j kk:Nat) (w:S5 pn),0<j->g+j<=S7 l->S7 l-(g+j)<fu ->
  w.length=S7 l->(∀i,g+j-1<=i->w.getD i pn.d=l.getD i pn.d)->kk<g+j->w.take kk=yF l (g+j)->kk<=S7 w ->
  Qj k fu (kk:Int) g (S7 l-g) l.length (j:Int) w=S8 (yF l l.length):=by
 intro fu;induction fu with
 |zero=>omega
 |succ fu ih=>
  intro j kk w u hjl A t c6 hkk fd k9;simp only[Qj,o8];by_cases h:g+j<S7 l
  .rw[p7,o9 ⟨by omega,by omega⟩,o9 (by simp;omega),aci u,o9 ⟨by omega,by omega⟩,o9 (by simp;omega)];simp only[YO];simp only[show g+(j-1)=g+j-1 by omega,c6 (g+j) (by omega),c6 (g+j-1) (by omega)];have ha:n_ (j:Int) 1=((j+1:Nat):Int):=pY (n:=S7 l) (by omega) hl;have lV:yF l (g+(j+1))=if 0<g+j/\l.getD (g+j) pn.d=l.getD (g+j-1) pn.d then yF l (g+j)else yF l (g+j)++[l.getD (g+j) pn.d]:=rfl;by_cases o:l.getD (g+j) pn.d=l.getD (g+j-1) pn.d
   .rw[aFa ⟨by omega,o⟩]at lV;rw[aFk o];simp only[YP,aFb];rw[ha];exact ih (j+1) kk w (by omega) (by omega) (by omega) t (λi hi=>c6 i (by omega)) (by omega) (by rw[lV];exact fd) k9
   .rw[aE_ (λy=>o y.2)]at lV;rw[aFo o];simp only[YT,aFc];rw[o9 ⟨by omega,by omega⟩,ha,show n_ (kk:Int) 1=((kk+1:Nat):Int)from pY (n:=S7 l) (by omega) hl];have hkw:kk<S7 w:=by omega
    refine ih (j+1) (kk+1) _ (by omega) (by omega) (by omega) (by simp[t]) (λi hi=>?_) (by omega) ?_ (by simp;omega)
    .grind
    .rw[lV,<-fd]
     (try simp only[YO])
     rw[YR (by simp;omega),Zp (by omega)];simp
  .have e:g+j=S7 l:=by omega
   rw[pO,o9 ⟨by omega,by omega,by omega⟩,o9 (by simp;omega),o9 ⟨by omega,by omega,by omega⟩];simp only[YO];rw[o9 (by rw[Oz _ _ _ _];exact k9)];rw[<-e,<-fd];congr 1;simp only[Ak,Vl]
   grind
theorem ZOH(l:S5 pn)(hl:S7 l<999999):∀fu (i:Nat),0<i->i<=S7 l->S7 l-i<fu->(∀q,0<q->q<i->l.getD q pn.d≠l.getD (q-1) pn.d) ->
  Qi fu (i:Int) l=S8 (yF l l.length):=by
 have hm:S7 l<=maxLen:=by unfold maxLen;omega
 intro fu;induction fu with
 |zero=>intro _ _ _ h;omega
 |succ fu ih=>
  intro i hi jj u j;simp only[Qi,o8];by_cases h:i<S7 l
  .rw[p7,o9 ⟨by omega,by omega⟩,aci hi,o9 ⟨by omega,by omega⟩];simp only[YO];by_cases g:l.getD i pn.d=l.getD (i-1) pn.d
   .rw[aFa g,o9 ⟨by omega,by omega,by omega⟩];refine ZSv l hm i hi h _ 1000000 1 i l (by omega) (by omega) (by omega) rfl (λ_ _=>rfl) (by omega) ?_ (by omega);rw[yF,aFa ⟨hi,g⟩,ZBv l i (by omega) j]
   .rw[aE_ g,pY h hm];refine ih (i+1) (by omega) (by omega) (by omega) λq o t=>?_
    grind
  .have e:i=S7 l:=by omega
   rw[pO];congr 1;rw[ZBv l l.length (Tq _) (λq o t=>j q o (by omega)),Zg]
theorem ZSw(l:S5 pn)(hl:S7 l<999999):My l=S8 (yF l l.length):=by
 simp only[My,o8];split
 .rename_i h;congr 1;rw[ZBv l l.length (Tq _) (λi d e=>by omega),Zg]
 .rename_i h;exact ZOH l hl _ 1 (by omega) (by omega) (by omega) (λq d e=>by omega)
theorem ZYp(l:S5 pn)(h:S7 l<999999):∃L,(JX l).bind My=S8 L/\MY L/\∀x,x∈L↔x∈l:=by
 unfold JX;rw[o9 (by omega)];simp only[Xt];have hp:=List.mergeSort_perm l (λx y=>!(Wo rb) y x);have hs:=List.pairwise_mergeSort (le:=λx y=>!(Wo rb) y x) (λa b c d e=>by
   have:=ZQF.ntrans c b a (by simpa using e) (by simpa using d);simpa using this) (λa b=>by
   rw[KS,KS,Bool.or_eq_true,VR,VR,aFm,aFm];by_cases d:rb b a<0
   .refine .inr λe=>?_;have:=ZwK d e;have:=(Gt (a:=b) (b:=b)).2 rfl;omega
   .exact .inl d) l
 generalize l.mergeSort (λx y=>!(Wo rb) y x)=m at hp hs;rw[ZSw m (by rw[hp.length_eq];exact h)];refine⟨_,rfl,(ZWr m (hs.imp λ{a b} Ob=>?_) m.length (Tq _)).1,λx=>?_⟩
 .rw[KS,VR,aFm]at Ob;have:¬0<rb a b:=λh=>Ob (RP.1 h);omega
 .rw[ZWs m m.length (Tq _),Zg];exact hp.mem_iff
end Go.Proofs.YtmcnjofonpkfmaaGreat
