import Derived.Test.YtmnloegcpaahcaaGreatBPlA
import Derived.Test.YtmnloegcpaahcaaGreatBAdaA3
namespace Go.Proofs.YtmnloegcpaahcaaGreat
set_option linter.unusedSimpArgs false
set_option linter.unusedVariables false
def cmpN(a b:Zap):Int:=orI (cmpA a.fAddr b.fAddr) (cmpI a.fBits b.fBits)
theorem ZKC{a b:Zap}:cmpN a b<0↔cmpA a.fAddr b.fAddr<0\/(a.fAddr=b.fAddr/\a.fBits<b.fBits):=by simp only[cmpN,ZDc,ZyP,Zta]
theorem ZFi{a b c:Zap}(d:cmpN a b<0)(g:cmpN b c<0):cmpN a c<0:=by
 rw[ZKC]at *
 rcases d with d|⟨d,h⟩<;>rcases g with g|⟨g,j⟩
 .exact .inl (ZxE d g)
 .exact .inl (g ▸ d)
 .exact .inl (d ▸ g)
 .exact .inr ⟨d.trans g,by omega⟩
theorem ZmE{a:Int}(h:0<=a):∃n:Nat,a=n:=⟨a.toNat,by omega⟩
def Zet(a:Zaf):Bool:=if a.fV6 then !(decide (a.fHi=0)&&decide (a.fLo / 4294967296=65535))else decide (a.fHi=0)&&decide (a.fLo<4294967296)
theorem ZLe(n:Nat)(h:n<=18446744073709551615):IntKind.u32.wrap (IntKind.u64.wrap (((BitVec.ofInt (IntKind.bits .u64) (n:Int)) &&& (BitVec.ofInt (IntKind.bits .u64) (4294967295:Int))).toNat:Int))=((n % 4294967296:Nat):Int):=by
 have:=ZCz n 4294967295 (by omega) (by omega);rw[show ((4294967295:Nat):Int)=(4294967295:Int)from rfl]at this;rw[this,show (4294967295:Nat)=2 ^ 32-1 from rfl,Nat.and_two_pow_sub_one_eq_mod];rw[show (2:Nat) ^ 32=4294967296 from rfl];have b:n % 4294967296<4294967296:=Nat.mod_lt _ (by omega);rw[Ziv (by omega) (by omega)];simp only[IntKind.wrap,IntKind.bits,IntKind.signed];simp
theorem ZKM(n:Nat)(h:n<4294967296):ZoQ ((n:Nat):Int)=some ⟨false,0,n⟩:=by
 unfold ZoQ;rw[Ziv (by omega) (by omega)]
theorem Zlt(a:Zaf)(h:a.ok):ZfM a=some (Zet a):=by
 obtain⟨v,hi,lo⟩:=a;obtain⟨_,d,b,_⟩:=h;have d:=ZnR d;have b:=ZnR b;simp only at d b;obtain⟨n,rfl⟩:=ZmE b.1;have o:=ZLe n (by omega);have hlt:n % 4294967296<4294967296:=Nat.mod_lt _ (by omega);have hd:Int.fdiv (n:Int) (2 ^ (min (32:Int).toNat (IntKind.bits .u64)))=(n:Int) / 4294967296:=by
  rw[show (2:Int) ^ (min (32:Int).toNat (IntKind.bits .u64))=4294967296 from rfl,Int.fdiv_eq_ediv_of_nonneg _ (by omega)]
 cases v with
 |true=>
  simp only[ZfM,ZsN,Zet,cond_true,hd,o];have hb:∀(p q:Int),(p==q)=decide (p=q):=fun p q=>by rw[Bool.eq_iff_iff];simp
  have u:=ZKM _ hlt;by_cases g:hi=0
  .by_cases t:(n:Int) / 4294967296=65535
   .rw[hb,hb,decide_eq_true g,decide_eq_true t,cond_true,cond_true,u];simp
   .rw[hb,hb,decide_eq_true g,decide_eq_false t,cond_true,cond_false];simp
  .rw[hb,decide_eq_false g,cond_false];simp
 |false=>
  simp only[ZfM,Zet,cond_false,o,ZKM _ hlt,Option.bind_some];congr 1;rw[Bool.eq_iff_iff];simp;constructor
  .rintro ⟨j,y⟩;exact⟨j.symm,by omega⟩
  .rintro ⟨j,y⟩;exact⟨j.symm,by omega⟩
theorem Zmy(a:Zaf)(h:a.ok):Zcc a=some (Zet a):=by
 obtain⟨v,hi,lo⟩:=a;obtain⟨_,d,b,_⟩:=h;have d:=ZnR d;have b:=ZnR b;simp only at d b;have hd:IntKind.u64.wrap (Int.tdiv lo 4294967296)=lo / 4294967296:=by
  rw[Int.tdiv_eq_ediv_of_nonneg b.1];exact Ziv (by omega) (by omega)
 cases v with
 |true=>
  simp only[Zcc,Zet,hd,Bool.not_true,cond_false,if_true];generalize lo / 4294967296=q;simp only[Bool.cond_eq_ite,beq_iff_eq,bne_iff_ne,ne_eq,decide_eq_true_eq,Bool.not_eq_true',Bool.not_eq_false',decide_eq_false_iff_not]
  repeat' split
  all_goals first|rfl | (rw[Option.some.injEq,Bool.eq_iff_iff];simp only[Bool.and_eq_true,Bool.not_eq_true',Bool.not_eq_false',Bool.and_eq_false_iff,decide_eq_true_eq,decide_eq_false_iff_not,beq_iff_eq,bne_iff_ne,ne_eq,iff_true,iff_false,true_iff,false_iff,Bool.false_eq_true,Bool.true_eq_false,not_true_eq_false,not_false_eq_true];omega)
 |false=>
  simp only[Zcc,Zet,Bool.not_false,cond_true,Bool.false_eq_true,if_false];simp only[Bool.cond_eq_ite,beq_iff_eq,bne_iff_ne,ne_eq,decide_eq_true_eq,Bool.not_eq_true',Bool.not_eq_false',decide_eq_false_iff_not]
  repeat' split
  all_goals first|rfl | (rw[Option.some.injEq,Bool.eq_iff_iff];simp only[Bool.and_eq_true,Bool.not_eq_true',Bool.not_eq_false',Bool.and_eq_false_iff,decide_eq_true_eq,decide_eq_false_iff_not,beq_iff_eq,bne_iff_ne,ne_eq,iff_true,iff_false,true_iff,false_iff,Bool.false_eq_true,Bool.true_eq_false,not_true_eq_false,not_false_eq_true];omega)
theorem ZCW(a b:Zaf):Zej a b=some (cmpA a b):=by
 obtain⟨v,hi,lo⟩:=a;obtain⟨v',cH,kq⟩:=b;simp only[Zej,Zeo,Zen,cmpA,famA,cmpI,orI,Zaf.mk.injEq];simp only[Bool.cond_eq_ite,bne_iff_ne,ne_eq,ite_not,decide_eq_true_eq,Bool.not_eq_true',beq_eq_false_iff_ne];cases v<;>cases v'<;>simp only[true_and,Bool.false_eq_true,Bool.true_eq_false,false_and,not_true_eq_false,not_false_eq_true,if_true,if_false,ite_true,ite_false,Bool.not_true,Bool.not_false]
 all_goals (repeat' split)<;>first|rfl|omega | (congr 1;omega)|simp_all
theorem ZIp(a b:Zap):Zfp a b=some (cmpN a b):=by
 simp only[Zfp,ZCW,Option.bind_some,cmpN,orI,cmpI];simp only[Bool.cond_eq_ite,bne_iff_ne,ne_eq,ite_not,decide_eq_true_eq,beq_iff_eq];generalize cmpA a.fAddr b.fAddr=c
 (repeat' split)<;>first|rfl|omega | (congr 1;omega)|simp_all
def Zmf(a:Zal):Bool:=Zet a.fAddr&&decide (1<=a.fPort)&&decide (a.fPort<=65535)
theorem ZFg(a:Zal)(h:a.ok):ZlM a=some (Zmf a):=by
 simp only[ZlM,Zlt _ h.1,Zmf,Option.bind_some];generalize Zet a.fAddr=b;cases b<;>simp only[cond_true,cond_false,Bool.true_and,Bool.false_and];simp only[Bool.cond_eq_ite,beq_iff_eq,bne_iff_ne,ne_eq,decide_eq_true_eq,Bool.not_eq_true',Bool.not_eq_false',decide_eq_false_iff_not]
 repeat' split
 all_goals first|rfl | (rw[Option.some.injEq,Bool.eq_iff_iff];simp only[Bool.and_eq_true,Bool.not_eq_true',Bool.not_eq_false',Bool.and_eq_false_iff,decide_eq_true_eq,decide_eq_false_iff_not,beq_iff_eq,bne_iff_ne,ne_eq,iff_true,iff_false,true_iff,false_iff,Bool.false_eq_true,Bool.true_eq_false,not_true_eq_false,not_false_eq_true];omega)
theorem Zqj(a:Zal)(h:a.ok):ZdX a=some (Zmf a):=by
 simp only[ZdX,Zmy _ h.1,Zmf,Option.bind_some];generalize Zet a.fAddr=b;cases b<;>simp only[cond_true,cond_false,Bool.true_and,Bool.false_and];simp only[Bool.cond_eq_ite,beq_iff_eq,bne_iff_ne,ne_eq,decide_eq_true_eq,Bool.not_eq_true',Bool.not_eq_false',decide_eq_false_iff_not]
 repeat' split
 all_goals first|rfl | (rw[Option.some.injEq,Bool.eq_iff_iff];simp only[Bool.and_eq_true,Bool.not_eq_true',Bool.not_eq_false',Bool.and_eq_false_iff,decide_eq_true_eq,decide_eq_false_iff_not,beq_iff_eq,bne_iff_ne,ne_eq,iff_true,iff_false,true_iff,false_iff,Bool.false_eq_true,Bool.true_eq_false,not_true_eq_false,not_false_eq_true];omega)
def Zzu(e:Zac):Bool:=Zmf e.fEnd&&decide (1<=e.fState)&&decide (e.fState<=3)&&decide (0<=e.fFails)&&decide (e.fFails<=1000)&&decide (0<=e.fNext)&&decide (e.fNext<=1099511627776)
theorem Zwx(e:Zac)(h:e.ok):Zgd e=some (Zzu e):=by
 simp only[Zgd,Zqj _ h.1,Zzu,Option.bind_some];generalize Zmf e.fEnd=b;cases b<;>simp only[cond_true,cond_false,Bool.true_and,Bool.false_and];simp only[Bool.cond_eq_ite,beq_iff_eq,bne_iff_ne,ne_eq,decide_eq_true_eq,Bool.not_eq_true',Bool.not_eq_false',decide_eq_false_iff_not]
 repeat' split
 all_goals first|rfl | (rw[Option.some.injEq,Bool.eq_iff_iff];simp only[Bool.and_eq_true,Bool.not_eq_true',Bool.not_eq_false',Bool.and_eq_false_iff,decide_eq_true_eq,decide_eq_false_iff_not,beq_iff_eq,bne_iff_ne,ne_eq,iff_true,iff_false,true_iff,false_iff,Bool.false_eq_true,Bool.true_eq_false,not_true_eq_false,not_false_eq_true];omega)
def cmpE(a b:Zal):Int:=orI (cmpA a.fAddr b.fAddr) (cmpI a.fPort b.fPort)
theorem ZDG(a b:Zal):Zit a b=some (cmpE a b):=by
 simp only[Zit,ZJh,Zwc,or2,Option.bind_some,cmpE]
theorem Zsj(a b:Zal):ZcA a b=some (cmpE a b):=by
 simp only[ZcA,ZCW,Option.bind_some,cmpE,orI,cmpI];simp only[Bool.cond_eq_ite,bne_iff_ne,ne_eq,ite_not,decide_eq_true_eq,beq_iff_eq];generalize cmpA a.fAddr b.fAddr=c
 (repeat' split)<;>first|rfl|omega | (congr 1;omega)|simp_all
theorem ZHq{a b:Zal}:cmpE a b<0↔cmpA a.fAddr b.fAddr<0\/(a.fAddr=b.fAddr/\a.fPort<b.fPort):=by simp only[cmpE,ZDc,ZyP,Zta]
theorem ZKD{a b:Zal}:0<cmpE a b↔0<cmpA a.fAddr b.fAddr\/(a.fAddr=b.fAddr/\b.fPort<a.fPort):=by simp only[cmpE,ZDd,ZyQ,Zta]
theorem ZhM{a b:Zal}:cmpE a b=0↔a=b:=by
 simp only[cmpE,ZDb,ZmZ,Zta];obtain⟨x,p⟩:=a;obtain⟨y,q⟩:=b;simp
theorem ZiT{a b:Zal}:0<cmpE a b↔cmpE b a<0:=by
 rw[ZKD,ZHq,ZHr];constructor<;>rintro (h|⟨d,g⟩)<;>first|exact .inl h|exact .inr ⟨d.symm,g⟩
theorem ZoS{a b c:Zal}(d:cmpE a b<0)(g:cmpE b c<0):cmpE a c<0:=by
 rw[ZHq]at *
 rcases d with d|⟨d,h⟩<;>rcases g with g|⟨g,j⟩
 .exact .inl (ZxE d g)
 .exact .inl (g ▸ d)
 .exact .inl (d ▸ g)
 .exact .inr ⟨d.trans g,by omega⟩
def findS(l:List Zac)(e:Zal):Int:=ixOf (fun x=>decide (x.fEnd=e)) l 0
theorem ZIo(l:List Zac)(e:Zal)(hl:l.length<=maxLen):ZgD l e=some (findS l e):=by
 simp only[ZgD];rw[show ((0:Int))=((0:Nat):Int)from rfl];rw[Zto l Zac.d (fun x=>decide (x.fEnd=e)) hl (fun fu i=>ZcT l fu i e) (fun i=>i) ?_ ?_ _ 0 (by omega) (by omega)]
 .rfl
 .intro fu i hi;simp only[ZcT,Zai];rw[if_pos (by omega),Zar ⟨by omega,by omega⟩];simp
 .intro fu;simp only[ZcT,Zai];rw[if_neg (by omega)]
def Zhm(l:List Zac)(state:Int):Int:=((l.countP fun x=>decide (x.fState=state):Nat):Int)
theorem ZzB(l:List Zac)(state:Int)(hl:l.length<=maxLen):ZeY l state=some (Zhm l state):=by
 simp only[ZeY];have:=Zxm l Zac.d (fun x=>decide (x.fState=state)) hl (fun fu n i=>Zcp l state fu n i) (fun fu i n hi=>by
   simp only[Zcp,Zai];rw[if_pos (by omega),Zar ⟨by omega,by omega⟩];simp only[Bool.cond_eq_ite,beq_iff_eq,Int.toNat_natCast,decide_eq_true_eq]) (fun fu n=>by
   simp only[Zcp,Zai];rw[if_neg (by omega)]) ((((l.length:Nat):Int)-(0:Int)).toNat+2) 0 0 (by omega) (by omega) (by omega)
 simpa[Zhm]using this
def ZDT:Option Zac->Zac->Bool|none,_=>true|some p,x=>decide (cmpE p.fEnd x.fEnd<0)
def ZCR:Option Zac->List Zac->Bool|_,[]=>true|p,x :: r=>Zzu x&&ZDT p x&&ZCR (some x) r
def ZFS(l:List Zac):Bool:=ZCR none l
def Zzt:List Zac->List Zac->Bool|_,[]=>true|p,x :: r=>Zzu x&&p.all (fun y=>decide (cmpE y.fEnd x.fEnd<0))&&Zzt (p++[x]) r
theorem Zzs:∀(r p:List Zac),p.Pairwise (fun a b=>cmpE a.fEnd b.fEnd<0)->Zzt p r=ZCR p.getLast? r
 | [],p,_=>rfl
 |x :: r,p,hp=>by
  simp only[Zzt,ZCR]
  have e:p.all (fun y=>decide (cmpE y.fEnd x.fEnd<0))=ZDT p.getLast? x:=by
   rcases List.eq_nil_or_concat p with rfl|⟨q,z,rfl⟩
   .rfl
   .rw[List.concat_eq_append]at hp ⊢;rw[List.getLast?_append,List.getLast?_singleton,Option.some_or,List.all_append];simp only[ZDT,List.all_cons,List.all_nil,Bool.and_true];by_cases d:cmpE z.fEnd x.fEnd<0
    .rw[decide_eq_true d,Bool.and_true,List.all_eq_true];intro y g;have:=(List.pairwise_append.1 hp).2.2 y g z (by simp);exact decide_eq_true (ZoS this d)
    .rw[decide_eq_false d,Bool.and_false]
  rw[e];cases ha:ZDT p.getLast? x
  .simp
  .rw[Zzs r (p++[x])]
   .simp
   .refine List.pairwise_append.2 ⟨hp,List.pairwise_singleton _ _,fun y g z d=>?_⟩;rw[List.mem_singleton.1 d];rw[ha]at e;exact of_decide_eq_true (List.all_eq_true.1 e y g)
theorem Zya(l:List Zac)(h:l.length<=maxLen)(aC:∀x∈l,x.ok):Zgc l=some (ZFS l):=by
 simp only[Zgc];have bY:∀(i:Nat)(K:Int->Option Bool),i<l.length->∀fu (j:Nat),j<=i->i-j<fu->Zdi l (i:Int) K fu (j:Int)=bif((l.take i).drop j).all (fun y=>decide (cmpE y.fEnd (l.getD i Zac.d).fEnd<0))then K (Zan (i:Int) 1)else some false:=by
  intro i K hi fu;induction fu with
  |zero=>intro j _ h;omega
  |succ fu ih=>
   intro j o g;simp only[Zdi,Zai,Zsj,Option.bind_some];by_cases hlt:j<i
   .rw[if_pos (by omega),Zar ⟨by omega,by omega⟩,Zar ⟨by omega,by omega⟩];simp only[Int.toNat_natCast];have hjt:j<(l.take i).length:=by rw[List.length_take];omega
    have hgt:(l.take i).getD j Zac.d=l.getD j Zac.d:=by
     simp only[List.getD_eq_getElem?_getD,List.getElem?_take,if_pos hlt]
    rw[ZeQ (l.take i) Zac.d j hjt,hgt];simp only[List.all_cons];by_cases b:cmpE (l.getD j Zac.d).fEnd (l.getD i Zac.d).fEnd>=0
    .rw[if_pos b,decide_eq_false (by omega)];rfl
    .rw[if_neg b,decide_eq_true (by omega),add1 (show j<l.length by omega) h,ih (j+1) (by omega) (by omega)];rfl
   .have e:j=i:=by omega
    subst e;rw[if_neg (by omega),List.drop_eq_nil_of_le (by rw[List.length_take];omega)];rfl
 have key:∀fu (i:Nat),i<=l.length->l.length-i<fu->Zco l fu (i:Int)=some (Zzt (l.take i) (l.drop i)):=by
  intro fu;induction fu with
  |zero=>intro i _ h;omega
  |succ fu ih=>
   intro i hi g;simp only[Zco,Zai];by_cases hlt:i<l.length
   .rw[if_pos (by omega),Zar ⟨by omega,by omega⟩,Zwx _ (aC _ (by rw[Int.toNat_natCast];exact ZeH l _ i hlt))];simp only[Int.toNat_natCast,Option.bind_some];rw[ZeQ l Zac.d i hlt];simp only[Zzt];cases Zzu (l.getD i Zac.d)
    .rfl
    .simp only[Bool.not_true,cond_false,Bool.true_and];have hin:=bY i (Zco l fu) hlt (((i:Int)-(0:Int)).toNat+2) 0 (by omega) (by omega);rw[show ((0:Nat):Int)=0 from rfl,List.drop_zero]at hin;rw[hin];have hih:=ih (i+1) (by omega) (by omega);rw[List.take_succ_eq_append_getElem hlt,<-ZbT l Zac.d i hlt]at hih;cases(l.take i).all (fun y=>decide (cmpE y.fEnd (l.getD i Zac.d).fEnd<0))
     .rfl
     .rw[cond_true,add1 hlt h,hih];rfl
   .rw[if_neg (by omega),List.drop_eq_nil_of_le (by omega)];rfl
 have:=key ((((l.length:Nat):Int)-(0:Int)).toNat+2) 0 (by omega) (by omega);rw[show ((0:Nat):Int)=0 from rfl]at this;rw[this];congr 1;exact Zzs l [] .nil
theorem Zwa(l:List Zal)(e:Zal)(hl:l.length<=maxLen):ZcI l e=some (l.contains e):=by
 simp only[ZcI,Zee];have:=Zto l Zal.d (fun x=>decide (e=x)) hl (fun fu i=>ZbD l fu (l.length:Int) i e) (fun i=>i) (fun fu i hi=>by
   simp only[ZbD,Zai];rw[if_pos (by omega),Zar ⟨by omega,by omega⟩];simp) (fun fu=>by
   simp only[ZbD,Zai];rw[if_neg (by omega)]) ((((l.length:Nat):Int)-(0:Int)).toNat+2) 0 (by omega) (by omega)
 simp only[Int.natCast_zero,List.drop_zero]at this;rw[this];simp only[Option.bind_some,Option.some.injEq];rw[Bool.eq_iff_iff,decide_eq_true_eq,List.contains_iff_mem];have g:=ZqW (fun x=>decide (e=x)) l 0;constructor
 .intro h;obtain⟨k,b,_,⟨x,j,o⟩,_⟩:=Zsx _ l 0 h;rw[of_decide_eq_true o];exact List.mem_of_getElem? j
 .intro h;apply Int.not_lt.1;intro b;have:=g.1 b e h;simp at this
def fitI(n:Int):Int:=if n<0 then 0 else if n>1099511627776 then 1099511627776 else n
theorem ZFK(n:Int):Zqu n=some (fitI n):=by
 unfold Zqu fitI;congr 1
 repeat' split
 all_goals omega
theorem ZGc(n:Int):Zhb n=some (fitI n):=by
 unfold Zhb fitI;simp only[Zai]
 repeat' split
 all_goals first|rfl|omega
def ZhO(l:List Zaa)(e:Zal):Int:=ixOf (fun x=>decide (x.fEnd=e)) l 0
theorem Ztg(l:List Zaa)(e:Zal)(hl:l.length<=maxLen):ZiF l e=some (ZhO l e):=by
 simp only[ZiF,ZcH];have:=Zto l Zaa.d (fun x=>decide (x.fEnd=e)) hl (fun fu i=>Zba l e fu (l.length:Int) i) (fun i=>i) (fun fu i hi=>by
   simp only[Zba,Zly,Zai,Option.bind_some];rw[if_pos (by omega),Zar ⟨by omega,by omega⟩];simp) (fun fu=>by
   simp only[Zba,Zai];rw[if_neg (by omega)]) ((((l.length:Nat):Int)-(0:Int)).toNat+2) 0 (by omega) (by omega)
 simp only[Int.natCast_zero,List.drop_zero]at this;rw[this];rfl
theorem ZuS(l:List Zaa)(e:Zal)(hl:l.length<=maxLen):ZdV l e=some (ZhO l e):=by
 simp only[ZdV];have:=Zto l Zaa.d (fun x=>decide (x.fEnd=e)) hl (fun fu i=>ZcN l fu i e) (fun i=>i) (fun fu i hi=>by
   simp only[ZcN,Zai];rw[if_pos (by omega),Zar ⟨by omega,by omega⟩];simp) (fun fu=>by
   simp only[ZcN,Zai];rw[if_neg (by omega)]) ((((l.length:Nat):Int)-(0:Int)).toNat+2) 0 (by omega) (by omega)
 simp only[Int.natCast_zero,List.drop_zero]at this;rw[this];rfl
theorem ZIO(l:List Zaa)(e:Zal):ZhO l e<(l.length:Int):=by
 have:=ZBI (fun x:Zaa=>decide (x.fEnd=e)) l 0;unfold ZhO;omega
theorem ZIG{α:Type}(p:α->Bool)(d:α)(l:List α)(hl:l.length<=maxLen)(F:Nat->Int->Int->List α->Option (List α))
  (hs:∀fu (k j:Nat) w,w.length=l.length->k<=j->j<w.length->F (fu+1) (k:Int) (j:Int) w=if p (w.getD j d)=true then F fu (k:Int) (Zan (j:Int) 1) w else F fu (Zan (k:Int) 1) (Zan (j:Int) 1) (w.set k (w.getD j d)))
  (he:∀fu (k:Nat) w,w.length=l.length->k<=w.length->F (fu+1) (k:Int) (w.length:Int) w=some (w.take k)) :
  ∀fu (k j:Nat) w,w.length=l.length->k<=j->j<=l.length->l.length-j<fu->w.take k=(l.take j).filter (fun x=>!p x)->w.drop j=l.drop j->F fu (k:Int) (j:Int) w=some (l.filter fun x=>!p x):=by
 intro fu;induction fu with
 |zero=>intro k j w _ _ _ h;omega
 |succ fu ih=>
  intro k j w b lq o t g hd;by_cases h:j<l.length
  .rw[hs fu k j w b lq (by omega),add1 h hl];have hx:w.getD j d=l.getD j d:=by
    have:=congrArg (fun q:List α=>q.getD 0 d) hd;simpa[List.getD_eq_getElem?_getD]using this
   have dG:l.take (j+1)=l.take j++[l.getD j d]:=by
    rw[List.take_succ_eq_append_getElem h,ZbT l d j h]
   have hd1:w.drop (j+1)=l.drop (j+1):=by
    have:=congrArg (List.drop 1) hd;simpa[List.drop_drop,Nat.add_comm]using this
   by_cases hp:p (w.getD j d)=true
   .rw[if_pos hp];refine ih k (j+1) w b (by omega) (by omega) (by omega) ?_ hd1;have lB:[w.getD j d].filter (fun x=>!p x)=[]:=by rw[List.filter_cons_of_neg (by rw[hp];decide)];rfl
    rw[dG,List.filter_append,g,<-hx,lB,List.append_nil]
   .rw[if_neg hp,add1 (n:=l.length) (by omega) hl];refine ih (k+1) (j+1) _ (by simp[b]) (by omega) (by omega) (by omega) ?_ ?_
    .rw[dG,List.filter_append,<-hx];have lB:[w.getD j d].filter (fun x=>!p x)=[w.getD j d]:=by rw[List.filter_cons_of_pos (by simpa using hp)];rfl
     rw[List.take_succ_eq_append_getElem (by simp;omega),List.take_set_of_le (by omega),g,lB];simp
    .rw[List.drop_set_of_lt (by omega)];exact hd1
  .obtain rfl:j=l.length:=by omega
   have e:(l.length:Int)=(w.length:Int):=by rw[b]
   rw[e,he fu k w b (by omega),g,List.take_length]
def ZuN(l:List Zaa)(ends:List Zal):List Zaa:=l.filter fun x=>!ends.contains x.fEnd
theorem ZCo(l:List Zaa)(ends:List Zal)(hl:l.length<=1000000)(o:ends.length<=maxLen):ZbV l ends=some (ZuN l ends):=by
 have hL:l.length<=maxLen:=by unfold maxLen;omega
 have hx:Zca l ends=some (ixOf (fun x=>ends.contains x.fEnd) l 0):=by
  simp only[Zca];have:=Zto l Zaa.d (fun x=>ends.contains x.fEnd) hL (fun fu i=>ZaY l ends fu (l.length:Int) i) (fun i=>i) (fun fu i hi=>by
    simp only[ZaY,Zir,Zwa ends _ o,Zai,Option.bind_some];rw[if_pos (by omega),Zar ⟨by omega,by omega⟩];simp only[Int.toNat_natCast];generalize ends.contains (l.getD i Zaa.d).fEnd=q;cases q<;>rfl) (fun fu=>by
    simp only[ZaY,Zai];rw[if_neg (by omega)]) ((((l.length:Nat):Int)-(0:Int)).toNat+2) 0 (by omega) (by omega)
  simp only[Int.natCast_zero,List.drop_zero]at this;rw[this]
 simp only[ZbV,hx,Option.bind_some];by_cases h:ixOf (fun x:Zaa=>ends.contains x.fEnd) l 0<0
 .have t:=(ZqW _ l 0).1 h;have e:(ixOf (fun x:Zaa=>ends.contains x.fEnd) l 0 == -1)=true:=by
   have:=ZKn (fun x:Zaa=>ends.contains x.fEnd) l 0;rw[beq_iff_eq];omega
  rw[e,cond_true];congr 1;unfold ZuN;rw[List.filter_eq_self.2];intro x hx;rw[t x hx];rfl
 .obtain⟨k,g,u,⟨x,p,v⟩,A⟩:=Zsx (fun x:Zaa=>ends.contains x.fEnd) l 0 (by omega);have e:(ixOf (fun x:Zaa=>ends.contains x.fEnd) l 0 == -1)=false:=by
   rw[beq_eq_false_iff_ne];omega
  rw[e,cond_false,u,Nat.zero_add,add1 g hL];refine ZIG (fun x:Zaa=>ends.contains x.fEnd) Zaa.d l hL (fun fu a b w=>ZaQ ends fu a b w) ?_ ?_ _ k (k+1) l rfl (by omega) (by omega) (by omega) ?_ rfl
  .intro fu a b w B lA hb;simp only[ZaQ,Zir,Zwa ends _ o,Zai,Option.bind_some];rw[if_pos (by omega),Zar ⟨by omega,by omega⟩];simp only[Int.toNat_natCast];cases H:ends.contains (w.getD b Zaa.d).fEnd
   .simp only[Bool.not_false,cond_true];rw[Zar ⟨by omega,by omega⟩,if_neg (by simp)]
   .simp only[Bool.not_true,cond_false];rw[if_pos trivial]
  .intro fu a w B ha;simp only[ZaQ,Zai];rw[if_neg (by omega),Zar ⟨by omega,by omega,by omega⟩];simp only[Int.toNat_natCast];rw[Zar (by omega),Zar ⟨by omega,by omega,by omega⟩,Zar (by rw[ZAD _ _ _ _ (by omega)];exact ha)];congr 1;simp only[Zla,List.append_assoc];rw[List.take_append_of_le_length (by simp;omega),List.take_take,Nat.min_self]
  .rw[List.take_succ_eq_append_getElem g,List.filter_append];have D:(l.take k).filter (fun x=>!ends.contains x.fEnd)=l.take k:=by
    rw[List.filter_eq_self];intro y E;obtain⟨j,F,rfl⟩:=List.getElem_of_mem E;have kT:j<k:=by simp at F;omega
    obtain⟨z,hz1,cM⟩:=A j kT;have:(l.take k)[j]=z:=by
     rw[List.getElem_take];rw[List.getElem?_eq_getElem (by omega)]at hz1;exact Option.some.inj hz1
    rw[this,cM];rfl
   have G:[l[k]].filter (fun x=>!ends.contains x.fEnd)=[]:=by
    rw[List.getElem?_eq_getElem g]at p;rw[Option.some.inj p];rw[List.filter_cons_of_neg (by rw[v];decide)];rfl
   rw[D,G,List.append_nil]
theorem ZEr(l:List Zaa)(ends:List Zal)(hl:l.length<=1000000)(b:ends.length<=maxLen):Zkh l ends=some (ZuN l ends):=by
 unfold Zkh Zbi;rw[Zar ⟨by omega,by unfold maxLen;omega⟩];simp only[Option.bind_some,ZCo l ends hl b]
theorem ZFT(l:List Zaa)(ends:List Zal):(ZuN l ends).length<=l.length:=List.length_filter_le _ _
def wid(a:Zaf):Nat:=if a.fV6 then 128 else 32
def num(a:Zaf):Nat:=if a.fV6 then 2 ^ 64*a.fHi.toNat+a.fLo.toNat else a.fLo.toNat
def bitN(a:Zaf)(i:Nat):Bool:=(num a).testBit (wid a-1-i)
structure Fits (a:Zaf):Prop where
 hi0:0<=a.fHi
 hi1:a.fHi<=18446744073709551615
 lo0:0<=a.fLo
 lo1:a.fLo<=18446744073709551615
 v4:a.fV6=false->a.fHi=0/\a.fLo<4294967296
theorem ZpE{a:Zaf}(h:a.ok)(b:Zet a=true):Fits a:=by
 have d:=ZnR h.2.1;have g:=ZnR h.2.2.1;refine⟨d.1,d.2,g.1,g.2,fun j=>?_⟩;unfold Zet at b;rw[j]at b;simpa using b
theorem Fits.ok{a:Zaf}(h:Fits a):a.ok:=by
 refine⟨trivial,?_,?_,trivial⟩
 .have:=h.hi0;have:=h.hi1;simp only[okI,Lit.wf,IntKind.min,IntKind.max,IntKind.bits,IntKind.signed];simp;omega
 .have:=h.lo0;have:=h.lo1;simp only[okI,Lit.wf,IntKind.min,IntKind.max,IntKind.bits,IntKind.signed];simp;omega
theorem ZJw{a:Zaf}(h:Fits a):num a<2 ^ wid a:=by
 have:=h.hi0;have:=h.hi1;have:=h.lo0;have:=h.lo1;unfold num wid;cases b:a.fV6
 .have:=h.v4 b;simp only[Bool.false_eq_true,if_false];omega
 .simp only[if_true];omega
theorem Ztc{a b:Zaf}(ha:Fits a)(hb:Fits b)(d:a.fV6=b.fV6)(h:∀i,i<wid a->bitN a i=bitN b i):a=b:=by
 have g:num a=num b:=by
  apply Nat.eq_of_testBit_eq;intro j;have o:wid a=wid b:=by unfold wid;rw[d]
  by_cases p:j<wid a
  .have:=h (wid a-1-j) (by omega);unfold bitN at this;rw[<-o]at this;rw[show wid a-1-(wid a-1-j)=j by omega]at this;exact this
  .rw[Nat.testBit_lt_two_pow (Nat.lt_of_lt_of_le (ZJw ha) (Nat.pow_le_pow_right (by omega) (by omega))),Nat.testBit_lt_two_pow (Nat.lt_of_lt_of_le (ZJw hb) (Nat.pow_le_pow_right (by omega) (by omega)))]
 have:=ha.hi0;have:=ha.hi1;have:=ha.lo0;have:=ha.lo1;have:=hb.hi0;have:=hb.hi1;have:=hb.lo0;have:=hb.lo1;obtain⟨v,hi,lo⟩:=a;obtain⟨v',cH,kq⟩:=b;simp only at d;subst d;simp only[num]at g;simp only[Zaf.mk.injEq,true_and];cases v
 .have:=ha.v4 rfl;have:=hb.v4 rfl;simp only[Bool.false_eq_true,if_false]at *
  omega
 .simp only[if_true]at *
  omega
theorem ZyU(n k T:Nat)(g:k<=T)(h:n<2 ^ T):n &&& (2 ^ T-2 ^ k)=n-n % 2 ^ k:=by
 have b:n-n % 2 ^ k=2 ^ k*(n / 2 ^ k):=by have:=Nat.div_add_mod n (2 ^ k);omega
 rw[b];apply Nat.eq_of_testBit_eq;intro i;have d:2 ^ T-2 ^ k=2 ^ k*(2 ^ (T-k)-1):=by
  rw[Nat.mul_sub,<-Nat.pow_add,Nat.mul_one];congr 2;omega
 rw[Nat.testBit_and,d,Nat.testBit_two_pow_mul,Nat.testBit_two_pow_mul,Nat.testBit_two_pow_sub_one,Nat.testBit_div_two_pow];by_cases hi:k<=i
 .by_cases j:i<T
  .simp[hi,show i-k<T-k by omega,show i-k+k=i by omega]
  .have:n.testBit i=false:=Nat.testBit_lt_two_pow (Nat.lt_of_lt_of_le h (Nat.pow_le_pow_right (by omega) (by omega)));simp[hi,this,show i-k+k=i by omega]
 .simp[hi]
theorem ZCp(n k j:Nat):(n-n % 2 ^ k).testBit j=(decide (k<=j)&&n.testBit j):=by
 have b:n-n % 2 ^ k=2 ^ k*(n / 2 ^ k):=by have:=Nat.div_add_mod n (2 ^ k);omega
 rw[b,Nat.testBit_two_pow_mul,Nat.testBit_div_two_pow];by_cases h:k<=j
 .simp[h,show j-k+k=j by omega]
 .simp[h]
theorem Zrc(a b:Nat)(ha:a<2 ^ 64)(hb:b<2 ^ 64):IntKind.u64.wrap (((BitVec.ofInt (IntKind.bits .u64) (a:Int)) &&& (BitVec.ofInt (IntKind.bits .u64) (b:Int))).toNat:Int)=((a &&& b:Nat):Int):=by
 rw[ZCz a b ha hb];have:a &&& b<2 ^ 64:=Nat.and_lt_two_pow _ hb;exact Ziv (by omega) (by omega)
theorem ZKO:∀n:Fin 65,Zfy ((n.val:Nat):Int)=some (((2 ^ 64-2 ^ (64-n.val):Nat)):Int):=by decide +kernel
theorem Zzh(n:Nat)(h:n<=64):Zfy ((n:Nat):Int)=some (((2 ^ 64-2 ^ (64-n):Nat)):Int):=ZKO ⟨n,by omega⟩
theorem Zzi(n:Int):Zfy n=Zfy (if(64:Int)<(if(0:Int)>n then(0:Int)else n)then(64:Int)else(if(0:Int)>n then(0:Int)else n)):=by
 unfold Zfy;have e:∀m:Int,0<=m->m<=64->(if(64:Int)<(if(0:Int)>m then(0:Int)else m)then(64:Int)else(if(0:Int)>m then(0:Int)else m))=m:=fun m b d=>by
  repeat' split
  all_goals omega
 rw[e (if(64:Int)<(if(0:Int)>n then(0:Int)else n)then(64:Int)else(if(0:Int)>n then(0:Int)else n)) (by repeat' split<;>omega) (by repeat' split<;>omega)]
theorem ZJM(n:Int)(h:n<=0):Zfy n=some 0:=by
 rw[Zzi,show (if(64:Int)<(if(0:Int)>n then(0:Int)else n)then(64:Int)else(if(0:Int)>n then(0:Int)else n))=((0:Nat):Int)by repeat' split<;>omega,Zzh 0 (by omega)]
 rfl
theorem ZHY(n:Int)(h:64<=n):Zfy n=some 18446744073709551615:=by
 rw[Zzi,show (if(64:Int)<(if(0:Int)>n then(0:Int)else n)then(64:Int)else(if(0:Int)>n then(0:Int)else n))=((64:Nat):Int)by repeat' split<;>omega,Zzh 64 (by omega)]
 rfl
def Zka(a:Zaf)(n:Nat):Zaf:=if a.fV6 then(if n<=64 then⟨true,((a.fHi.toNat-a.fHi.toNat % 2 ^ (64-n):Nat):Int),0⟩else⟨true,a.fHi,((a.fLo.toNat-a.fLo.toNat % 2 ^ (128-n):Nat):Int)⟩)else⟨false,a.fHi,((a.fLo.toNat-a.fLo.toNat % 2 ^ (32-n):Nat):Int)⟩
theorem ZGv{a:Zaf}(h:a.ok)(g:Zet a=true)(n:Nat)(d:n<=wid a):Zig a (n:Int)=some (Zka a n):=by
 have b:=ZpE h g;have fJ:=Zlt a h;have u:=b.hi0;have y:=b.hi1;have A:=b.lo0;have B:=b.lo1;obtain⟨v,hi,lo⟩:=a;obtain⟨p,hp⟩:=ZmE b.hi0;obtain⟨q,j⟩:=ZmE b.lo0;simp only at hp j u y A B;subst hp j;cases v with
 |false=>
  have D:=b.v4 rfl;simp only at D;have d:n<=32:=d;have dt:(if(32:Int)<(if(0:Int)>(n:Int)then(0:Int)else(n:Int))then(32:Int)else(if(0:Int)>(n:Int)then(0:Int)else(n:Int)))=(n:Int):=by repeat' split<;>omega
  simp only[Zig,fJ,g,Option.bind_some,Bool.not_true,cond_false,Zeb,Bool.not_false,cond_true,dt,Zzh n (by omega)];have hp:(2:Nat) ^ (64-n)=2 ^ 32 * 2 ^ (32-n):=by rw[<-Nat.pow_add];congr 1;omega
  have bg:(2:Nat) ^ (32-n)<=2 ^ 32:=Nat.pow_le_pow_right (by omega) (by omega);have hp0:0<(2:Nat) ^ (32-n):=Nat.pow_pos (by omega);have hd:(2 ^ 64-2 ^ (64-n):Nat) / 4294967296=2 ^ 32-2 ^ (32-n):=by
   rw[hp];generalize (2:Nat) ^ (32-n)=z at *
   omega
  have E:Int.fdiv ((2 ^ 64-2 ^ (64-n):Nat):Int) (2 ^ (min (32:Int).toNat (IntKind.bits .u64)))=((2 ^ 32-2 ^ (32-n):Nat):Int):=by
   rw[show (2:Int) ^ (min (32:Int).toNat (IntKind.bits .u64))=4294967296 from rfl,Int.fdiv_eq_ediv_of_nonneg _ (by omega),<-hd];rfl
  rw[E,Zrc q _ (by omega) (by generalize (2:Nat) ^ (32-n)=z at *;omega),ZyU q (32-n) 32 (by omega) (by omega)];simp[Zka]
 |true=>
  have d:n<=128:=d;have dt:(if(128:Int)<(if(0:Int)>(n:Int)then(0:Int)else(n:Int))then(128:Int)else(if(0:Int)>(n:Int)then(0:Int)else(n:Int)))=(n:Int):=by repeat' split<;>omega
  simp only[Zig,fJ,g,Option.bind_some,Bool.not_true,cond_false,Zeb,cond_true,dt,ZkR];have hs:Zbd (n:Int) 64=(n:Int)-64:=ZeA (by omega) (by omega);rw[hs];by_cases h64:n<=64
  .rw[Zzh n h64,ZJM _ (by omega)];simp only[Option.bind_some];rw[Zrc p _ (by omega) (by have:=Nat.pow_pos (a:=2) (n:=64-n) (by omega);omega),ZyU p (64-n) 64 (by omega) (by omega)];have:=Zrc q 0 (by omega) (by omega);rw[Nat.and_zero]at this;rw[show (0:Int)=((0:Nat):Int)from rfl,this];simp[Zka,h64]
  .rw[ZHY _ (by omega),show (n:Int)-64=((n-64:Nat):Int)by omega,Zzh (n-64) (by omega)];simp only[Option.bind_some];have o:=Zrc p 18446744073709551615 (by omega) (by omega);have t:=ZyU p 0 64 (by omega) (by omega);rw[show (2:Nat) ^ 64-2 ^ 0=18446744073709551615 from rfl,Nat.pow_zero,Nat.mod_one,Nat.sub_zero]at t;rw[t]at o;rw[show (18446744073709551615:Int)=((18446744073709551615:Nat):Int)from rfl,o];rw[show 64-(n-64)=128-n by omega,Zrc q _ (by omega) (by have:=Nat.pow_pos (a:=2) (n:=128-n) (by omega);omega),ZyU q (128-n) 64 (by omega) (by omega)];simp[Zka,h64]
theorem ZiZ(a:Zaf)(n:Nat):(Zka a n).fV6=a.fV6:=by
 unfold Zka;cases h:a.fV6
 .rfl
 .simp only[if_true];split<;>rfl
theorem Zkf{a:Zaf}(h:Fits a)(n:Nat):Fits (Zka a n):=by
 have:=h.hi0;have:=h.hi1;have:=h.lo0;have:=h.lo1;have l:∀x y:Nat,x-x % y<=x:=fun x y=>Nat.sub_le _ _;have l1:=l a.fHi.toNat (2 ^ (64-n));have l2:=l a.fLo.toNat (2 ^ (128-n));have l3:=l a.fLo.toNat (2 ^ (32-n));unfold Zka;cases b:a.fV6
 .have:=h.v4 b;simp only[Bool.false_eq_true,if_false];exact⟨by simp only;omega,by simp only;omega,by simp only;omega,by simp only;omega,fun _=>⟨this.1,by simp only;omega⟩⟩
 .simp only[if_true];split
  .exact⟨by simp only;omega,by simp only;omega,by simp only;omega,by simp only;omega,fun h=>by simp at h⟩
  .exact⟨by simp only;omega,by simp only;omega,by simp only;omega,by simp only;omega,fun h=>by simp at h⟩
theorem Zpd{hi lo j:Nat}(hl:lo<2 ^ 64):(2 ^ 64*hi+lo).testBit j=if j<64 then lo.testBit j else hi.testBit (j-64):=Nat.testBit_two_pow_mul_add hi hl j
theorem ZlF{a:Zaf}(h:Fits a)(n i:Nat)(g:n<=wid a)(hi:i<wid a):bitN (Zka a n) i=(decide (i<n)&&bitN a i):=by
 have o:=h.hi0;have p:=h.hi1;have t:=h.lo0;have u:=h.lo1;unfold bitN;have j:wid (Zka a n)=wid a:=by unfold wid;rw[ZiZ]
 rw[j];unfold wid at g hi ⊢;unfold num Zka;cases d:a.fV6
 .simp only[d,Bool.false_eq_true,if_false]at *
  rw[Int.toNat_natCast,ZCp];congr 1;rw[decide_eq_decide];omega
 .simp only[d,if_true]at *
  have jM:a.fLo.toNat<2 ^ 64:=by omega
  by_cases h64:n<=64
  .simp only[h64,if_true,Int.toNat_natCast];rw[Zpd (by simp),Zpd jM];by_cases b:128-1-i<64
   .simp only[b,if_true];rw[show (decide (i<n))=false by rw[decide_eq_false_iff_not];omega];simp
   .simp only[b,if_false];rw[ZCp];congr 1;rw[decide_eq_decide];omega
  .simp only[h64,if_false,if_true,Int.toNat_natCast];rw[Zpd (Nat.lt_of_le_of_lt (Nat.sub_le _ _) jM),Zpd jM];by_cases b:128-1-i<64
   .simp only[b,if_true];rw[ZCp];congr 1;rw[decide_eq_decide];omega
   .simp only[b,if_false];rw[show (decide (i<n))=true by rw[decide_eq_true_eq];omega];simp
theorem ZEL{a:Zaf}(h:Fits a)(hr:Zet a=true)(n:Nat):Zet (Zka a n)=true:=by
 have d:=h.hi0;have g:=h.hi1;have j:=h.lo0;have o:=h.lo1;unfold Zka;cases b:a.fV6
 .have:=h.v4 b;have l3:a.fLo.toNat-a.fLo.toNat % 2 ^ (32-n)<=a.fLo.toNat:=Nat.sub_le _ _;simp[Zet,this.1];omega
 .simp only[if_true];split
  .simp[Zet]
  .rename_i h64;unfold Zet at hr ⊢;rw[b]at hr;simp only[if_true,Bool.not_eq_true',Bool.and_eq_false_iff,decide_eq_false_iff_not]at hr ⊢;rcases hr with hr|hr
   .exact .inl hr
   .refine .inr fun e=>hr ?_;have e':(a.fLo.toNat-a.fLo.toNat % 2 ^ (128-n)) / 4294967296=65535:=by omega
    have hx:a.fLo.toNat-a.fLo.toNat % 2 ^ (128-n)=2 ^ (128-n)*(a.fLo.toNat / 2 ^ (128-n)):=by have:=Nat.div_add_mod a.fLo.toNat (2 ^ (128-n));omega
    rw[hx]at e';by_cases p:128-n<=32
    .have hp:(4294967296:Nat)=2 ^ (128-n) * 2 ^ (32-(128-n)):=by
      rw[<-Nat.pow_add,show 128-n+(32-(128-n))=32 by omega]
     rw[hp,Nat.mul_div_mul_left _ _ (Nat.pow_pos (by omega)),Nat.div_div_eq_div_mul,<-hp]at e';omega
    .have hp:(2:Nat) ^ (128-n)=4294967296*(2 * 2 ^ (128-n-33)):=by
      rw[show (4294967296:Nat)*(2 * 2 ^ (128-n-33))=2 ^ 33 * 2 ^ (128-n-33)by omega,<-Nat.pow_add];congr 1;omega
     rw[hp,Nat.mul_assoc,Nat.mul_div_cancel_left _ (by omega),Nat.mul_assoc]at e';omega
def Zii(p:Zap):Bool:=Zet p.fAddr&&decide (0<=p.fBits)&&decide (p.fBits<=(wid p.fAddr:Int))&&decide (Zka p.fAddr p.fBits.toNat=p.fAddr)
structure RN (p:Zap):Prop where
 ok:p.fAddr.ok
 right:Zet p.fAddr=true
 nn:0<=p.fBits
 le:p.fBits<=(wid p.fAddr:Int)
 cut:Zka p.fAddr p.fBits.toNat=p.fAddr
theorem RN.fits{p:Zap}(h:RN p):Fits p.fAddr:=ZpE h.ok h.right
theorem ZwW{p:Zap}(h:p.fAddr.ok):Zii p=true↔RN p:=by
 unfold Zii;simp only[Bool.and_eq_true,decide_eq_true_eq];exact⟨fun⟨⟨⟨a,b⟩,c⟩,d⟩=>⟨h,a,b,c,d⟩,fun⟨_,a,b,c,d⟩=>⟨⟨⟨a,b⟩,c⟩,d⟩⟩
theorem ZCy(a:Zaf):Zeb a=some (wid a:Int):=by
 unfold Zeb wid;cases a.fV6<;>rfl
theorem ZBD(a:Zaf)(h:a.ok)(n:Int):ZfT a n=some (if Zet a=true/\0<=n/\n<=(wid a:Int)then(⟨Zka a n.toNat,n⟩,true)else(⟨⟨false,0,0⟩,0⟩,false)):=by
 simp only[ZfT,Zlt a h,ZCy,Option.bind_some,Zai];cases d:Zet a
 .simp
 .simp only[Bool.not_true,cond_false,true_and];by_cases h0:n<0
  .rw[if_pos h0,if_neg (by omega)]
  .rw[if_neg h0];by_cases b:n>(wid a:Int)
   .rw[if_pos b,if_neg (by omega)]
   .rw[if_neg b,if_pos (by omega)];have:=ZGv h d n.toNat (by omega);rw[Int.toNat_of_nonneg (by omega)]at this;rw[this];rfl
theorem ZoT(p:Zap)(h:p.fAddr.ok):ZhR p=some (Zii p):=by
 simp only[ZhR,ZBD _ h,Option.bind_some];unfold Zii;split
 .rename_i b;simp only[cond_true,b.1,b.2.1,b.2.2,decide_true,Bool.true_and,Option.some.injEq];rw[decide_eq_decide];obtain⟨x,n⟩:=p;simp
 .rename_i b;simp only[cond_false,Option.some.injEq];rw[eq_comm,Bool.eq_false_iff];intro d;simp only[Bool.and_eq_true,decide_eq_true_eq]at d;exact b ⟨d.1.1.1,d.1.1.2,d.1.2⟩
def bs(p:Zap):List Bool:=(List.range p.fBits.toNat).map (bitN p.fAddr)
theorem ZJF(p:Zap):(bs p).length=p.fBits.toNat:=by simp[bs]
theorem ZJG(p:Zap)(i:Nat)(h:i<p.fBits.toNat):(bs p)[i]?=some (bitN p.fAddr i):=by simp[bs,h]
theorem ZFQ{p:Zap}(h:RN p)(i:Nat)(hi:i<wid p.fAddr)(d:p.fBits.toNat<=i):bitN p.fAddr i=false:=by
 have b:=ZlF h.fits p.fBits.toNat i (by have:=h.le;omega) hi;rw[h.cut]at b;rw[b];rw[show decide (i<p.fBits.toNat)=false by rw[decide_eq_false_iff_not];omega];rfl
theorem ZKX{p q:Zap}(hp:RN p)(b:RN q)(d:p.fAddr.fV6=q.fAddr.fV6)(hb:bs p=bs q):p=q:=by
 have o:wid p.fAddr=wid q.fAddr:=by unfold wid;rw[d]
 have g:p.fBits=q.fBits:=by
  have:=congrArg List.length hb;rw[ZJF,ZJF]at this;have:=hp.nn;have:=b.nn;omega
 have ha:p.fAddr=q.fAddr:=by
  refine Ztc hp.fits b.fits d fun i hi=>?_;by_cases h:i<p.fBits.toNat
  .have j:=ZJG p i h;rw[hb,ZJG q i (by omega)]at j;exact(Option.some.inj j).symm
  .rw[ZFQ hp i hi (by omega),ZFQ b i (by omega) (by omega)]
 obtain⟨x,n⟩:=p;obtain⟨y,m⟩:=q;simp only at g ha;rw[g,ha]
theorem ZJV{a:Zaf}(h:a.ok)(d:Zet a=true)(n:Nat)(g:n<=wid a):RN ⟨Zka a n,(n:Int)⟩/\bs ⟨Zka a n,(n:Int)⟩=(List.range n).map (bitN a):=by
 have b:=ZpE h d;have j:wid (Zka a n)=wid a:=by unfold wid;rw[ZiZ]
 refine⟨⟨(Zkf b n).ok,ZEL b d n,by simp only;omega,by simp only;omega,?_⟩,?_⟩
 .simp only[Int.toNat_natCast];refine Ztc (Zkf (Zkf b n) n) (Zkf b n) (ZiZ _ _) fun i hi=>?_;have hi:i<wid a:=by unfold wid at hi ⊢;rwa [ZiZ,ZiZ]at hi
  rw[ZlF (Zkf b n) n i (by omega) (by omega),ZlF b n i g hi];cases decide (i<n)<;>simp
 .unfold bs;simp only[Int.toNat_natCast];apply List.map_congr_left;intro i hi;have hi:i<n:=by simpa using hi
  rw[ZlF b n i g (by omega),show decide (i<n)=true by rw[decide_eq_true_eq];exact hi];rfl
theorem ZLk(p:Zap)(a:Zaf)(hp:RN p)(ha:a.ok):ZoP p a=some (Zet a&&decide (p.fAddr.fV6=a.fV6)&&decide (∀i,i<p.fBits.toNat->bitN a i=bitN p.fAddr i)):=by
 have hrc:=(ZwW hp.ok).2 hp;simp only[ZoP,ZoT p hp.ok,hrc,Zlt a ha,Option.bind_some,cond_true];cases g:Zet a
 .rfl
 .simp only[cond_true,Bool.true_and];by_cases b:p.fAddr.fV6=a.fV6
  .have t:wid p.fAddr=wid a:=by unfold wid;rw[b]
   have j:=ZGv ha g p.fBits.toNat (by have:=hp.le;omega);rw[Int.toNat_of_nonneg hp.nn]at j;have d:=ZpE ha g;rw[show (p.fAddr.fV6==a.fV6)=true by simp[b],cond_true,j,decide_eq_true b];simp only[Option.bind_some,Bool.true_and,Option.some.injEq];rw[decide_eq_decide];have hle:p.fBits.toNat<=wid a:=by have:=hp.le;omega
   constructor
   .intro e i hi;have o:=ZlF d p.fBits.toNat i hle (by omega);rw[e,decide_eq_true hi]at o;simpa using o.symm
   .intro h;refine Ztc (Zkf d _) hp.fits (by rw[ZiZ];exact b.symm) fun i hi=>?_;have hi:i<wid a:=by unfold wid at hi ⊢;rwa [ZiZ]at hi
    rw[ZlF d p.fBits.toNat i hle hi];by_cases hb:i<p.fBits.toNat
    .rw[decide_eq_true hb,h i hb];rfl
    .rw[decide_eq_false hb,ZFQ hp i (by omega) (by omega)];rfl
  .rw[show (p.fAddr.fV6==a.fV6)=false by simp[b],cond_false,decide_eq_false b];rfl
theorem ZtH(n k:Nat)(h:k<64)(b:n<2 ^ 64):IntKind.i64.wrap (IntKind.u64.wrap (((BitVec.ofInt (IntKind.bits .u64) (Int.fdiv (n:Int) (2 ^ (min ((k:Nat):Int).toNat (IntKind.bits .u64))))) &&& (BitVec.ofInt (IntKind.bits .u64) (1:Int))).toNat:Int))=if n.testBit k then 1 else 0:=by
 rw[Int.toNat_natCast,show min k (IntKind.bits .u64)=k from Nat.min_eq_left (by simp[IntKind.bits];omega)];have e:Int.fdiv (n:Int) (2 ^ k)=((n / 2 ^ k:Nat):Int):=by
  rw[Int.fdiv_eq_ediv_of_nonneg _ (by have:(0:Int)<2 ^ k:=Int.pow_pos (by omega);omega)];simp
 have d:n / 2 ^ k<2 ^ 64:=Nat.lt_of_le_of_lt (Nat.div_le_self _ _) b;rw[e,show (1:Int)=((1:Nat):Int)from rfl,Zrc _ 1 d (by omega),Nat.and_one_is_mod,Nat.testBit_eq_decide_div_mod_eq];have j:n / 2 ^ k % 2<2:=Nat.mod_lt _ (by omega);have g:IntKind.i64.wrap ((n / 2 ^ k % 2:Nat):Int)=((n / 2 ^ k % 2:Nat):Int):=by
  simp only[IntKind.wrap,IntKind.bits,IntKind.signed];simp;omega
 rw[g];simp only[decide_eq_true_eq];split<;>omega
theorem ZHH{a:Zaf}(h:Fits a)(i:Nat)(hi:i<wid a):ZhK a (i:Int)=some (if bitN a i then 1 else 0):=by
 have d:=h.hi0;have g:=h.hi1;have j:=h.lo0;have o:=h.lo1;obtain⟨v,cH,lo⟩:=a;obtain⟨p,hp⟩:=ZmE h.hi0;obtain⟨q,b⟩:=ZmE h.lo0;simp only at hp b d g j o;subst hp b;cases v with
 |false=>
  have hi:i<32:=hi;have t:=h.v4 rfl;simp only at t;have e:Zbd (Zbd (32:Int) 1) (i:Int)=((31-i:Nat):Int):=by rw[show Zbd (32:Int) 1=31 from rfl,ZeA (by omega) (by omega)];omega
  simp only[ZhK,Zeb,cond_false,Option.bind_some,Zai,e];rw[if_neg (by omega),if_neg (by omega),if_neg (by omega),Zar (by omega),ZtH q _ (by omega) (by omega)];rfl
 |true=>
  have hi:i<128:=hi;have e:Zbd (Zbd (128:Int) 1) (i:Int)=((127-i:Nat):Int):=by rw[show Zbd (128:Int) 1=127 from rfl,ZeA (by omega) (by omega)];omega
  simp only[ZhK,Zeb,cond_true,Option.bind_some,Zai,e];rw[if_neg (by omega),if_neg (by omega)];have hb:bitN ⟨true,(p:Int),(q:Int)⟩ i=if 127-i<64 then q.testBit (127-i)else p.testBit (127-i-64):=by
   unfold bitN num wid;simp only[if_true,Int.toNat_natCast];rw[Zpd (by omega)]
  rw[hb];by_cases h64:i<64
  .have u:Zbd ((127-i:Nat):Int) 64=((127-i-64:Nat):Int):=by rw[ZeA (by omega) (by omega)];omega
   rw[if_pos (by omega),u,Zar (by omega),ZtH p _ (by omega) (by omega),if_neg (show ¬127-i<64 by omega)]
  .rw[if_neg (by omega),Zar (by omega),ZtH q _ (by omega) (by omega),if_pos (show 127-i<64 by omega)]
theorem ZxI{p:Zap}(h:RN p)(i:Nat)(hi:i<wid p.fAddr):Zip p (i:Int)=some (if bitN p.fAddr i then 1 else 0):=by
 simp only[Zip,ZHH h.fits i hi,Option.bind_some]
def Len(z r:Nat):Prop:=z<2 ^ r/\(0<r->2 ^ (r-1)<=z)
theorem Zvt{z r:Nat}(k:Nat)(g:2 ^ k<=z)(h:Len (z / 2 ^ k) r):Len z (r+k)/\0<r:=by
 have b:0<2 ^ k:=Nat.pow_pos (by omega);have j:1<=z / 2 ^ k:=(Nat.le_div_iff_mul_le b).2 (by omega);have d:0<r:=by
  rcases Nat.eq_zero_or_pos r with e|e
  .subst e;have:=h.1;simp at this;omega
  .exact e
 refine⟨⟨?_,fun _=>?_⟩,d⟩
 .rw[Nat.pow_add];exact(Nat.div_lt_iff_lt_mul b).1 h.1
 .have:=(Nat.le_div_iff_mul_le b).1 (h.2 d);rw[<-Nat.pow_add]at this;rwa [show r+k-1=r-1+k by omega]
set_option maxRecDepth 100000 in
theorem ZLg:∃T:ByteArray,T.size=256/\(∀i:Fin 256,i.val<2 ^ Zli T i.val/\(0<Zli T i.val->2 ^ (Zli T i.val-1)<=i.val)/\Zli T i.val<=8)/\∀v0 v2:Int,ZeU v0 v2 =
  bif(decide (v0>=(256:Int)))then
   need (0<=(IntKind.wrap .u8 (Int.fdiv v0 (2 ^ (min (8:Int).toNat (IntKind.bits .u64)))))/\(IntKind.wrap .u8 (Int.fdiv v0 (2 ^ (min (8:Int).toNat (IntKind.bits .u64)))))<((T.size:Nat):Int)) <|
   some (Zan (Zan v2 (8:Int)) (IntKind.wrap .i64 ((Zli T (IntKind.wrap .u8 (Int.fdiv v0 (2 ^ (min (8:Int).toNat (IntKind.bits .u64))))).toNat:Nat):Int)))
  else
   need (0<=(IntKind.wrap .u8 v0)/\(IntKind.wrap .u8 v0)<((T.size:Nat):Int)) <|
   some (Zan v2 (IntKind.wrap .i64 ((Zli T (IntKind.wrap .u8 v0).toNat:Nat):Int))):=by
 refine⟨_,?_,?_,fun v0 v2=>rfl⟩
 .rfl
 .decide +kernel
theorem ZFx{a:Int}(h:0<=a)(h':a<256):IntKind.u8.wrap a=a:=by
 simp only[IntKind.wrap,IntKind.bits,IntKind.signed];simp;omega
theorem Zzd{a:Int}(h:0<=a)(h':a<256):IntKind.i64.wrap a=a:=by
 simp only[IntKind.wrap,IntKind.bits,IntKind.signed];simp;omega
theorem ZLi(z v:Nat)(p:z<65536)(t:v<=1000):∃r,Len z r/\r<=16/\ZeU (z:Int) (v:Int)=some ((v+r:Nat):Int):=by
 obtain⟨T,j,hi,he⟩:=ZLg;rw[he,Zai,j];by_cases h:256<=z
 .rw[if_pos (by omega)];have e:Int.fdiv (z:Int) (2 ^ (min (8:Int).toNat (IntKind.bits .u64)))=((z / 256:Nat):Int):=by
   rw[show (2:Int) ^ (min (8:Int).toNat (IntKind.bits .u64))=256 from rfl,Int.fdiv_eq_ediv_of_nonneg _ (by omega)];rfl
  obtain⟨b,d,g⟩:=hi ⟨z / 256,by omega⟩;simp only at b d g;rw[e,ZFx (by omega) (by omega),Zar (by omega),Int.toNat_natCast,Zzd (by omega) (by omega)];obtain⟨o,u⟩:=Zvt (z:=z) (r:=Zli T (z / 256)) 8 (by omega) ⟨by rw[show (2:Nat) ^ 8=256 from rfl];exact b,by rw[show (2:Nat) ^ 8=256 from rfl];exact d⟩;refine⟨_,o,by omega,?_⟩;rw[Zcs (a:=(v:Int)) (by omega) (by omega),Zcs (by omega) (by omega)];congr 1;omega
 .rw[if_neg (by omega)];obtain⟨b,d,g⟩:=hi ⟨z,by omega⟩;simp only at b d g;rw[ZFx (by omega) (by omega),Zar (by omega),Int.toNat_natCast,Zzd (by omega) (by omega)];refine⟨_,⟨b,d⟩,by omega,?_⟩;rw[Zcs (by omega) (by omega)];congr 1
theorem ZLh(z v:Nat)(o:z<4294967296)(p:v<=900):∃r,Len z r/\r<=32/\ZeV (z:Int) (v:Int)=some ((v+r:Nat):Int):=by
 simp only[ZeV,Zai];by_cases h:65536<=z
 .rw[if_pos (by omega)];have e:Int.fdiv (z:Int) (2 ^ (min (16:Int).toNat (IntKind.bits .u64)))=((z / 65536:Nat):Int):=by
   rw[show (2:Int) ^ (min (16:Int).toNat (IntKind.bits .u64))=65536 from rfl,Int.fdiv_eq_ediv_of_nonneg _ (by omega)];rfl
  rw[e,show Zan (v:Int) 16=((v+16:Nat):Int)by rw[Zcs (by omega) (by omega)];omega];obtain⟨r,b,g,d⟩:=ZLi (z / 65536) (v+16) (by omega) (by omega);obtain⟨j,_⟩:=Zvt (z:=z) 16 (by omega) (by rw[show (2:Nat) ^ 16=65536 from rfl];exact b);exact⟨r+16,j,by omega,by rw[d];congr 2;omega⟩
 .rw[if_neg (by omega)];obtain⟨r,b,g,d⟩:=ZLi z v (by omega) (by omega);exact⟨r,b,by omega,d⟩
theorem len64(z:Nat)(o:z<2 ^ 64):∃r,Len z r/\r<=64/\ZhF (z:Int)=some ((r:Nat):Int):=by
 simp only[ZhF,Zai];by_cases h:4294967296<=z
 .rw[if_pos (by omega)];have e:Int.fdiv (z:Int) (2 ^ (min (32:Int).toNat (IntKind.bits .u64)))=((z / 4294967296:Nat):Int):=by
   rw[show (2:Int) ^ (min (32:Int).toNat (IntKind.bits .u64))=4294967296 from rfl,Int.fdiv_eq_ediv_of_nonneg _ (by omega)];rfl
  rw[e];obtain⟨r,b,g,d⟩:=ZLh (z / 4294967296) 32 (by omega) (by omega);obtain⟨j,_⟩:=Zvt (z:=z) 32 (by omega) (by rw[show (2:Nat) ^ 32=4294967296 from rfl];exact b);exact⟨r+32,j,by omega,by rw[show (32:Int)=((32:Nat):Int)from rfl,d];congr 2;omega⟩
 .rw[if_neg (by omega)];obtain⟨r,b,g,d⟩:=ZLh z 0 (by omega) (by omega);exact⟨r,b,by omega,by rw[show (0:Int)=((0:Nat):Int)from rfl,d];congr 2;omega⟩
theorem ZFv(a b:Nat)(ha:a<2 ^ 64)(hb:b<2 ^ 64):IntKind.u64.wrap (((BitVec.ofInt (IntKind.bits .u64) (a:Int)) ^^^ (BitVec.ofInt (IntKind.bits .u64) (b:Int))).toNat:Int)=((a ^^^ b:Nat):Int):=by
 have d:∀c:Nat,c<2 ^ 64->(BitVec.ofInt 64 (c:Int)).toNat=c:=fun c g=>by
  rw[BitVec.ofInt_natCast,BitVec.toNat_ofNat];exact Nat.mod_eq_of_lt g
 have h:((BitVec.ofInt (IntKind.bits .u64) (a:Int)) ^^^ (BitVec.ofInt (IntKind.bits .u64) (b:Int))).toNat=a ^^^ b:=by
  show (BitVec.ofInt 64 (a:Int) ^^^ BitVec.ofInt 64 (b:Int)).toNat=a ^^^ b;rw[BitVec.toNat_xor,d a ha,d b hb]
 rw[h];have:a ^^^ b<2 ^ 64:=Nat.xor_lt_two_pow ha hb;exact Ziv (by omega) (by omega)
theorem lead(a b:Nat)(ha:a<2 ^ 64)(hb:b<2 ^ 64):∃k,k<=64/\Zdg ((a ^^^ b:Nat):Int)=some ((k:Nat):Int)/\(∀j,64-k<=j->a.testBit j=b.testBit j)/\(k<64->a.testBit (63-k)≠b.testBit (63-k))/\(k=64↔a ^^^ b=0):=by
 have hx:a ^^^ b<2 ^ 64:=Nat.xor_lt_two_pow ha hb;obtain⟨r,d,t,o⟩:=len64 (a ^^^ b) hx;refine⟨64-r,by omega,?_,fun j u=>?_,fun v=>?_,?_⟩
 .simp only[Zdg,o,Option.bind_some];rw[ZeA (by omega) (by omega)];congr 1;omega
 .have g:(a ^^^ b).testBit j=false:=Nat.testBit_lt_two_pow (Nat.lt_of_lt_of_le d.1 (Nat.pow_le_pow_right (by omega) (by omega)));rw[Nat.testBit_xor]at g
  revert g
  cases a.testBit j<;>cases b.testBit j<;>simp
 .have g:(a ^^^ b).testBit (r-1)=true:=by
   have y:=d.2 (by omega);have z:a ^^^ b<2 ^ (r-1) * 2:=by rw[<-Nat.pow_succ,show (r-1).succ=r by omega];exact d.1
   rw[Nat.testBit_eq_decide_div_mod_eq,decide_eq_true_eq];have p:(a ^^^ b) / 2 ^ (r-1)=1:=by
    have hp:0<2 ^ (r-1):=Nat.pow_pos (by omega);have:=(Nat.le_div_iff_mul_le hp).2 (show 1 * 2 ^ (r-1)<=a ^^^ b by omega);have:=(Nat.div_lt_iff_lt_mul hp).2 (show a ^^^ b<2 * 2 ^ (r-1)by omega);omega
   rw[p]
  rw[show 63-(64-r)=r-1 by omega];rw[Nat.testBit_xor]at g
  revert g
  cases a.testBit (r-1)<;>cases b.testBit (r-1)<;>simp
 .constructor
  .intro e;have:r=0:=by omega
   subst this;have:=d.1;simpa using this
  .intro e;rw[e]at d;rcases Nat.eq_zero_or_pos r with h|h
   .omega
   .have:=d.2 h;have:0<2 ^ (r-1):=Nat.pow_pos (by omega);omega
theorem ZHm{p q:Zap}(hp:RN p)(o:RN q)(z:p.fAddr.fV6=q.fAddr.fV6) :
  ∃k:Nat,Zkv p q=some (k:Int)/\k<=p.fBits.toNat/\k<=q.fBits.toNat/\(∀i,i<k->bitN p.fAddr i=bitN q.fAddr i)/\(k<p.fBits.toNat->k<q.fBits.toNat->bitN p.fAddr k≠bitN q.fAddr k):=by
 have fp:=hp.fits;have fq:=o.fits;have A:=fp.hi0;have F:=fp.hi1;have B:=fp.lo0;have G:=fp.lo1;have b1:=fq.hi0;have b2:=fq.hi1;have b3:=fq.lo0;have b4:=fq.lo1;have n1:=hp.nn;have n2:=o.nn;have l1:=hp.le;have l2:=o.le;have lC:=fp.v4;have lE:=fq.v4;clear hp o fp fq;obtain⟨⟨v,hi,lo⟩,n⟩:=p;obtain⟨⟨v',cH,kq⟩,n'⟩:=q;simp only at z A F B G b1 b2 b3 b4 n1 n2 lC lE;subst z;obtain⟨x,rfl⟩:=ZmE A;obtain⟨y,rfl⟩:=ZmE B;obtain⟨x',rfl⟩:=ZmE b1;obtain⟨y',rfl⟩:=ZmE b3;obtain⟨n,rfl⟩:=ZmE n1;obtain⟨n',rfl⟩:=ZmE n2;have dt:(if(n':Int)<(n:Int)then(n':Int)else(n:Int))=((min n n':Nat):Int):=by split<;>omega
 have lF:∀k:Nat,(if((min n n':Nat):Int)<(k:Int)then((min n n':Nat):Int)else(k:Int))=((min k (min n n'):Nat):Int):=fun k=>by split<;>omega
 obtain⟨g,J,c2,D,H,E⟩:=lead x x' (by omega) (by omega);obtain⟨b,d1,d2,d3,d4,d5⟩:=lead y y' (by omega) (by omega);simp only[Zkv,ZFv x x' (by omega) (by omega),ZFv y y' (by omega) (by omega),c2,d2,Option.bind_some,dt]
 -- what is to be shown of a number
 have cj:∀k:Nat,(∀i,i<k->i<wid ⟨v,x,y⟩->bitN ⟨v,x,y⟩ i=bitN ⟨v,x',y'⟩ i)->(k<wid ⟨v,x,y⟩->bitN ⟨v,x,y⟩ k≠bitN ⟨v,x',y'⟩ k) ->
   (min k (min n n'))<=n/\(min k (min n n'))<=n'/\(∀i,i<min k (min n n')->bitN ⟨v,x,y⟩ i=bitN ⟨v,x',y'⟩ i)/\((min k (min n n'))<n->(min k (min n n'))<n'->bitN ⟨v,x,y⟩ (min k (min n n'))≠bitN ⟨v,x',y'⟩ (min k (min n n'))):=by
  intro k t d;simp only at l1 l2;refine⟨by omega,by omega,fun i hi=>t i (by omega) (by omega),fun L M=>?_⟩;have e:min k (min n n')=k:=by omega
  rw[e];exact d (by omega)
 cases v with
 |false=>
  have O:=(lC rfl).1;have R:=(lE rfl).1;have U:=(lC rfl).2;have W:=(lE rfl).2;have ij:x ^^^ x'=0:=by rw[show x=x' by omega,Nat.xor_self]
  have hk2:32<=b:=by
   rcases Nat.lt_or_ge b 32 with h|h
   .exfalso;apply d4 (by omega);rw[Nat.testBit_lt_two_pow (Nat.lt_of_lt_of_le (show y<2 ^ 32 by omega) (Nat.pow_le_pow_right (by omega) (by omega))),Nat.testBit_lt_two_pow (Nat.lt_of_lt_of_le (show y'<2 ^ 32 by omega) (Nat.pow_le_pow_right (by omega) (by omega)))]
   .exact h
  rw[ij,show (((0:Nat):Int)==0)=true from rfl,cond_true];have u:Zbd (Zan 64 (b:Int)) (Zbd 128 32)=((b-32:Nat):Int):=by
   rw[Zcs (by omega) (by omega),show Zbd (128:Int) 32=96 from rfl,ZeA (by omega) (by omega)];omega
  simp only[ZfR,Bool.not_false,cond_true,Zeb,cond_false,Option.bind_some,u,lF];refine⟨_,rfl,?_⟩;refine cj (b-32) (fun i t d=>?_) (fun h=>?_)
  .have d:i<32:=d;show (y.testBit (32-1-i))=(y'.testBit (32-1-i));exact d3 _ (by omega)
  .have h:b-32<32:=h;show (y.testBit (32-1-(b-32)))≠(y'.testBit (32-1-(b-32)));rw[show 32-1-(b-32)=63-b by omega];exact d4 (by omega)
 |true=>
  have hb:∀(x y:Nat),y<2 ^ 64->∀i,bitN ⟨true,(x:Int),(y:Int)⟩ i=if 127-i<64 then y.testBit (127-i)else x.testBit (127-i-64):=fun x y Z i=>by
   unfold bitN num wid;simp only[if_true,Int.toNat_natCast];rw[Zpd (by omega)]
  by_cases hx:x ^^^ x'=0
  .rw[hx,show (((0:Nat):Int)==0)=true from rfl,cond_true];have hxx:x=x':=by
    apply Nat.eq_of_testBit_eq;intro j;exact D j (by have:=E.2 hx;omega)
   have u:Zan 64 (b:Int)=((64+b:Nat):Int):=by rw[Zcs (by omega) (by omega)];omega
   simp only[ZfR,Bool.not_true,cond_false,u,lF];refine⟨_,rfl,?_⟩;refine cj (64+b) (fun i t d=>?_) (fun h=>?_)
   .have d:i<128:=d;rw[hb x y (by omega),hb x' y' (by omega),hxx];split
    .exact d3 _ (by omega)
    .rfl
   .have h:64+b<128:=h;rw[hb x y (by omega),hb x' y' (by omega),if_pos (by omega),if_pos (by omega)];rw[show 127-(64+b)=63-b by omega];exact d4 (by omega)
  .have I:g<64:=by
    rcases Nat.lt_or_ge g 64 with h|h
    .exact h
    .exact absurd (E.1 (by omega)) hx
   have hne:(((x ^^^ x':Nat):Int)==0)=false:=by
    rw[beq_eq_false_iff_ne];intro e;exact hx (by omega)
   rw[hne,cond_false];simp only[ZfR,Bool.not_true,cond_false,lF];refine⟨_,rfl,?_⟩;refine cj g (fun i t d=>?_) (fun h=>?_)
   .rw[hb x y (by omega),hb x' y' (by omega),if_neg (by omega),if_neg (by omega)];exact D _ (by omega)
   .rw[hb x y (by omega),hb x' y' (by omega),if_neg (by omega),if_neg (by omega)];rw[show 127-g-64=63-g by omega];exact H I
def Bel'(n:Nat)(f:Nat->Bool)(p:Zap):Prop:=n<=p.fBits.toNat/\∀i,i<n->bitN p.fAddr i=f i
def ext'(p:Zap)(b:Bool):Nat->Bool:=fun i=>if i<p.fBits.toNat then bitN p.fAddr i else b
theorem Zkd{p q:Zap}{b:Bool}:Bel' (p.fBits.toNat+1) (ext' p b) q↔p.fBits.toNat<q.fBits.toNat/\(∀i,i<p.fBits.toNat->bitN q.fAddr i=bitN p.fAddr i)/\bitN q.fAddr p.fBits.toNat=b:=by
 unfold Bel' ext';constructor
 .rintro ⟨g,d⟩;refine⟨by omega,fun i hi=>?_,?_⟩
  .have:=d i (by omega);rwa [if_pos hi]at this
  .have:=d p.fBits.toNat (by omega);rwa [if_neg (by omega)]at this
 .rintro ⟨g,d,j⟩;refine⟨by omega,fun i hi=>?_⟩;by_cases h:i<p.fBits.toNat
  .rw[if_pos h];exact d i h
  .rw[if_neg h,show i=p.fBits.toNat by omega];exact j
def ZoV(v:Bool):Zav->Nat->(Nat->Bool)->Prop | .nil,_,_=>True | .mk h has k0 k1,n,f=>RN h.fNet/\h.fNet.fAddr.fV6=v/\Bel' n f h.fNet/\ZoV v k0 (h.fNet.fBits.toNat+1) (ext' h.fNet false)/\ZoV v k1 (h.fNet.fBits.toNat+1) (ext' h.fNet true)
def ZbE:Zav->List Zaw | .nil=>[] | .mk h has k0 k1=>(if has then[h]else[])++ZbE k0++ZbE k1
theorem ZbS{v:Bool}:∀{nd:Zav}{n:Nat}{f:Nat->Bool},ZoV v nd n f->∀x∈ZbE nd,RN x.fNet/\x.fNet.fAddr.fV6=v/\Bel' n f x.fNet
 | .nil,_,_,_,x,hx=>by simp[ZbE]at hx
 | .mk h has A B,n,f,p,x,hx=>by
  obtain⟨t,u,d,y,z⟩:=p
  have iJ:∀b,Bel' (h.fNet.fBits.toNat+1) (ext' h.fNet b) x.fNet->Bel' n f x.fNet:=fun b hb=>by
   obtain⟨b1,b2,_⟩:=Zkd.1 hb
   have:=d.1
   exact⟨by omega,fun i hi=>by rw[b2 i (by omega)];exact d.2 i hi⟩
  simp only[ZbE,List.mem_append]at hx
  rcases hx with (hx|hx)|hx
  .split at hx
   .rw[List.mem_singleton]at hx;rw[hx];exact⟨t,u,d⟩
   .simp at hx
  .obtain⟨g,j,o⟩:=ZbS y x hx
   exact⟨g,j,iJ _ o⟩
  .obtain⟨g,j,o⟩:=ZbS z x hx
   exact⟨g,j,iJ _ o⟩
theorem ZoV.rebase{v:Bool}{nd:Zav}{n m:Nat}{f g:Nat->Bool}(h:ZoV v nd n f)(hb:∀x has b d,nd=.mk x has b d->Bel' m g x.fNet):ZoV v nd m g:=by
 cases nd with
 |nil=>trivial
 |mk x has b d=>exact⟨h.1,h.2.1,hb x has b d rfl,h.2.2.2⟩
def Zmk(l:List Zaw)(n:Zap):Int×Bool:=match l.find? (fun x=>decide (x.fNet=n))with
 |some x=>(x.fV,true)
 |none=>(0,false)
theorem ZlV{l:List Zaw}{n:Zap}(h:∀x∈l,x.fNet≠n):l.find? (fun x=>decide (x.fNet=n))=none:=by
 rw[List.find?_eq_none];intro x hx;simpa using h x hx
theorem ZDz{v:Bool}{n:Zap}(g:RN n)(u:n.fAddr.fV6=v):∀fu (nd:Zav) (m:Nat) (f:Nat->Bool),ZoV v nd m f->n.fBits.toNat+1<fu+m ->
  ZdA fu nd n=some (Zmk (ZbE nd) n)\/(n.fBits.toNat<m/\fu=0):=by
 intro fu;induction fu with
 |zero=>intro nd m f _ h;exact .inr ⟨by omega,rfl⟩
 |succ fu ih=>
  intro nd m f y D;refine .inl ?_;cases nd with
  |nil=>rfl
  |mk h has b d=>
   obtain⟨z,A,B,j,o⟩:=y;have E:wid h.fNet.fAddr=wid n.fAddr:=by unfold wid;rw[A,u]
   have b0:=fun x hx=>Zkd.1 (ZbS j x hx).2.2;have b1:=fun x hx=>Zkd.1 (ZbS o x hx).2.2;have hnn:=z.nn;have hnn':=g.nn;simp only[ZdA,Zai];by_cases hlt:h.fNet.fBits<n.fBits
   .rw[if_pos hlt];have p:=ZxI g h.fNet.fBits.toNat (by have:=g.le;omega);rw[Int.toNat_of_nonneg hnn]at p;rw[p];have t:∀x∈(if has then[h]else[]),x.fNet≠n:=fun x hx e=>by
     split at hx
     .rw[List.mem_singleton]at hx;subst hx;rw[e]at hlt;omega
     .simp at hx
    have gm:=B.1;cases hb:bitN n.fAddr h.fNet.fBits.toNat with
    |false=>
     simp only[Bool.false_eq_true,if_false,Option.bind_some];rw[Zar (by omega)];have he:Zmk (ZbE (.mk h has b d)) n=Zmk (ZbE b) n:=by
      unfold Zmk;simp only[ZbE];rw[List.find?_append,List.find?_append,ZlV t,ZlV (l:=ZbE d) fun x hx e=>by have:=(b1 x hx).2.2;rw[e,hb]at this;cases this];simp
     rw[he];rcases ih b _ _ j (by omega)with h|h
     .exact h
     .omega
    |true=>
     simp only[if_true,Option.bind_some];rw[Zar (by omega)];have he:Zmk (ZbE (.mk h has b d)) n=Zmk (ZbE d) n:=by
      unfold Zmk;simp only[ZbE];rw[List.find?_append,List.find?_append,ZlV t,ZlV (l:=ZbE b) fun x hx e=>by have:=(b0 x hx).2.2;rw[e,hb]at this;cases this];simp
     rw[he];rcases ih d _ _ o (by omega)with h|h
     .exact h
     .omega
   .rw[if_neg hlt];have he:Zmk (ZbE (.mk h has b d)) n=Zmk (if has then[h]else[]) n:=by
     unfold Zmk;simp only[ZbE];rw[List.find?_append,List.find?_append,ZlV (l:=ZbE b) fun x hx e=>by have:=(b0 x hx).1;rw[e]at this;omega,ZlV (l:=ZbE d) fun x hx e=>by have:=(b1 x hx).1;rw[e]at this;omega];simp
    rw[he];cases has with
    |false=>rfl
    |true=>
     by_cases e:h.fNet=n
     .simp[Zmk,e]
     .simp[Zmk,e]
theorem Zze{v:Bool}{hit:Zaw}(b:RN hit.fNet)(j:hit.fNet.fAddr.fV6=v):∀fu (nd:Zav) (m:Nat) (f:Nat->Bool),ZoV v nd m f->Bel' m f hit.fNet->hit.fNet.fBits.toNat+1<fu+m ->
  ∃jN,Zfr fu nd hit=some jN/\ZoV v jN m f/\∀x,x∈ZbE jN↔x=hit\/(x∈ZbE nd/\x.fNet≠hit.fNet):=by
 intro fu;induction fu with
 |zero=>intro nd m f _ hb h;have:=hb.1;omega
 |succ fu ih=>
  intro nd m f J eJ W;cases nd with
  |nil=>exact⟨_,rfl,⟨b,j,eJ,trivial,trivial⟩,fun x=>by simp[ZbE]⟩
  |mk h has d g=>
   have jH:=J;obtain⟨o,t,z,D,E⟩:=J;have hwd:wid h.fNet.fAddr=wid hit.fNet.fAddr:=by unfold wid;rw[t,j]
   have b0:=fun x hx=>Zkd.1 (ZbS D x hx).2.2;have b1:=fun x hx=>Zkd.1 (ZbS E x hx).2.2;have jO:∀x∈ZbE (.mk h has d g),h.fNet.fBits.toNat<=x.fNet.fBits.toNat/\∀i,i<h.fNet.fBits.toNat->bitN x.fNet.fAddr i=bitN h.fNet.fAddr i:=fun x hx=>by
    simp only[ZbE,List.mem_append]at hx;rcases hx with (hx|hx)|hx
    .split at hx
     .rw[List.mem_singleton]at hx;rw[hx];exact⟨Nat.le_refl _,fun _ _=>rfl⟩
     .simp at hx
    .obtain⟨x1,x2,_⟩:=b0 x hx;exact⟨by omega,x2⟩
    .obtain⟨x1,x2,_⟩:=b1 x hx;exact⟨by omega,x2⟩
   have n1:=o.nn;have n2:=b.nn;have l1:=o.le;have l2:=b.le;obtain⟨k,O,c2,Z,F,R⟩:=ZHm o b (t.trans j.symm);simp only[Zfr,O,Option.bind_some,Zai];by_cases H:k<h.fNet.fBits.toNat
   .rw[if_pos (by omega)];have hbit:=ZxI o k (by omega);by_cases iK:k=hit.fNet.fBits.toNat
    .-- the new one stands above
     have e:((k:Int)==hit.fNet.fBits)=true:=by rw[beq_iff_eq];omega
     have hne:∀x∈ZbE (.mk h has d g),x.fNet≠hit.fNet:=fun x hx e=>by have:=(jO x hx).1;rw[e]at this;omega
     have p:Bel' (hit.fNet.fBits.toNat+1) (ext' hit.fNet (bitN h.fNet.fAddr k)) h.fNet:=Zkd.2 ⟨by omega,fun i hi=>F i (by omega),by rw[<-iK]⟩;have hG:ZoV v (.mk h has d g) (hit.fNet.fBits.toNat+1) (ext' hit.fNet (bitN h.fNet.fAddr k)):=jH.rebase fun x _ _ _ e=>by cases e;exact p
     simp only[Zkw,e,cond_true,hbit,Option.bind_some];cases hb:bitN h.fNet.fAddr k with
     |false=>
      rw[hb]at hG;simp only[Bool.false_eq_true,if_false];rw[Zar (by omega)];refine⟨_,rfl,⟨b,j,eJ,hG,trivial⟩,fun x=>?_⟩;have:ZbE (.mk hit true (.mk h has d g) .nil)=[hit]++ZbE (.mk h has d g):=by simp[ZbE]
      rw[this,List.mem_append,List.mem_singleton];exact or_congr Iff.rfl ⟨fun hx=>⟨hx,hne x hx⟩,fun hx=>hx.1⟩
     |true=>
      rw[hb]at hG;simp only[if_true];rw[Zar (by omega)];refine⟨_,rfl,⟨b,j,eJ,trivial,hG⟩,fun x=>?_⟩;have:ZbE (.mk hit true .nil (.mk h has d g))=[hit]++ZbE (.mk h has d g):=by simp[ZbE]
      rw[this,List.mem_append,List.mem_singleton];exact or_congr Iff.rfl ⟨fun hx=>⟨hx,hne x hx⟩,fun hx=>hx.1⟩
    .-- they part
     have hk2:k<hit.fNet.fBits.toNat:=by omega
     have e:((k:Int)==hit.fNet.fBits)=false:=by rw[beq_eq_false_iff_ne];omega
     have dk:=R H hk2;have hne:∀x∈ZbE (.mk h has d g),x.fNet≠hit.fNet:=fun x hx e=>dk (by rw[<-(jO x hx).2 k H,e]);obtain⟨L,r2⟩:=ZJV b.ok b.right k (by omega);have i3:ZfT hit.fNet.fAddr (k:Int)=some (⟨Zka hit.fNet.fAddr k,(k:Int)⟩,true):=by
      rw[ZBD _ b.ok,if_pos ⟨b.right,by omega,by omega⟩,Int.toNat_natCast]
     have iL:(⟨Zka hit.fNet.fAddr k,(k:Int)⟩ : Zap).fBits.toNat=k:=Int.toNat_natCast k;have bN:∀i,i<k->bitN (Zka hit.fNet.fAddr k) i=bitN hit.fNet.fAddr i:=fun i hi=>by
      rw[ZlF b.fits k i (by omega) (by omega),decide_eq_true hi];rfl
     have U:m<=k:=by
      rcases Nat.lt_or_ge k m with hh|hh
      .exact absurd ((z.2 k hh).trans (eJ.2 k hh).symm) dk
      .exact hh
     have M:Bel' m f ⟨Zka hit.fNet.fAddr k,(k:Int)⟩:=⟨by rw[iL];exact U,fun i hi=>by rw[bN i (by omega)];exact eJ.2 i hi⟩;have G:ZoV v (.mk h has d g) ((⟨Zka hit.fNet.fAddr k,(k:Int)⟩ : Zap).fBits.toNat+1) (ext' ⟨Zka hit.fNet.fAddr k,(k:Int)⟩ (bitN h.fNet.fAddr k)):=jH.rebase fun x _ _ _ e=>by
      cases e;exact Zkd.2 ⟨by rw[iL];exact H,fun i hi=>by rw[iL]at hi;rw[bN i hi];exact F i hi,by rw[iL]⟩
     have hL:ZoV v (.mk hit true .nil .nil) ((⟨Zka hit.fNet.fAddr k,(k:Int)⟩ : Zap).fBits.toNat+1) (ext' ⟨Zka hit.fNet.fAddr k,(k:Int)⟩ (bitN hit.fNet.fAddr k)):=
      ⟨b,j,Zkd.2 ⟨by rw[iL];exact hk2,fun i hi=>by rw[iL]at hi;rw[bN i hi],by rw[iL]⟩,trivial,trivial⟩
     have bA:=ZxI b k (by omega);simp only[Zkw,e,cond_false,i3,hbit,bA,Option.bind_some];cases hb:bitN h.fNet.fAddr k with
     |false=>
      have aL:bitN hit.fNet.fAddr k=true:=by
       cases I:bitN hit.fNet.fAddr k
       .rw[hb,I]at dk;exact absurd rfl dk
       .rfl
      rw[hb]at G;rw[aL]at hL;simp only[aL,Bool.false_eq_true,if_false,if_true];rw[Zar (by omega)];have u:∀(A B:Option Zav),ix2 0 A B=A:=fun _ _=>rfl;have y:∀(A B:Option Zav),ix2 1 A B=B:=fun _ _=>rfl;rw[u,Zar (by omega),y];refine⟨_,rfl,⟨L,by simp only[ZiZ];exact j,M,G,hL⟩,fun x=>?_⟩;have:ZbE (.mk ⟨⟨Zka hit.fNet.fAddr k,(k:Int)⟩,0⟩ false (.mk h has d g) (.mk hit true .nil .nil))=ZbE (.mk h has d g)++[hit]:=by simp[ZbE]
      rw[this,List.mem_append,List.mem_singleton,or_comm];exact or_congr Iff.rfl ⟨fun hx=>⟨hx,hne x hx⟩,fun hx=>hx.1⟩
     |true=>
      have aL:bitN hit.fNet.fAddr k=false:=by
       cases I:bitN hit.fNet.fAddr k
       .rfl
       .rw[hb,I]at dk;exact absurd rfl dk
      rw[hb]at G;rw[aL]at hL;simp only[aL,Bool.false_eq_true,if_false,if_true];rw[Zar (by omega)];have u:∀(A B:Option Zav),ix2 0 A B=A:=fun _ _=>rfl;have y:∀(A B:Option Zav),ix2 1 A B=B:=fun _ _=>rfl;rw[y,Zar (by omega),u];refine⟨_,rfl,⟨L,by simp only[ZiZ];exact j,M,hL,G⟩,fun x=>?_⟩;have:ZbE (.mk ⟨⟨Zka hit.fNet.fAddr k,(k:Int)⟩,0⟩ false (.mk hit true .nil .nil) (.mk h has d g))=[hit]++ZbE (.mk h has d g):=by simp[ZbE]
      rw[this,List.mem_append,List.mem_singleton];exact or_congr Iff.rfl ⟨fun hx=>⟨hx,hne x hx⟩,fun hx=>hx.1⟩
   .rw[if_neg (by omega)];have iK:k=h.fNet.fBits.toNat:=by omega
    by_cases hke:k=hit.fNet.fBits.toNat
    .-- it is there
     have e:((k:Int)==hit.fNet.fBits)=true:=by rw[beq_iff_eq];omega
     have lG:h.fNet=hit.fNet:=ZKX o b (t.trans j.symm) (by
      unfold bs;rw[<-iK,<-hke];apply List.map_congr_left;intro i hi;exact F i (by simpa using hi))
     rw[e,cond_true];refine⟨_,rfl,⟨b,j,eJ,by rw[<-lG];exact D,by rw[<-lG];exact E⟩,fun x=>?_⟩;have n0:x∈ZbE d->x.fNet≠hit.fNet:=fun hx e=>by have:=(b0 x hx).1;rw[e]at this;omega
     have n1:x∈ZbE g->x.fNet≠hit.fNet:=fun hx e=>by have:=(b1 x hx).1;rw[e]at this;omega
     simp only[ZbE,List.mem_append,if_true,List.mem_singleton];constructor
     .rintro ((hx|hx)|hx)
      .exact .inl hx
      .exact .inr ⟨.inl (.inr hx),n0 hx⟩
      .exact .inr ⟨.inr hx,n1 hx⟩
     .rintro (hx|⟨(hx|hx)|hx,hne⟩)
      .exact .inl (.inl hx)
      .split at hx
       .rw[List.mem_singleton]at hx;rw[hx]at hne;exact absurd lG hne
       .simp at hx
      .exact .inl (.inr hx)
      .exact .inr hx
    .have e:((k:Int)==hit.fNet.fBits)=false:=by rw[beq_eq_false_iff_ne];omega
     have hbit:=ZxI b k (by omega);have p:Bel' (h.fNet.fBits.toNat+1) (ext' h.fNet (bitN hit.fNet.fAddr k)) hit.fNet:=Zkd.2 ⟨by omega,fun i hi=>(F i (by omega)).symm,by rw[<-iK]⟩;have nh:∀x∈(if has then[h]else[]),x.fNet≠hit.fNet:=fun x hx e=>by
      split at hx
      .rw[List.mem_singleton]at hx;rw[hx]at e;rw[e]at iK;omega
      .simp at hx
     have gm:=z.1;simp only[e,cond_false,hbit,Option.bind_some];cases hb:bitN hit.fNet.fAddr k with
     |false=>
      rw[hb]at p;simp only[Bool.false_eq_true,if_false];rw[Zar (by omega)];obtain⟨jN,w1,w2,w3⟩:=ih d _ _ D p (by omega);have u:∀(A B:Option Zav),ix2 0 A B=A:=fun _ _=>rfl;rw[u,w1];refine⟨_,rfl,⟨o,t,z,w2,E⟩,fun x=>?_⟩;have n1:x∈ZbE g->x.fNet≠hit.fNet:=fun hx e=>by have:=(b1 x hx).2.2;rw[e,<-iK,hb]at this;cases this
      simp only[ZbE,List.mem_append,w3];constructor
      .rintro ((hx|hx|hx)|hx)
       .exact .inr ⟨.inl (.inl hx),nh x hx⟩
       .exact .inl hx
       .exact .inr ⟨.inl (.inr hx.1),hx.2⟩
       .exact .inr ⟨.inr hx,n1 hx⟩
      .rintro (hx|⟨(hx|hx)|hx,hne⟩)
       .exact .inl (.inr (.inl hx))
       .exact .inl (.inl hx)
       .exact .inl (.inr (.inr ⟨hx,hne⟩))
       .exact .inr hx
     |true=>
      rw[hb]at p;simp only[if_true];rw[Zar (by omega)];obtain⟨jN,w1,w2,w3⟩:=ih g _ _ E p (by omega);have y:∀(A B:Option Zav),ix2 1 A B=B:=fun _ _=>rfl;rw[y,w1];refine⟨_,rfl,⟨o,t,z,D,w2⟩,fun x=>?_⟩;have n1:x∈ZbE d->x.fNet≠hit.fNet:=fun hx e=>by have:=(b0 x hx).2.2;rw[e,<-iK,hb]at this;cases this
      simp only[ZbE,List.mem_append,w3];constructor
      .rintro ((hx|hx)|hx|hx)
       .exact .inr ⟨.inl (.inl hx),nh x hx⟩
       .exact .inr ⟨.inl (.inr hx),n1 hx⟩
       .exact .inl hx
       .exact .inr ⟨.inr hx.1,hx.2⟩
      .rintro (hx|⟨(hx|hx)|hx,hne⟩)
       .exact .inr (.inl hx)
       .exact .inl (.inl hx)
       .exact .inl (.inr hx)
       .exact .inr (.inr ⟨hx,hne⟩)
def cov(a:Zaf)(x:Zaw):Bool:=decide (∀i,i<x.fNet.fBits.toNat->bitN a i=bitN x.fNet.fAddr i)
theorem ZmV{α:Type}{p:α->Bool}{l:List α}(h:∀x∈l,p x=false):l.filter p=[]:=by
 rw[List.filter_eq_nil_iff];intro x hx;rw[h x hx];simp
theorem ZxD{v:Bool}{a:Zaf}(ha:a.ok)(D:Zet a=true)(y:a.fV6=v):∀fu (nd:Zav) (m:Nat) (f:Nat->Bool) (w:List Zaw),ZoV v nd m f->(∀i,i<m->i<wid a->bitN a i=f i)->m<=wid a+1->wid a+1<fu+m->w.length<=m ->
  ZbK fu nd w a=some (w++(ZbE nd).filter (cov a)):=by
 have hwa:wid a<=128:=by unfold wid;split<;>omega
 intro fu;induction fu with
 |zero=>intro nd m f w _ _ _ h;omega
 |succ fu ih=>
  intro nd m f w G hp hmw I hl;cases nd with
  |nil=>simp[ZbK,ZbE]
  |mk h has o p=>
   obtain⟨z,E,H,t,u⟩:=G;have hwd:wid h.fNet.fAddr=wid a:=by unfold wid;rw[E,y]
   have b0:=fun x hx=>Zkd.1 (ZbS t x hx).2.2;have b1:=fun x hx=>Zkd.1 (ZbS u x hx).2.2;have w0:=fun x hx=>(ZbS t x hx);have w1:=fun x hx=>(ZbS u x hx);have n1:=z.nn;have l1:=z.le;have gm:=H.1;simp only[ZbK,ZLk _ a z ha,D,decide_eq_true (E.trans y.symm),Bool.true_and,Option.bind_some,Zai];by_cases j:∀i,i<h.fNet.fBits.toNat->bitN a i=bitN h.fNet.fAddr i
   .rw[if_pos j];have lH:cov a h=true:=by unfold cov;rw[decide_eq_true_eq];exact j
    -- what lies below
    have jP:∀w':List Zaw,w'.length<=h.fNet.fBits.toNat+1->((ZhK a h.fNet.fBits).bind fun x6=>need (0<=x6/\x6<((2:Nat):Int))<|ix2 x6 (ZbK fu o w' a) (ZbK fu p w' a))=some (w'++((ZbE o).filter (cov a)++(ZbE p).filter (cov a))):=by
     intro w' iM;by_cases hb:h.fNet.fBits.toNat<wid a
     .have F:=ZHH (ZpE ha D) h.fNet.fBits.toNat hb;rw[Int.toNat_of_nonneg n1]at F;rw[F];cases hbit:bitN a h.fNet.fBits.toNat with
      |false=>
       simp only[Bool.false_eq_true,if_false,Option.bind_some];rw[Zar (by omega),show ∀(A B:Option (List Zaw)),ix2 0 A B=A from fun _ _=>rfl];rw[ih o _ _ w' t (fun i hi cH=>by
        unfold ext';by_cases d:i<h.fNet.fBits.toNat
        .rw[if_pos d];exact j i d
        .rw[if_neg d,show i=h.fNet.fBits.toNat by omega];exact hbit) (by omega) (by omega) iM]
       rw[ZmV (l:=ZbE p) fun x hx=>?_]
       .simp
       .unfold cov;rw[decide_eq_false_iff_not];intro g;obtain⟨x1,x2,x3⟩:=b1 x hx;have:=g _ x1;rw[hbit,x3]at this;cases this
      |true=>
       simp only[if_true,Option.bind_some];rw[Zar (by omega),show ∀(A B:Option (List Zaw)),ix2 1 A B=B from fun _ _=>rfl];rw[ih p _ _ w' u (fun i hi cH=>by
        unfold ext';by_cases d:i<h.fNet.fBits.toNat
        .rw[if_pos d];exact j i d
        .rw[if_neg d,show i=h.fNet.fBits.toNat by omega];exact hbit) (by omega) (by omega) iM]
       rw[ZmV (l:=ZbE o) fun x hx=>?_]
       .simp
       .unfold cov;rw[decide_eq_false_iff_not];intro g;obtain⟨x1,x2,x3⟩:=b0 x hx;have:=g _ x1;rw[hbit,x3]at this;cases this
     .-- a whole address: nothing lies below
      have bh:∀(iJ:Zav)(b:Bool),ZoV v iJ (h.fNet.fBits.toNat+1) (ext' h.fNet b)->iJ=.nil:=fun iJ b dQ=>by
       cases iJ with
       |nil=>rfl
       |mk x hs J L=>
        have M:=dQ.2.2.1.1;have O:=dQ.1.le;have d:wid x.fNet.fAddr=wid a:=by unfold wid;rw[dQ.2.1,y]
        omega
      rw[bh o _ t,bh p _ u];have jQ:ZhK a h.fNet.fBits=some 0:=by
       simp only[ZhK,ZCy,Option.bind_some,Zai];rw[if_neg (by omega),if_pos (by omega)]
      rw[jQ];simp only[Option.bind_some];rw[Zar (by omega),show ∀(A B:Option (List Zaw)),ix2 0 A B=A from fun _ _=>rfl];have:=ih .nil (h.fNet.fBits.toNat+1) (ext' h.fNet false) w' trivial (fun i hi cH=>by
        unfold ext';rw[if_pos (by omega)];exact j i (by omega)) (by omega) (by omega) iM
      rw[this];simp[ZbE]
    cases has with
    |true=>
     simp only[cond_true,ZbE,if_true];rw[Zar ⟨by simp;omega,by unfold maxLen;simp;omega⟩,jP _ (by simp;omega)];simp[lH]
    |false=>
     simp only[cond_false,ZbE,Bool.false_eq_true,if_false];rw[jP _ (by omega)];simp
   .rw[if_neg j];rw[ZmV]
    .simp
    .intro x hx;unfold cov;rw[decide_eq_false_iff_not];intro g;apply j;intro i hi;simp only[ZbE,List.mem_append]at hx;rcases hx with (hx|hx)|hx
     .split at hx
      .rw[List.mem_singleton]at hx;rw[hx]at g;exact g i hi
      .simp at hx
     .obtain⟨x1,x2,_⟩:=b0 x hx;rw[g i (by omega)];exact x2 i hi
     .obtain⟨x1,x2,_⟩:=b1 x hx;rw[g i (by omega)];exact x2 i hi
theorem ZBp{a:Zaf}(h:Fits a)(i:Nat)(hi:i<wid a):Zei a (i:Int)=some (if bitN a i then 1 else 0):=by
 have g:=h.hi0;have j:=h.hi1;have o:=h.lo0;have t:=h.lo1;obtain⟨v,cH,lo⟩:=a;obtain⟨p,hp⟩:=ZmE h.hi0;obtain⟨q,b⟩:=ZmE h.lo0;simp only at hp b g j o t;subst hp b;have d:∀k:Nat,k<64->(IntKind.u64.wrap ((k:Nat):Int))=((k:Nat):Int):=fun k u=>Ziv (by omega) (by omega);cases v with
 |false=>
  have hi:i<32:=hi;have e:Zbd (31:Int) (i:Int)=((31-i:Nat):Int):=by rw[ZeA (by omega) (by omega)];omega
  simp only[Zei,Zcj,ZdK,Zai,Option.bind_some,cond_false,Bool.not_false,cond_true,e,d (31-i) (by omega)];rw[if_neg (by omega),if_neg (by omega),Zar (by omega),ZtH q _ (by omega) (by omega)];rfl
 |true=>
  have hi:i<128:=hi;have hb:bitN ⟨true,(p:Int),(q:Int)⟩ i=if 127-i<64 then q.testBit (127-i)else p.testBit (127-i-64):=by
   unfold bitN num wid;simp only[if_true,Int.toNat_natCast];rw[Zpd (by omega)]
  rw[hb];have et:Int.tmod (i:Int) 64=((i % 64:Nat):Int):=by rw[Int.tmod_eq_emod_of_nonneg (by omega)];rfl
  have y:i % 64<64:=Nat.mod_lt _ (by omega);have e:Zbd (63:Int) ((i % 64:Nat):Int)=((63-i % 64:Nat):Int):=by rw[ZeA (by omega) (by omega)];omega
  simp only[Zei,Zcj,ZdK,Zai,Option.bind_some,cond_false,Bool.not_true,cond_true,et,e,d (63-i % 64) (by omega)];rw[if_neg (by omega),if_neg (by omega)];by_cases h64:i<64
  .rw[if_pos (by omega),Zar (by omega),ZtH p _ (by omega) (by omega),if_neg (show ¬127-i<64 by omega),show 63-i % 64=127-i-64 by omega]
  .rw[if_neg (by omega),Zar (by omega),ZtH q _ (by omega) (by omega),if_pos (show 127-i<64 by omega),show 63-i % 64=127-i by omega]
theorem Zum(a:Zaf):Zcj a=some (wid a:Int):=by
 unfold Zcj wid;cases a.fV6<;>rfl
theorem ZuI(a:Zaf):wid a<=128:=by unfold wid;split<;>omega
theorem ZLA{i:Nat}(h:i<=1000000):Zan (i:Int) 1=((i+1:Nat):Int):=by rw[Zcs (by omega) (by omega)];omega
theorem ZGd{p:Zap}(g:Fits p.fAddr):∀fu (i:Nat),i<=wid p.fAddr->wid p.fAddr-i<fu->∃r,Zdj fu (i:Int) p=some r/\(r=true↔∀j,i<=j->j<wid p.fAddr->bitN p.fAddr j=false):=by
 have y:=ZuI p.fAddr;intro fu;induction fu with
 |zero=>intro _ _ h;omega
 |succ fu ih=>
  intro i hi hfu;simp only[Zdj,Zum,Option.bind_some,Zai];by_cases h:i<wid p.fAddr
  .rw[if_pos (by omega),ZBp g i h,ZLA (by omega)];simp only[Option.bind_some];obtain⟨r,o,t⟩:=ih (i+1) (by omega) (by omega);cases hb:bitN p.fAddr i with
   |true=>
    simp only[if_true,beq_self_eq_true,cond_true];refine⟨false,rfl,?_⟩;simp only[Bool.false_eq_true,false_iff];intro u;have:=u i (Nat.le_refl _) h;rw[hb]at this;cases this
   |false=>
    simp only[Bool.false_eq_true,if_false];rw[show ((0:Int)==1)=false from rfl,cond_false];refine⟨r,o,t.trans ⟨fun q j d b=>?_,fun q j d b=>q j (by omega) b⟩⟩;by_cases v:j=i
    .subst v;exact hb
    .exact q j (by omega) b
  .rw[if_neg (by omega)];exact⟨true,rfl,by simp;intro j d b;omega⟩
theorem Ztk(p:Zap)(h:p.fAddr.ok):ZdY p=some (Zii p):=by
 simp only[ZdY,Zmy p.fAddr h,Zum,Option.bind_some,Zai];unfold Zii;cases o:Zet p.fAddr
 .simp
 .have b:=ZpE h o;simp only[Bool.not_true,cond_false,Bool.true_and];by_cases h0:p.fBits<0
  .rw[if_pos h0,show decide (0<=p.fBits)=false by rw[decide_eq_false_iff_not];omega];simp
  .rw[if_neg h0];by_cases d:p.fBits>(wid p.fAddr:Int)
   .rw[if_pos d,show decide (p.fBits<=(wid p.fAddr:Int))=false by rw[decide_eq_false_iff_not];omega];simp
   .rw[if_neg d,show decide (0<=p.fBits)=true by rw[decide_eq_true_eq];omega,show decide (p.fBits<=(wid p.fAddr:Int))=true by rw[decide_eq_true_eq];omega];have v:=ZuI p.fAddr;obtain⟨r,g,t⟩:=ZGd b 1000000 p.fBits.toNat (by omega) (by omega);rw[Int.toNat_of_nonneg (by omega)]at g;rw[g,Option.some.injEq,Bool.true_and,Bool.true_and,Bool.eq_iff_iff,t,decide_eq_true_eq];constructor
    .intro q;refine Ztc (Zkf b _) b (ZiZ _ _) fun i hi=>?_;have hi:i<wid p.fAddr:=by unfold wid at hi ⊢;rwa [ZiZ]at hi
     rw[ZlF b p.fBits.toNat i (by omega) hi];by_cases hb:i<p.fBits.toNat
     .rw[decide_eq_true hb];rfl
     .rw[decide_eq_false hb,q i (by omega) hi];rfl
    .intro q j y u;have:=ZlF b p.fBits.toNat j (by omega) u;rw[q,decide_eq_false (by omega)]at this;exact this
def hasS(p:Zap)(a:Zaf):Bool:=Zii p&&(Zet a&&decide (p.fAddr.fV6=a.fV6)&&decide (∀i,i<p.fBits.toNat->bitN a i=bitN p.fAddr i))
theorem ZzC{p:Zap}{a:Zaf}(hp:RN p)(ha:Fits a)(g:p.fAddr.fV6=a.fV6):∀fu (i:Nat),i<=p.fBits.toNat->p.fBits.toNat-i<fu->∃r,Zdf fu (i:Int) p a=some r/\(r=true↔∀j,i<=j->j<p.fBits.toNat->bitN a j=bitN p.fAddr j):=by
 have y:=ZuI p.fAddr;have hwa:wid p.fAddr=wid a:=by unfold wid;rw[g]
 have n1:=hp.nn;have l1:=hp.le;intro fu;induction fu with
 |zero=>intro _ _ h;omega
 |succ fu ih=>
  intro i hi hfu;simp only[Zdf,Zai];by_cases h:i<p.fBits.toNat
  .rw[if_pos (by omega),ZBp hp.fits i (by omega),ZBp ha i (by omega),ZLA (by omega)];simp only[Option.bind_some];obtain⟨r,o,t⟩:=ih (i+1) (by omega) (by omega);by_cases hb:bitN a i=bitN p.fAddr i
   .rw[hb];simp only[bne_self_eq_false,cond_false];refine⟨r,o,t.trans ⟨fun q j d b=>?_,fun q j d b=>q j (by omega) b⟩⟩;by_cases u:j=i
    .subst u;exact hb
    .exact q j (by omega) b
   .have hne:((if bitN p.fAddr i=true then(1:Int)else 0) != if bitN a i=true then 1 else 0)=true:=by
     revert hb
     cases bitN a i<;>cases bitN p.fAddr i<;>simp
    rw[hne,cond_true];refine⟨false,rfl,?_⟩;simp only[Bool.false_eq_true,false_iff];intro v;exact hb (v i (Nat.le_refl _) h)
  .rw[if_neg (by omega)];exact⟨true,rfl,by simp;intro j d b;omega⟩
theorem ZIr(p:Zap)(a:Zaf)(hp:p.fAddr.ok)(ha:a.ok):Zha p a=some (hasS p a):=by
 simp only[Zha,Ztk p hp,Zmy a ha,Option.bind_some];unfold hasS;cases h:Zii p
 .rfl
 .have eK:=(ZwW hp).1 h;simp only[Bool.not_true,cond_false,Bool.true_and];cases o:Zet a
  .rfl
  .simp only[Bool.not_true,cond_false,Bool.true_and];by_cases b:p.fAddr.fV6=a.fV6
   .rw[show (!(p.fAddr.fV6==a.fV6))=false by simp[b],cond_false,decide_eq_true b,Bool.true_and];have u:=ZuI p.fAddr;have n1:=eK.nn;have l1:=eK.le;obtain⟨r,d,t⟩:=ZzC eK (ZpE ha o) b 1000000 0 (by omega) (by omega);have d:Zdf 1000000 0 p a=some r:=d;rw[d,Option.some.injEq,Bool.eq_iff_iff,t,decide_eq_true_eq];exact⟨fun q j g=>q j (by omega) g,fun q j _ g=>q j g⟩
   .rw[show (!(p.fAddr.fV6==a.fV6))=true by simp[b],cond_true,decide_eq_false b];rfl
def f0:Nat->Bool:=fun _=>false
def GT:ZaG->Prop | .nil=>False | .mk r4 r6 _=>ZoV false r4 0 f0/\ZoV true r6 0 f0
def ZiD:ZaG->List Zaw | .nil=>[] | .mk r4 r6 _=>ZbE r4++ZbE r6
theorem bel0(p:Zap):Bel' 0 f0 p:=⟨Nat.zero_le _,fun i hi=>by omega⟩
theorem ZzX{t:ZaG}(h:GT t):∀x∈ZiD t,RN x.fNet:=by
 cases t with
 |nil=>exact h.elim
 |mk b d n=>
  intro x hx;simp only[ZiD,List.mem_append]at hx;rcases hx with hx|hx
  .exact(ZbS h.1 x hx).1
  .exact(ZbS h.2 x hx).1
theorem ZGV(a:Zaf):ZgT a=some (if a.fV6 then 1 else 0):=by
 unfold ZgT;cases a.fV6<;>rfl
theorem ZCM{t:ZaG}(h:GT t)(n:Zap)(d:n.fAddr.ok):ZhC t n=some (if Zii n then Zmk (ZiD t) n else(0,false)):=by
 cases t with
 |nil=>exact h.elim
 |mk g j k=>
  simp only[ZhC,ZoT n d,Option.bind_some,ZGV];cases o:Zii n
  .rfl
  .have eK:=(ZwW d).1 o;have hb:n.fBits.toNat<=128:=by have:=eK.le;have:=eK.nn;have:=ZuI n.fAddr;omega
   simp only[Bool.not_true,cond_false,if_true];cases b:n.fAddr.fV6 with
   |false=>
    simp only[Bool.false_eq_true,if_false];rw[Zar (by omega),show ∀(A B:Option (Int×Bool)),ix2 0 A B=A from fun _ _=>rfl];rcases ZDz eK b 1000000 g 0 f0 h.1 (by omega)with e|e
    .rw[e];unfold Zmk;simp only[ZiD];rw[List.find?_append,ZlV (l:=ZbE j) fun x hx e=>by have:=(ZbS h.2 x hx).2.1;rw[e,b]at this;cases this];simp
    .omega
   |true=>
    simp only[if_true];rw[Zar (by omega),show ∀(A B:Option (Int×Bool)),ix2 1 A B=B from fun _ _=>rfl];rcases ZDz eK b 1000000 j 0 f0 h.2 (by omega)with e|e
    .rw[e];unfold Zmk;simp only[ZiD];rw[List.find?_append,ZlV (l:=ZbE g) fun x hx e=>by have:=(ZbS h.1 x hx).2.1;rw[e,b]at this;cases this];simp
    .omega
theorem ZFD{t:ZaG}(h:GT t)(n:Zap)(j:n.fAddr.ok)(val:Int)(o:Zii n=true):∃t',Zfc t n val=some t'/\GT t'/\∀x,x∈ZiD t'↔x=⟨n,val⟩\/(x∈ZiD t/\x.fNet≠n):=by
 cases t with
 |nil=>exact h.elim
 |mk b d k=>
  have eK:=(ZwW j).1 o;have hb:n.fBits.toNat<=128:=by have:=eK.le;have:=eK.nn;have:=ZuI n.fAddr;omega
  have p:=ZCM h n j;simp only[Zfc,Zfs,ZoT n j,o,p,if_true,Option.bind_some,Bool.not_true,cond_false,ZGV];have jR:n.fAddr.fV6=false->∃r,Zfr 1000 b ⟨n,val⟩=some r/\ZoV false r 0 f0/\∀x,(x∈ZbE r\/x∈ZbE d)↔x=⟨n,val⟩\/((x∈ZbE b\/x∈ZbE d)/\x.fNet≠n):=fun g=>by
   obtain⟨r,w1,w2,w3⟩:=Zze (hit:=⟨n,val⟩) eK g 1000 b 0 f0 h.1 (bel0 _) (by simp only;omega);refine⟨r,w1,w2,fun x=>?_⟩;rw[w3 x];have u:x∈ZbE d->x.fNet≠n:=fun hx e=>by have:=(ZbS h.2 x hx).2.1;rw[e,g]at this;cases this
   constructor
   .rintro ((hx|hx)|hx)
    .exact .inl hx
    .exact .inr ⟨.inl hx.1,hx.2⟩
    .exact .inr ⟨.inr hx,u hx⟩
   .rintro (hx|⟨hx|hx,hne⟩)
    .exact .inl (.inl hx)
    .exact .inl (.inr ⟨hx,hne⟩)
    .exact .inr hx
  have jS:n.fAddr.fV6=true->∃r,Zfr 1000 d ⟨n,val⟩=some r/\ZoV true r 0 f0/\∀x,(x∈ZbE b\/x∈ZbE r)↔x=⟨n,val⟩\/((x∈ZbE b\/x∈ZbE d)/\x.fNet≠n):=fun g=>by
   obtain⟨r,w1,w2,w3⟩:=Zze (hit:=⟨n,val⟩) eK g 1000 d 0 f0 h.2 (bel0 _) (by simp only;omega);refine⟨r,w1,w2,fun x=>?_⟩;rw[w3 x];have v:x∈ZbE b->x.fNet≠n:=fun hx e=>by have:=(ZbS h.1 x hx).2.1;rw[e,g]at this;cases this
   constructor
   .rintro (hx|hx|hx)
    .exact .inr ⟨.inl hx,v hx⟩
    .exact .inl hx
    .exact .inr ⟨.inr hx.1,hx.2⟩
   .rintro (hx|⟨hx|hx,hne⟩)
    .exact .inr (.inl hx)
    .exact .inl hx
    .exact .inr (.inr ⟨hx,hne⟩)
  have y:∀(A B:Option ZaG),ix2 0 A B=A:=fun _ _=>rfl;have z:∀(A B:Option ZaG),ix2 1 A B=B:=fun _ _=>rfl;cases g:n.fAddr.fV6 with
  |false=>
   obtain⟨r,w1,w2,w3⟩:=jR g;cases(Zmk (ZiD (.mk b d k)) n).2 <;>
   .simp only[Bool.not_false,Bool.not_true,cond_true,cond_false,Bool.false_eq_true,if_false];rw[Zar (by omega),y,w1];exact⟨_,rfl,⟨w2,h.2⟩,fun x=>by simp only[ZiD,List.mem_append];exact w3 x⟩
  |true=>
   obtain⟨r,w1,w2,w3⟩:=jS g;cases(Zmk (ZiD (.mk b d k)) n).2 <;>
   .simp only[Bool.not_false,Bool.not_true,cond_true,cond_false,if_true];rw[Zar (by omega),z,w1];exact⟨_,rfl,⟨h.1,w2⟩,fun x=>by simp only[ZiD,List.mem_append];exact w3 x⟩
theorem Zpg{v:Bool}:∀{nd:Zav}{n:Nat}{f:Nat->Bool},ZoV v nd n f->(ZbE nd).Pairwise fun x y=>x.fNet≠y.fNet
 | .nil,_,_,_=>List.Pairwise.nil
 | .mk h has u z,n,f,p=>by
  obtain⟨A,B,D,d,g⟩:=p
  have b0:=fun x hx=>Zkd.1 (ZbS d x hx).2.2
  have b1:=fun x hx=>Zkd.1 (ZbS g x hx).2.2
  have j:∀x∈(if has then[h]else[]),x.fNet=h.fNet:=fun x hx=>by
   split at hx
   .rw[List.mem_singleton]at hx;rw[hx]
   .simp at hx
  simp only[ZbE]
  rw[List.pairwise_append,List.pairwise_append]
  refine⟨⟨?_,Zpg d,fun x hx y b e=>?_⟩,Zpg g,fun x hx y b e=>?_⟩
  .split
   .exact List.pairwise_singleton _ _
   .exact List.Pairwise.nil
  .have:=(b0 y b).1
   rw[<-e,j x hx]at this;omega
  .rcases List.mem_append.1 hx with hx|hx
   .have:=(b1 y b).1
    rw[<-e,j x hx]at this;omega
   .have o:=(b0 x hx).2.2
    have t:=(b1 y b).2.2
    rw[e,t]at o;cases o
theorem ZzY{t:ZaG}(h:GT t):(ZiD t).Pairwise fun x y=>x.fNet≠y.fNet:=by
 cases t with
 |nil=>exact h.elim
 |mk j o k=>
  simp only[ZiD];rw[List.pairwise_append];refine⟨Zpg h.1,Zpg h.2,fun x hx y d e=>?_⟩;have b:=(ZbS h.1 x hx).2.1;have g:=(ZbS h.2 y d).2.1;rw[e,g]at b;cases b
theorem ZGE{l:List Zaw}{n:Zap}(h:(Zmk l n).2=true):∃x∈l,x.fNet=n/\x.fV=(Zmk l n).1:=by
 unfold Zmk at h ⊢;cases b:l.find? (fun x=>decide (x.fNet=n))with
 |none=>rw[b]at h;cases h
 |some x=>
  have:=List.find?_some b;exact⟨x,List.mem_of_find?_eq_some b,by simpa using this,rfl⟩
theorem ZIK{l:List Zaw}{n:Zap}(h:(Zmk l n).2=false):∀x∈l,x.fNet≠n:=by
 unfold Zmk at h;cases b:l.find? (fun x=>decide (x.fNet=n))with
 |none=>rw[List.find?_eq_none]at b;intro x hx;simpa using b x hx
 |some x=>rw[b]at h;cases h
theorem ZJd{l:List Zaw}(h:l.Pairwise fun x y=>x.fNet≠y.fNet){x y:Zaw}(hx:x∈l)(d:y∈l)(e:x.fNet=y.fNet):x=y:=by
 obtain⟨i,hi,rfl⟩:=List.getElem_of_mem hx;obtain⟨j,b,rfl⟩:=List.getElem_of_mem d;have hp:=List.pairwise_iff_getElem.1 h;rcases Nat.lt_trichotomy i j with h1|h1|h1
 .exact absurd e (hp i j hi b h1)
 .subst h1;rfl
 .exact absurd e.symm (hp j i b hi h1)
theorem ZsY{v:Bool}{a:Zaf}(b:a.fV6=v):∀{nd:Zav}{m:Nat}{f:Nat->Bool},ZoV v nd m f->m<=wid a+1->((ZbE nd).filter (cov a)).length+m<=wid a+1
 | .nil,m,f,_,h=>by simp[ZbE];exact h
 | .mk h has p t,m,f,u,A=>by
  obtain⟨g,y,z,j,o⟩:=u
  have b0:=fun x hx=>Zkd.1 (ZbS j x hx).2.2
  have b1:=fun x hx=>Zkd.1 (ZbS o x hx).2.2
  have B:wid h.fNet.fAddr=wid a:=by unfold wid;rw[y,b]
  have n1:=g.nn;have l1:=g.le;have gm:=z.1
  have i0:=ZsY b j (by omega)
  have i1:=ZsY b o (by omega)
  have D:((if has then[h]else[]).filter (cov a)).length<=1:=by
   split
   .exact List.length_filter_le _ _
   .simp
  have E:((ZbE p).filter (cov a)).length=0\/((ZbE t).filter (cov a)).length=0:=by
   cases hb:bitN a h.fNet.fBits.toNat with
   |false=>
    refine .inr ?_;rw[ZmV]
    .rfl
    .intro x hx;unfold cov;rw[decide_eq_false_iff_not];intro d;obtain⟨x1,x2,x3⟩:=b1 x hx;have:=d _ x1;rw[hb,x3]at this;cases this
   |true=>
    refine .inl ?_;rw[ZmV]
    .rfl
    .intro x hx;unfold cov;rw[decide_eq_false_iff_not];intro d;obtain⟨x1,x2,x3⟩:=b0 x hx;have:=d _ x1;rw[hb,x3]at this;cases this
  simp only[ZbE,List.filter_append,List.length_append];omega
theorem ZEh{t:ZaG}(h:GT t)(a:Zaf)(ha:a.ok):∃L,Zgu t a=some L/\L.length<=maxLen/\∀x,x∈L↔x∈ZiD t/\hasS x.fNet a=true:=by
 cases t with
 |nil=>exact h.elim
 |mk j o k=>
  simp only[Zgu,Zlt a ha,Option.bind_some,ZGV];cases g:Zet a
  .exact⟨[],rfl,by simp,fun x=>by simp[hasS,g]⟩
  .simp only[Bool.not_true,cond_false];have v:=ZuI a;have p:∀(A B:Option (List Zaw)),ix2 0 A B=A:=fun _ _=>rfl;have u:∀(A B:Option (List Zaw)),ix2 1 A B=B:=fun _ _=>rfl;have hs:∀x:Zaw,RN x.fNet->hasS x.fNet a=(decide (x.fNet.fAddr.fV6=a.fV6)&&cov a x):=fun x hx=>by
    unfold hasS cov;rw[(ZwW hx.ok).2 hx,g,Bool.true_and,Bool.true_and]
   cases d:a.fV6 with
   |false=>
    simp only[Bool.false_eq_true,if_false];rw[Zar (by omega),p,ZxD ha g d 1000000 j 0 f0 [] h.1 (fun i hi=>by omega) (by omega) (by omega) (by simp)];refine⟨_,rfl,by have:=ZsY d h.1 (by omega);unfold maxLen;simp only[List.nil_append];omega,fun x=>?_⟩;simp only[List.nil_append,List.mem_filter,ZiD,List.mem_append];constructor
    .rintro ⟨hx,b⟩;have:=ZbS h.1 x hx;rw[hs x this.1,this.2.1,d,b];exact⟨.inl hx,rfl⟩
    .rintro ⟨hx|hx,b⟩
     .have:=ZbS h.1 x hx;rw[hs x this.1,Bool.and_eq_true]at b;exact⟨hx,b.2⟩
     .have:=ZbS h.2 x hx;rw[hs x this.1,this.2.1,d]at b;simp at b
   |true=>
    simp only[if_true];rw[Zar (by omega),u,ZxD ha g d 1000000 o 0 f0 [] h.2 (fun i hi=>by omega) (by omega) (by omega) (by simp)];refine⟨_,rfl,by have:=ZsY d h.2 (by omega);unfold maxLen;simp only[List.nil_append];omega,fun x=>?_⟩;simp only[List.nil_append,List.mem_filter,ZiD,List.mem_append];constructor
    .rintro ⟨hx,b⟩;have:=ZbS h.2 x hx;rw[hs x this.1,this.2.1,d,b];exact⟨.inr hx,rfl⟩
    .rintro ⟨hx|hx,b⟩
     .have:=ZbS h.1 x hx;rw[hs x this.1,this.2.1,d]at b;simp at b
     .have:=ZbS h.2 x hx;rw[hs x this.1,Bool.and_eq_true]at b;exact⟨hx,b.2⟩
structure Idx (al:Int) (t:ZaG) (l:List Zae):Prop where
 gt:GT t
 from_:∀x∈ZiD t,∃b∈l,al<b.fUntil/\b.fNet=x.fNet/\b.fUntil=x.fV
 has:∀b∈l,al<b.fUntil->Zii b.fNet=true->∃x∈ZiD t,x.fNet=b.fNet/\b.fUntil<=x.fV
theorem Zyv{al:Int}{t:ZaG}{l:List Zae}{b:Zae}(h:Idx al t l)(hb:al<b.fUntil->Zii b.fNet=true->∃x∈ZiD t,x.fNet=b.fNet/\b.fUntil<=x.fV):Idx al t (l++[b]):=
 ⟨h.gt,fun x hx=>by obtain⟨c,d,g⟩:=h.from_ x hx;exact⟨c,by simp[d],g⟩,fun c hc d g=>by
  rcases List.mem_append.1 hc with hc|hc
  .exact h.has c hc d g
  .rw[List.mem_singleton]at hc;subst hc;exact hb d g⟩
theorem Zyu{al:Int}{t:ZaG}{l:List Zae}{b:Zae}(h:Idx al t l)(hb:b.fNet.fAddr.ok)(hl:al<b.fUntil)(cK:∀x∈ZiD t,x.fNet=b.fNet->x.fV<=b.fUntil):∃t',Zfc t b.fNet b.fUntil=some t'/\Idx al t' (l++[b]):=by
 cases j:Zii b.fNet with
 |true=>
  obtain⟨t',w1,w2,w3⟩:=ZFD h.gt b.fNet hb b.fUntil j;refine⟨t',w1,w2,fun x hx=>?_,fun c hc d g=>?_⟩
  .rcases(w3 x).1 hx with e|⟨hx,hne⟩
   .subst e;exact⟨b,by simp,hl,rfl,rfl⟩
   .obtain⟨c,d,g⟩:=h.from_ x hx;exact⟨c,by simp[d],g⟩
  .by_cases e:c.fNet=b.fNet
   .refine⟨⟨b.fNet,b.fUntil⟩,(w3 _).2 (.inl rfl),e.symm,?_⟩;rcases List.mem_append.1 hc with hc|hc
    .obtain⟨x,x1,x2,x3⟩:=h.has c hc d g;have:=cK x x1 (x2.trans e);simp only;omega
    .rw[List.mem_singleton]at hc;subst hc;exact Int.le_refl _
   .rcases List.mem_append.1 hc with hc|hc
    .obtain⟨x,x1,x2,x3⟩:=h.has c hc d g;exact⟨x,(w3 x).2 (.inr ⟨x1,fun q=>e (x2.symm.trans q)⟩),x2,x3⟩
    .rw[List.mem_singleton]at hc;subst hc;exact absurd rfl e
 |false=>
  refine⟨t,?_,Zyv h fun _ q=>by rw[j]at q;cases q⟩;cases t with
  |nil=>exact h.gt.elim
  |mk o p k=>
   simp only[Zfc,Zfs,ZoT b.fNet hb,j,Option.bind_some,Bool.not_false,cond_true]
theorem ZHE(b:Zae)(al:Int):ZpC b al=some (decide (al<b.fUntil)):=rfl
theorem ZET(l:List Zae)(al:Int)(hl:l.length<=maxLen)(aC:∀b∈l,b.ok):∀fu (i:Nat) (t:ZaG),i<=l.length->l.length-i<fu->Idx al t (l.take i)->∃t',ZdM al fu t l (l.length:Int) (i:Int)=some t'/\Idx al t' l:=by
 intro fu;induction fu with
 |zero=>intro _ _ _ h;omega
 |succ fu ih=>
  intro i t hi o h;simp only[ZdM,Zai];by_cases hlt:i<l.length
  .rw[if_pos (by omega),Zar ⟨by omega,by omega⟩];simp only[Int.toNat_natCast];have gK:=aC _ (ZeH l Zae.d i hlt);have dG:l.take (i+1)=l.take i++[l.getD i Zae.d]:=by rw[List.take_succ_eq_append_getElem hlt,ZbT l _ i hlt]
   generalize l.getD i Zae.d=b at gK dG ⊢;rw[ZCM h.gt b.fNet gK.1.1,ZHE];simp only[Option.bind_some];rw[add1 hlt hl];have next:∀t',Idx al t' (l.take i++[b])->∃t'',ZdM al fu t' l (l.length:Int) ((i+1:Nat):Int)=some t''/\Idx al t'' l:=fun t' ht'=>ih (i+1) t' (by omega) (by omega) (by rw[dG];exact ht')
   by_cases hlv:al<b.fUntil
   .rw[decide_eq_true hlv,cond_true];cases j:Zii b.fNet with
    |false=>
     simp only[Bool.false_eq_true,if_false,Bool.not_false,cond_true];obtain⟨t',s1,s2⟩:=Zyu h gK.1.1 hlv (fun x hx e=>by
      have:=(ZwW gK.1.1).2 (e ▸ ZzX h.gt x hx);rw[j]at this;cases this)
     rw[s1];exact next t' s2
    |true=>
     simp only[if_true];cases g:(Zmk (ZiD t) b.fNet).2 with
     |false=>
      simp only[Bool.not_false,cond_true];obtain⟨t',s1,s2⟩:=Zyu h gK.1.1 hlv (fun x hx e=>absurd e (ZIK g x hx));rw[s1];exact next t' s2
     |true=>
      simp only[Bool.not_true,cond_false];obtain⟨y,y1,y2,y3⟩:=ZGE g;by_cases hlt2:(Zmk (ZiD t) b.fNet).1<b.fUntil
      .rw[if_pos hlt2];obtain⟨t',s1,s2⟩:=Zyu h gK.1.1 hlv (fun x hx e=>by
        have:=ZJd (ZzY h.gt) hx y1 (e.trans y2.symm);rw[this];omega)
       rw[s1];exact next t' s2
      .rw[if_neg hlt2];exact next t (Zyv h fun _ _=>⟨y,y1,y2,by omega⟩)
   .rw[decide_eq_false hlv,cond_false];exact next t (Zyv h fun q=>absurd q hlv)
  .rw[if_neg (by omega)];refine⟨t,rfl,?_⟩;rw[List.take_of_length_le (by omega)]at h;exact h
theorem ZIJ(l:List Zae)(al:Int)(hl:l.length<=maxLen)(aC:∀b∈l,b.ok):∃t,ZlT l al=some t/\Idx al t l:=by
 have:=ZET l al hl aC ((((l.length:Nat):Int)-(0:Int)).toNat+2) 0 (.mk .nil .nil 0) (by omega) (by omega) ⟨⟨trivial,trivial⟩,fun x hx=>by simp[ZiD,ZbE]at hx,fun b hb=>by simp at hb⟩;simpa[ZlT,Zou]using this
def Zne(l:List Zae)(a:Zaf)(al:Int)(b:Zae):Prop:=b∈l/\al<b.fUntil/\hasS b.fNet a=true
def ZyX(l:List Zae)(a:Zaf)(al r:Int):Prop:=(r=0/\∀b,¬Zne l a al b)\/∃b,Zne l a al b/\r=b.fUntil/\∀c,Zne l a al c->c.fUntil<=r
theorem ZEN{l l':List Zae}{a:Zaf}{al r s:Int}(h:ZyX l a al r)(h':ZyX l' a al s)(e:∀b,Zne l a al b↔Zne l' a al b):r=s:=by
 rcases h with⟨j,o⟩|⟨b,j,o,t⟩
 .rcases h' with⟨d,g⟩|⟨c,d,g,p⟩
  .omega
  .exact absurd ((e c).2 d) (o c)
 .rcases h' with⟨d,g⟩|⟨c,d,g,p⟩
  .exact absurd ((e b).1 j) (g b)
  .have:=t c ((e c).2 d);have:=p b ((e b).1 j);omega
theorem ZIE(L:List Zaw)(hL:L.length<=maxLen):∀fu (i:Nat) (v:Int),i<=L.length->L.length-i<fu->∃r,ZgJ fu v L (L.length:Int) (i:Int)=some r/\v<=r/\(∀x∈L.drop i,x.fV<=r)/\(r=v\/∃x∈L.drop i,r=x.fV):=by
 intro fu;induction fu with
 |zero=>intro _ _ _ h;omega
 |succ fu ih=>
  intro i v hi p;simp only[ZgJ,Zai];by_cases h:i<L.length
  .rw[if_pos (by omega),Zar ⟨by omega,by omega⟩];simp only[Int.toNat_natCast];rw[add1 h hL,ZeQ L Zaw.d i h];generalize L.getD i Zaw.d=x;obtain⟨r,g,b,j,o⟩:=ih (i+1) (if x.fV>v then x.fV else v) (by omega) (by omega);refine⟨r,g,by split at b<;>omega,fun y hy=>?_,?_⟩
   .rcases List.mem_cons.1 hy with e|hy
    .subst e;split at b<;>omega
    .exact j y hy
   .rcases o with e|⟨y,y1,y2⟩
    .split at e
     .exact .inr ⟨x,by simp,e⟩
     .exact .inl e
    .exact .inr ⟨y,by simp[y1],y2⟩
  .rw[if_neg (by omega)];have:L.drop i=[]:=List.drop_eq_nil_of_le (by omega);exact⟨v,rfl,Int.le_refl _,by simp[this],.inl rfl⟩
theorem ZHW(l:List Zae)(a:Zaf)(al:Int)(hl:l.length<=maxLen)(aC:∀b∈l,b.ok)(ha:a.ok):∃r,ZiS l a al=some r/\ZyX l a al r:=by
 obtain⟨t,t1,t2⟩:=ZIJ l al hl aC;obtain⟨L,o,hL,c2⟩:=ZEh t2.gt a ha;simp only[ZiS,t1,o,Option.bind_some];have one:∀x∈L,∃b,Zne l a al b/\b.fUntil=x.fV:=fun x hx=>by
  obtain⟨x1,x2⟩:=(c2 x).1 hx;obtain⟨b,b1,b2,b3,b4⟩:=t2.from_ x x1;exact⟨b,⟨b1,b2,by rw[b3];exact x2⟩,b4⟩
 have ki:∀b,Zne l a al b->∃x∈L,b.fUntil<=x.fV:=fun b hb=>by
  have p:Zii b.fNet=true:=by have:=hb.2.2;unfold hasS at this;rw[Bool.and_eq_true]at this;exact this.1
  obtain⟨x,x1,x2,x3⟩:=t2.has b hb.1 hb.2.1 p;exact⟨x,(c2 x).2 ⟨x1,by rw[x2];exact hb.2.2⟩,x3⟩
 by_cases h0:L=[]
 .subst h0;refine⟨0,rfl,.inl ⟨rfl,fun b hb=>?_⟩⟩;obtain⟨x,hx,_⟩:=ki b hb;simp at hx
 .have lI:0<L.length:=List.length_pos_iff.2 h0;rw[show (((L.length:Nat):Int)==0)=false by rw[beq_eq_false_iff_ne];omega,cond_false,Zar ⟨by omega,by omega⟩];obtain⟨r,g,v,h,j⟩:=ZIE L hL ((((L.length:Nat):Int)-(0:Int)).toNat+2) 0 (L.getD (0:Int).toNat Zaw.d).fV (by omega) (by omega);simp only[Int.natCast_zero,List.drop_zero]at g h j;refine⟨r,g,.inr ?_⟩;have cD:∃x∈L,r=x.fV:=by
   rcases j with e|e
   .exact⟨_,ZeH L Zaw.d 0 lI,e⟩
   .exact e
  obtain⟨x,x1,x2⟩:=cD;obtain⟨b,b1,b2⟩:=one x x1;refine⟨b,b1,by omega,fun c u=>?_⟩;obtain⟨y,y1,y2⟩:=ki c u;have:=h y y1;omega
theorem Zyb(l:List Zae)(a:Zaf)(al:Int)(hl:l.length<=maxLen)(aC:∀b∈l,b.ok)(ha:a.ok):∀fu (i:Nat) (v:Int) (q:Bool),i<=l.length->l.length-i<fu ->
  ∃r,ZbP l al fu v q (i:Int) a=some r/\(∀b,Zne (l.drop i) a al b->b.fUntil<=r)/\(q=true->v<=r)/\(r=v\/∃b,Zne (l.drop i) a al b/\r=b.fUntil)/\(q=false->(∃b,Zne (l.drop i) a al b)->∃b,Zne (l.drop i) a al b/\r=b.fUntil):=by
 intro fu;induction fu with
 |zero=>intro _ _ _ _ h;omega
 |succ fu ih=>
  intro i v q hi o;simp only[ZbP,Zai];by_cases h:i<l.length
  .rw[if_pos (by omega),Zar ⟨by omega,by omega⟩];simp only[Int.toNat_natCast];have gK:=aC _ (ZeH l Zae.d i h);rw[add1 h hl,ZeQ l Zae.d i h];generalize l.getD i Zae.d=b at gK ⊢;have lJ:ZgF b a al=some (decide (al<b.fUntil)&&hasS b.fNet a):=by
    simp only[ZgF,ZIr _ _ gK.1.1 ha,Zai,gt_iff_lt,Option.bind_some];by_cases h:al<b.fUntil
    .rw[if_pos h,decide_eq_true h];rfl
    .rw[if_neg h,decide_eq_false h];rfl
   rw[lJ];simp only[Option.bind_some];have cE:∀c,Zne (l.drop (i+1)) a al c->Zne (b :: l.drop (i+1)) a al c:=fun c g=>⟨by simp[g.1],g.2⟩;cases p:(decide (al<b.fUntil)&&hasS b.fNet a)with
   |false=>
    simp only[cond_false];have bh:∀c,Zne (b :: l.drop (i+1)) a al c↔Zne (l.drop (i+1)) a al c:=fun c=>by
     refine⟨fun g=>⟨?_,g.2⟩,cE c⟩;rcases List.mem_cons.1 g.1 with e|hm
     .subst e;rw[decide_eq_true g.2.1,g.2.2]at p;cases p
     .exact hm
    obtain⟨r,u,y,z,t,A⟩:=ih (i+1) v q (by omega) (by omega);refine⟨r,u,fun c g=>y c ((bh c).1 g),z,?_,fun o hx=>?_⟩
    .rcases t with e|⟨c,j,c2⟩
     .exact .inl e
     .exact .inr ⟨c,cE c j,c2⟩
    .obtain⟨c,g⟩:=hx;obtain⟨d,d1,d2⟩:=A o ⟨c,(bh c).1 g⟩;exact⟨d,cE d d1,d2⟩
   |true=>
    simp only[cond_true];rw[Bool.and_eq_true,decide_eq_true_eq]at p;have hb:Zne (b :: l.drop (i+1)) a al b:=⟨by simp,p⟩
    -- what follows from a step that took b's,or something longer
    have step:∀v',b.fUntil<=v'->(q=true->v<=v')->(v'=b.fUntil\/(q=true/\v'=v))->∃r,ZbP l al fu v' true ((i+1:Nat):Int) a=some r/\(∀c,Zne (b :: l.drop (i+1)) a al c->c.fUntil<=r)/\(q=true->v<=r)/\(r=v\/∃c,Zne (b :: l.drop (i+1)) a al c/\r=c.fUntil)/\(q=false->(∃c,Zne (b :: l.drop (i+1)) a al c)->∃c,Zne (b :: l.drop (i+1)) a al c/\r=c.fUntil):=by
     intro v' G F B;obtain⟨r,u,y,z,t,A⟩:=ih (i+1) v' true (by omega) (by omega);have r3':=z rfl;refine⟨r,u,fun c g=>?_,fun dS=>by have:=F dS;omega,?_,fun o _=>?_⟩
     .rcases List.mem_cons.1 g.1 with e|hm
      .subst e;omega
      .exact y c ⟨hm,g.2⟩
     .rcases t with e|⟨c,j,c2⟩
      .rcases B with D|⟨_,D⟩
       .exact .inr ⟨b,hb,by omega⟩
       .exact .inl (by omega)
      .exact .inr ⟨c,cE c j,c2⟩
     .rcases t with e|⟨c,j,c2⟩
      .rcases B with D|⟨E,_⟩
       .exact⟨b,hb,by omega⟩
       .rw[o]at E;cases E
      .exact⟨c,cE c j,c2⟩
    cases q with
    |false=>
     rw[Bool.not_false,cond_true];exact step b.fUntil (Int.le_refl _) (fun h=>by cases h) (.inl rfl)
    |true=>
     rw[Bool.not_true,cond_false];by_cases hgt:b.fUntil>v
     .rw[if_pos hgt];exact step b.fUntil (Int.le_refl _) (fun _=>by omega) (.inl rfl)
     .rw[if_neg hgt];exact step v (by omega) (fun _=>Int.le_refl _) (.inr ⟨rfl,rfl⟩)
  .rw[if_neg (by omega)];have:l.drop i=[]:=List.drop_eq_nil_of_le (by omega);rw[this];exact⟨v,rfl,fun b hb=>by simp[Zne]at hb,fun _=>Int.le_refl _,.inl rfl,fun _ ⟨b,hb⟩=>by simp[Zne]at hb⟩
theorem ZBn(l:List Zae)(a:Zaf)(al:Int)(hl:l.length<=maxLen)(aC:∀b∈l,b.ok)(ha:a.ok):∃r,Zgg l a al=some r/\ZyX l a al r:=by
 obtain⟨r,d,g,p,j,o⟩:=Zyb l a al hl aC ha ((((l.length:Nat):Int)-(0:Int)).toNat+2) 0 0 false (by omega) (by omega);simp only[Int.natCast_zero,List.drop_zero]at d g j o;refine⟨r,d,?_⟩;by_cases h:∃b,Zne l a al b
 .obtain⟨b,b1,b2⟩:=o trivial h;exact .inr ⟨b,b1,b2,g⟩
 .refine .inl ⟨?_,fun b hb=>h ⟨b,hb⟩⟩;rcases j with e|⟨b,b1,_⟩
  .exact e
  .exact absurd ⟨b,b1⟩ h
def ZnG(b:Zae):Bool:=Zii b.fNet&&decide (1<=b.fUntil)&&decide (b.fUntil<=1099511627776)
theorem ZBo(b:Zae)(h:b.ok):Zgh b=some (ZnG b):=by
 simp only[Zgh,Ztk _ h.1.1,ZnG,Option.bind_some,Zai];cases Zii b.fNet
 .rfl
 .simp only[cond_true,Bool.true_and];by_cases d:1<=b.fUntil
  .rw[if_pos (by omega),decide_eq_true d];rfl
  .rw[if_neg (by omega),decide_eq_false d];rfl
def ZJr(l:List Zae):Prop:=(∀b∈l,ZnG b=true)/\l.Pairwise fun a b=>cmpN a.fNet b.fNet<0
theorem ZHx(l:List Zae):(∀j,0<=j->j<l.length->ZnG (l.getD j Zae.d)=true/\(0<j->cmpN (l.getD (j-1) Zae.d).fNet (l.getD j Zae.d).fNet<0))↔ZJr l:=by
 constructor
 .intro h;refine⟨fun b hb=>?_,Zol (R:=fun a b:Zae=>cmpN a.fNet b.fNet<0) (fun a b c o g=>ZFi o g) l fun i a b ha hb=>?_⟩
  .obtain⟨i,hi,rfl⟩:=List.getElem_of_mem hb;have:=(h i (by omega) hi).1;rwa [ZbT l _ i hi]at this
  .obtain⟨o,t⟩:=List.getElem?_eq_some_iff.1 ha;obtain⟨g,u⟩:=List.getElem?_eq_some_iff.1 hb;have:=(h (i+1) (by omega) g).2 (by omega);rw[Nat.add_sub_cancel,ZbT l _ i o,ZbT l _ (i+1) g,t,u]at this;exact this
 .rintro ⟨o,g⟩ j _ p;refine⟨o _ (ZeH l _ j p),fun h0=>?_⟩;rw[ZbT l _ j p,ZbT l _ (j-1) (by omega)];exact List.pairwise_iff_getElem.1 g (j-1) j (by omega) p (by omega)
theorem rr_in(l:List Zae)(hl:l.length<=maxLen)(v3:Nat)(u:v3<l.length)(k:Int->Option Bool):∀fu (i:Nat),i<=v3->v3-i<fu ->
  ((∀j,i<=j->j<v3->cmpN (l.getD j Zae.d).fNet (l.getD v3 Zae.d).fNet<0)/\Zci l (v3:Int) k fu (i:Int)=k ((v3+1:Nat):Int))\/((¬∀j,i<=j->j<v3->cmpN (l.getD j Zae.d).fNet (l.getD v3 Zae.d).fNet<0)/\Zci l (v3:Int) k fu (i:Int)=some false):=by
 intro fu;induction fu with
 |zero=>intro _ _ h;omega
 |succ fu ih=>
  intro i hi v;simp only[Zci,Zai,ZIp,Option.bind_some];by_cases h:i<v3
  .rw[if_pos (by omega),Zar ⟨by omega,by omega⟩,Zar ⟨by omega,by omega⟩];simp only[Int.toNat_natCast];by_cases p:cmpN (l.getD i Zae.d).fNet (l.getD v3 Zae.d).fNet>=0
   .rw[if_pos p];exact .inr ⟨fun q=>by have:=q i (Nat.le_refl _) h;omega,rfl⟩
   .rw[if_neg p,add1 (n:=l.length) (by omega) hl];rcases ih (i+1) (by omega) (by omega)with⟨g,o⟩|⟨g,o⟩
    .refine .inl ⟨fun j t b=>?_,o⟩;by_cases e:j=i
     .subst e;omega
     .exact g j (by omega) b
    .exact .inr ⟨fun q=>g fun j t b=>q j (by omega) b,o⟩
  .rw[if_neg (by omega),add1 u hl];exact .inl ⟨fun j t b=>by omega,rfl⟩
theorem ZKV(l:List Zae)(hl:l.length<=maxLen)(aC:∀b∈l,b.ok):∀fu (i:Nat),i<=l.length->l.length-i<fu ->
  ∃r,ZbI l fu (i:Int)=some r/\(r=true↔∀j,i<=j->j<l.length->ZnG (l.getD j Zae.d)=true/\∀q,0<=q->q<j->cmpN (l.getD q Zae.d).fNet (l.getD j Zae.d).fNet<0):=by
 intro fu;induction fu with
 |zero=>intro _ _ h;omega
 |succ fu ih=>
  intro i hi y;simp only[ZbI,Zai];by_cases h:i<l.length
  .rw[if_pos (by omega),Zar ⟨by omega,by omega⟩];simp only[Int.toNat_natCast];rw[ZBo _ (aC _ (ZeH l Zae.d i h))];simp only[Option.bind_some];obtain⟨r,u,v⟩:=ih (i+1) (by omega) (by omega);have more:(∀j,i<=j->j<l.length->ZnG (l.getD j Zae.d)=true/\∀q,0<=q->q<j->cmpN (l.getD q Zae.d).fNet (l.getD j Zae.d).fNet<0)↔(ZnG (l.getD i Zae.d)=true/\∀q,0<=q->q<i->cmpN (l.getD q Zae.d).fNet (l.getD i Zae.d).fNet<0)/\r=true:=by
    rw[v];constructor
    .intro q;exact⟨q i (Nat.le_refl _) h,fun j t p=>q j (by omega) p⟩
    .rintro ⟨o,g⟩ j t p;by_cases e:j=i
     .subst e;exact o
     .exact g j (by omega) p
   rw[more];cases hb:ZnG (l.getD i Zae.d)with
   |false=>exact⟨false,rfl,by simp⟩
   |true=>
    simp only[Bool.not_true,cond_false];rcases rr_in l hl i h (ZbI l fu) (((i:Int)-(0:Int)).toNat+2) 0 (by omega) (by omega)with⟨o,g⟩|⟨o,g⟩
    .have g:Zci l (i:Int) (ZbI l fu) (((i:Int)-(0:Int)).toNat+2) 0=ZbI l fu ((i+1:Nat):Int):=g;rw[g];exact⟨r,u,⟨fun q=>⟨⟨trivial,o⟩,q⟩,fun q=>q.2⟩⟩
    .have g:Zci l (i:Int) (ZbI l fu) (((i:Int)-(0:Int)).toNat+2) 0=some false:=g;rw[g];exact⟨false,rfl,by simp only[Bool.false_eq_true,false_iff];exact fun q=>o q.1.2⟩
  .rw[if_neg (by omega)];exact⟨true,rfl,by simp;intro j t p;omega⟩
theorem ZEx(l:List Zae)(hl:l.length<=maxLen)(aC:∀b∈l,b.ok):∃r,Zhu l=some r/\(r=true↔ZJr l):=by
 obtain⟨r,p,t⟩:=ZKV l hl aC ((((l.length:Nat):Int)-(0:Int)).toNat+2) 0 (by omega) (by omega);refine⟨r,p,t.trans ?_⟩;constructor
 .intro h;exact(ZHx l).1 fun j d g=>⟨(h j d g).1,fun h0=>(h j d g).2 (j-1) (by omega) (by omega)⟩
 .rintro ⟨d,g⟩ j _ o;refine⟨d _ (ZeH l _ j o),fun q _ u=>?_⟩;rw[ZbT l _ j o,ZbT l _ q (by omega)];exact List.pairwise_iff_getElem.1 g q j (by omega) o u
def u64r(x:Int):Prop:=0<=x/\x<=18446744073709551615
theorem ZoW(a:Int):u64r (IntKind.wrap .u64 a):=by
 unfold u64r;simp only[IntKind.wrap,IntKind.bits,IntKind.signed];simp;omega
theorem ZJn{a:Int}(h:u64r a):IntKind.wrap .u64 a=a:=Ziv h.1 h.2
theorem ZtJ{a:Int}(h:u64r a)(k:Int)(b:0<k):IntKind.wrap .u64 (Int.tdiv a k)=Int.fdiv a k:=by
 obtain⟨n,rfl⟩ : ∃n:Nat,a=n:=⟨a.toNat,by have:=h.1;omega⟩;obtain⟨m,rfl⟩ : ∃m:Nat,k=m:=⟨k.toNat,by omega⟩;have d:=h.2;rw[Int.fdiv_eq_tdiv_of_nonneg (by omega) (by omega)];refine ZJn ⟨Int.tdiv_nonneg (by omega) (by omega),?_⟩;have:Int.tdiv (n:Int) (m:Int)<=(n:Int):=by
  rw[<-Int.ofNat_tdiv];have:=Nat.div_le_self n m;omega
 omega
theorem pw30:(2:Int) ^ (min (30:Int).toNat (IntKind.bits .u64))=1073741824:=by decide
theorem pw27:(2:Int) ^ (min (27:Int).toNat (IntKind.bits .u64))=134217728:=by decide
theorem pw31:(2:Int) ^ (min (31:Int).toNat (IntKind.bits .u64))=2147483648:=by decide
theorem pw32:(2:Int) ^ (min (32:Int).toNat (IntKind.bits .u64))=4294967296:=by decide
theorem pw57:(2:Int) ^ (min (57:Int).toNat (IntKind.bits .u64))=144115188075855872:=by decide
theorem pw7:(2:Int) ^ (min (7:Int).toNat (IntKind.bits .u64))=128:=by decide
theorem ZBA(x:Int)(h:u64r x):∃y,ZmN x=some y/\ZeM x=some y/\u64r y:=by
 unfold ZmN ZeM;simp only[pw30,pw27,pw31,ZtJ h 1073741824 (by omega),ZtJ (ZoW _) 134217728 (by omega),ZtJ (ZoW _) 2147483648 (by omega)];exact⟨_,rfl,rfl,ZoW _⟩
theorem ZLa(a b:Nat)(ha:a<2 ^ 64)(hb:b<2 ^ 64):IntKind.u64.wrap (((BitVec.ofInt (IntKind.bits .u64) (a:Int)) ||| (BitVec.ofInt (IntKind.bits .u64) (b:Int))).toNat:Int)=((a |||b:Nat):Int):=by
 have d:∀c:Nat,c<2 ^ 64->(BitVec.ofInt 64 (c:Int)).toNat=c:=fun c g=>by
  rw[BitVec.ofInt_natCast,BitVec.toNat_ofNat];exact Nat.mod_eq_of_lt g
 have h:((BitVec.ofInt (IntKind.bits .u64) (a:Int)) ||| (BitVec.ofInt (IntKind.bits .u64) (b:Int))).toNat=a |||b:=by
  show (BitVec.ofInt 64 (a:Int) |||BitVec.ofInt 64 (b:Int)).toNat=a |||b;rw[BitVec.toNat_or,d a ha,d b hb]
 rw[h];have:=Nat.or_lt_two_pow ha hb;exact Ziv (by omega) (by omega)
theorem rot7(x:Int)(h:u64r x):Zey x 7=some (IntKind.wrap .u64 (IntKind.wrap .u64 (x * 128)+IntKind.wrap .u64 (Int.tdiv x 144115188075855872))):=by
 unfold Zey;have b:IntKind.wrap .u64 (((BitVec.ofInt (IntKind.bits .u64) (IntKind.wrap .u64 (7:Int))) &&& (BitVec.ofInt (IntKind.bits .u64) (63:Int))).toNat:Int)=7:=by decide
 have e57:IntKind.wrap .u64 ((64:Int)-7)=57:=by decide
 simp only[b,e57,pw57,pw7];rw[Zar (by omega),Zar (by omega),ZtJ h 144115188075855872 (by omega)];obtain⟨n,rfl⟩ : ∃n:Nat,x=n:=⟨x.toNat,by have:=h.1;omega⟩;have o:=h.2;have d:IntKind.wrap .u64 ((n:Int) * 128)=((n % 2 ^ 57 * 128:Nat):Int):=by
  simp only[IntKind.wrap,IntKind.bits,IntKind.signed];simp;omega
 have g:Int.fdiv (n:Int) 144115188075855872=((n / 2 ^ 57:Nat):Int):=by
  rw[Int.fdiv_eq_tdiv_of_nonneg (by omega) (by omega)];exact(Int.ofNat_tdiv n 144115188075855872).symm
 have hlt:n % 2 ^ 57 * 128<2 ^ 64:=by omega
 have hlt2:n / 2 ^ 57<2 ^ 7:=by omega
 rw[d,g,ZLa _ _ hlt (by omega)];have j:n % 2 ^ 57 * 128 |||n / 2 ^ 57=n % 2 ^ 57 * 128+n / 2 ^ 57:=by
  have:=Nat.shiftLeft_add_eq_or_of_lt hlt2 (n % 2 ^ 57);rw[Nat.shiftLeft_eq]at this;exact this.symm
 rw[j];congr 1;rw[Ziv (by omega) (by omega)];omega
theorem ZJx(k:Int)(l:List Int)(hl:l.length<=1000):∃h,ZqY k l=some h/\Zgz k l=some h/\u64r h:=by
 have hL:l.length<=maxLen:=by unfold maxLen;omega
 have aK:∀fu (i:Nat) (v:Int),u64r v->i<=l.length->l.length-i<fu->∃h,Zkb fu v l (l.length:Int) (i:Int)=some h/\ZdW l fu v (i:Int)=some h/\u64r h:=by
  intro fu;induction fu with
  |zero=>intro i v _ _ h;omega
  |succ fu ih=>
   intro i v g hi u;unfold Zkb ZdW;simp only[Zai];by_cases h:i<l.length
   .rw[if_pos (by omega),if_pos (by omega),Zar ⟨by omega,by omega⟩,Zar ⟨by omega,by omega⟩,rot7 v g];obtain⟨y,b,d,j⟩:=ZBA _ (ZoW ((l.getD ((i:Int)).toNat (0:Int))+(11400714819323198485:Int)));simp only[b,d,Option.bind_some];obtain⟨z,o,p,t⟩:=ZBA _ (ZoW (((BitVec.ofInt (IntKind.bits .u64) (IntKind.wrap .u64 (IntKind.wrap .u64 (v * 128)+IntKind.wrap .u64 (Int.tdiv v 144115188075855872)))) ^^^ (BitVec.ofInt (IntKind.bits .u64) y)).toNat:Int));simp only[o,p,Option.bind_some,add1 h hL];exact ih (i+1) z t (by omega) (by omega)
   .rw[if_neg (by omega),if_neg (by omega)];exact⟨v,rfl,rfl,g⟩
 unfold ZqY Zgz;obtain⟨y,b,d,j⟩:=ZBA _ (ZoW (k+(11400714819323198485:Int)));simp only[b,d,Option.bind_some];exact aK _ 0 y j (by omega) (by omega)
theorem ZBB(k:Int)(n:Zap):∃h,ZmO k n=some h/\Zeg k n=some h/\u64r h:=by
 unfold ZmO Zeg;cases n.fAddr.fV6
 .obtain⟨h,b,d,g⟩:=ZJx k [(4:Int),n.fAddr.fHi,n.fAddr.fLo,(IntKind.wrap .u64 n.fBits)] (by simp);simp only[cond_false,b,d,Option.bind_some];exact⟨h,rfl,rfl,g⟩
 .obtain⟨h,b,d,g⟩:=ZJx k [(6:Int),n.fAddr.fHi,n.fAddr.fLo,(IntKind.wrap .u64 n.fBits)] (by simp);simp only[cond_true,b,d,Option.bind_some];exact⟨h,rfl,rfl,g⟩
theorem ZJa(h n:Int)(b:u64r h)(d:1<=n)(u:n<=8):∃r,ZmP h n=some r/\Zgi h n=some r/\0<=r/\r<n:=by
 unfold ZmP Zgi;simp only[Zai,pw32];rw[if_neg (by omega),if_neg (by omega),if_neg (by omega),if_neg (by omega),ZtJ b 4294967296 (by omega),ZtJ (ZoW _) 4294967296 (by omega)];refine⟨_,rfl,rfl,?_⟩;obtain⟨a,rfl⟩ : ∃a:Nat,h=a:=⟨h.toNat,by have:=b.1;omega⟩;have g:=b.2;have j:Int.fdiv (a:Int) 4294967296=((a / 4294967296:Nat):Int):=by
  rw[Int.fdiv_eq_tdiv_of_nonneg (by omega) (by omega)];exact(Int.ofNat_tdiv a 4294967296).symm
 rw[j,ZJn (a:=n) ⟨by omega,by omega⟩];have hb:∀m:Nat,1<=m->m<=8->a / 4294967296*m<4294967296*m:=fun m d g=>by
  have:a / 4294967296<4294967296:=by omega
  exact Nat.mul_lt_mul_of_pos_right this (by omega)
 obtain⟨m,rfl⟩ : ∃m:Nat,n=m:=⟨n.toNat,by omega⟩;have hb:=hb m (by omega) (by omega);generalize o:a / 4294967296*m=q at hb;have p:((a / 4294967296:Nat):Int)*(m:Int)=(q:Int):=by rw[<-o];simp
 rw[p,Ziv (a:=(q:Int)) (by omega) (by omega)];have t:Int.fdiv (q:Int) 4294967296=((q / 4294967296:Nat):Int):=by
  rw[Int.fdiv_eq_tdiv_of_nonneg (by omega) (by omega)];exact(Int.ofNat_tdiv q 4294967296).symm
 rw[t,Zmp (by omega) (by omega)];omega
theorem ZEM{a:Zaf}(h:Fits a):Zka a (wid a)=a:=by
 refine Ztc (Zkf h _) h (ZiZ a _) fun i hi=>?_;have b:wid (Zka a (wid a))=wid a:=by unfold wid;rw[ZiZ]
 rw[b]at hi;rw[ZlF h (wid a) i (Nat.le_refl _) hi,decide_eq_true hi,Bool.true_and]
def ZGT(a:Zaf):Zap:=if Zet a=true then⟨a,(wid a:Int)⟩else⟨⟨false,0,0⟩,0⟩
theorem ZHv(a:Zaf)(h:a.ok):ZmU a=some (ZGT a):=by
 unfold ZmU ZGT;simp only[ZCy,Option.bind_some,ZBD a h];by_cases b:Zet a=true
 .rw[if_pos ⟨b,by omega,by omega⟩,if_pos b];simp only[Int.toNat_natCast,ZEM (ZpE h b)]
 .rw[if_neg (fun x=>b x.1),if_neg b]
theorem ZIV(hi lo:Nat)(d:hi<2 ^ 64)(g:lo<2 ^ 64):∀fu (i:Nat) (z:Int),i<=64->64-i<fu->(i<64->z=((2 ^ (63-i):Nat):Int)) ->
  ZbL (hi:Int) (lo:Int) 128 fu ((hi-hi % 2 ^ (64-i):Nat):Int) ((lo-lo % 2 ^ (64-i):Nat):Int) z (i:Int)=some ((hi:Int),(lo:Int)):=by
 intro fu;induction fu with
 |zero=>intro i z _ h;omega
 |succ fu ih=>
  intro i z hi64 y b;unfold ZbL;simp only[Zai];by_cases h:i<64
  .have t:Zan (i:Int) 64=((i+64:Nat):Int):=by rw[Zcs (by omega) (by omega)];omega
   have u:Zan (i:Int) 1=((i+1:Nat):Int):=by rw[Zcs (by omega) (by omega)];omega
   have b:=b h;obtain⟨p,hp⟩ : ∃p:Nat,p=2 ^ (63-i):=⟨_,rfl⟩;have hp0:0<p:=by rw[hp];exact Nat.two_pow_pos _
   have bg:2 ^ (64-i)=2*p:=by rw[hp,show 64-i=(63-i)+1 by omega,Nat.pow_succ];omega
   have hp3:p<=2 ^ 63:=by rw[hp];exact Nat.pow_le_pow_right (by omega) (by omega)
   have bm:p<2 ^ 64:=by omega
   rw[<-hp]at b;subst b;have jT:IntKind.wrap .u64 (Int.tdiv (p:Int) 2)=((p / 2:Nat):Int):=by
    rw[ZtJ ⟨by omega,by omega⟩ 2 (by omega),Int.fdiv_eq_tdiv_of_nonneg (by omega) (by omega)];exact(Int.ofNat_tdiv p 2).symm
   have cM:i+1<64->((p / 2:Nat):Int)=((2 ^ (63-(i+1)):Nat):Int):=fun j=>by
    have:p=2 * 2 ^ (63-(i+1)):=by rw[hp,show 63-i=(63-(i+1))+1 by omega,Nat.pow_succ];omega
    rw[this];congr 1;omega
   have bit:∀n:Nat,n<2 ^ 64->IntKind.wrap .u64 (Int.tdiv (n:Int) (p:Int))=((n / p:Nat):Int):=fun n v=>by
    rw[ZtJ ⟨by omega,by omega⟩ _ (by omega),Int.fdiv_eq_tdiv_of_nonneg (by omega) (by omega)];exact(Int.ofNat_tdiv n p).symm
   have step:∀n:Nat,n<2 ^ 64->(n / p % 2=1->IntKind.wrap .u64 (((n-n % 2 ^ (64-i):Nat):Int)+(p:Int))=((n-n % 2 ^ (64-(i+1)):Nat):Int))/\(n / p % 2≠1->((n-n % 2 ^ (64-i):Nat):Int)=((n-n % 2 ^ (64-(i+1)):Nat):Int)):=fun n v=>by
    have e:2 ^ (64-(i+1))=p:=by rw[hp];congr 1;omega
    rw[e,bg];have o:n % (2*p)=n % p+p*(n / p % 2):=by rw[Nat.mul_comm 2 p];exact Nat.mod_mul
    have hm2:n % p<p:=Nat.mod_lt _ hp0;have hm3:n % (2*p)<=n:=Nat.mod_le _ _;refine⟨fun hb=>?_,fun hb=>?_⟩
    .rw[hb,Nat.mul_one]at o;rw[Ziv (by omega) (by omega)];omega
    .have ce:n / p % 2=0:=by omega
     rw[ce,Nat.mul_zero]at o;rw[o];congr 1
   have tm:∀n:Nat,((Int.tmod ((n:Nat):Int) 2)==(1:Int))=decide (n % 2=1):=fun n=>by
    have:Int.tmod ((n:Nat):Int) 2=((n % 2:Nat):Int):=(Int.ofNat_tmod n 2).symm;rw[this];by_cases j:n % 2=1
    .rw[j];rfl
    .rw[decide_eq_false j];exact beq_false_of_ne (by omega)
   have fK:∀v8:Int,v8=((hi-hi % 2 ^ (64-(i+1)):Nat):Int)->ZdJ (hi:Int) (lo:Int) 128 ((lo-lo % 2 ^ (64-i):Nat):Int) (p:Int) (i:Int) (ZbL (hi:Int) (lo:Int) 128 fu) v8=some ((hi:Int),(lo:Int)):=by
    rintro v8 rfl;unfold ZdJ;simp only[Zai,t,u,jT,bit lo g,tm];rw[if_pos (by omega),Zar (by omega)];by_cases hb:lo / p % 2=1
    .rw[if_pos hb,(step lo g).1 hb];exact ih (i+1) _ (by omega) (by omega) cM
    .rw[if_neg hb,(step lo g).2 hb];exact ih (i+1) _ (by omega) (by omega) cM
   rw[if_pos (by omega),if_pos (by omega),Zar (by omega)];simp only[bit hi d,tm,Zai];by_cases hb:hi / p % 2=1
   .rw[if_pos hb];exact fK _ ((step hi d).1 hb)
   .rw[if_neg hb];exact fK _ ((step hi d).2 hb)
  .have:i=64:=by omega
   subst this;rw[if_neg (by omega)];simp[Nat.mod_one]
theorem ZFZ(hi lo:Nat)(b:hi<2 ^ 64)(d:lo<2 ^ 64):Zeh (hi:Int) (lo:Int) 128=some ((hi:Int),(lo:Int)):=by
 unfold Zeh;have:=ZIV hi lo b d 66 0 9223372036854775808 (by omega) (by omega) (fun _=>by decide);have g:hi-hi % 2 ^ (64-0)=0:=by rw[Nat.sub_zero,Nat.mod_eq_of_lt b];omega
 have h:lo-lo % 2 ^ (64-0)=0:=by rw[Nat.sub_zero,Nat.mod_eq_of_lt d];omega
 rw[g,h]at this;exact this
theorem ZIn(a:Zaf)(h:a.ok):ZgG a=some (ZGT a):=by
 unfold ZgG Zie ZGT;simp only[Zum,Option.bind_some,Zmy a h,Zai];by_cases d:Zet a=true
 .rw[d,Bool.not_true,cond_false,if_neg (by omega),if_neg (by omega),if_pos rfl];unfold Zid Zfo Zfn;simp only[Zmy a h,d,Bool.not_true,cond_false,Option.bind_some,Zai,Zum];rw[if_neg (by omega),if_neg (by omega)];have b:=ZpE h d;obtain⟨v6,hi,lo⟩:=a;have o:=b.hi0;have p:=b.hi1;have t:=b.lo0;have u:=b.lo1;simp only at o p t u;obtain⟨x,rfl⟩ : ∃x:Nat,hi=x:=⟨hi.toNat,by omega⟩;obtain⟨y,rfl⟩ : ∃y:Nat,lo=y:=⟨lo.toNat,by omega⟩;cases v6
  .have j:=b.v4 rfl;have e:wid ⟨false,(x:Int),(y:Int)⟩=32:=rfl;have v:Zan (96:Int) ((32:Nat):Int)=128:=by decide
   simp only[e,v,cond_false];have:=ZFZ 0 y (by omega) (by omega);have g:Zeh (0:Int) (y:Int) 128=some (((0:Nat):Int),(y:Int)):=this;rw[g,Option.bind_some];simp only at j;simp[j.1]
  .have e:wid ⟨true,(x:Int),(y:Int)⟩=128:=rfl;simp only[e,cond_true];have:=ZFZ x y (by omega) (by omega);have g:Zeh (x:Int) (y:Int) ((128:Nat):Int)=some ((x:Int),(y:Int)):=this;rw[g,Option.bind_some];rfl
 .simp[d]
def Zmj(a:Zaf)(s n:Int):Int:=(Zlo a s n).getD 0
def ZmB(p:Int):Int:=if p<1 then 1 else if p>8 then 8 else p
theorem Zsf(a:Zaf)(h:a.ok)(s n:Int):Zlo a s n=some (Zmj a s n)/\Zgy a s n=some (Zmj a s n)/\0<=Zmj a s n/\Zmj a s n<ZmB n:=by
 have g:ZkA n=some (ZmB n):=by
  unfold ZkA ZmB;congr 1
  repeat' split
  all_goals omega
 have j:Zdu n=some (ZmB n):=by
  unfold Zdu ZmB;simp only[Zai]
  repeat' split
  all_goals rfl
 have b:1<=ZmB n/\ZmB n<=8:=by
  unfold ZmB
  repeat' split
  all_goals omega
 obtain⟨m,o,p,t⟩:=ZBB s (ZGT a);obtain⟨r,u,v,y,z⟩:=ZJa m (ZmB n) t b.1 b.2;have d:Zlo a s n=some r:=by
  unfold Zlo;simp only[ZHv a h,o,g,u,Option.bind_some]
 have A:Zgy a s n=some r:=by
  unfold Zgy;simp only[ZIn a h,p,j,v,Option.bind_some]
 have B:Zmj a s n=r:=by unfold Zmj;rw[d];rfl
 rw[B];exact⟨d,A,y,z⟩
def grp(a:Zaf):Zap:=if Zet a then(if a.fV6 then⟨⟨true,a.fHi-a.fHi % 4294967296,0⟩,32⟩else⟨⟨false,0,a.fLo-a.fLo % 65536⟩,16⟩)else⟨⟨false,0,0⟩,0⟩
theorem top16:Zfy 16=some 18446462598732840960:=by decide +kernel
theorem top32:Zfy 32=some 18446744069414584320:=by decide +kernel
theorem topm:Zfy (Zbd 32 64)=some 0:=by decide +kernel
theorem ZDS(n k:Nat)(g:k<=64)(h:n<2 ^ 64):n &&& (2 ^ 64-2 ^ k)=n-n % 2 ^ k:=by
 have b:n-n % 2 ^ k=2 ^ k*(n / 2 ^ k):=by have:=Nat.div_add_mod n (2 ^ k);omega
 rw[b];apply Nat.eq_of_testBit_eq;intro i;have d:2 ^ 64-2 ^ k=2 ^ k*(2 ^ (64-k)-1):=by
  rw[Nat.mul_sub,<-Nat.pow_add,Nat.mul_one];congr 2;omega
 rw[Nat.testBit_and,d,Nat.testBit_two_pow_mul,Nat.testBit_two_pow_mul,Nat.testBit_two_pow_sub_one,Nat.testBit_div_two_pow];by_cases hi:k<=i
 .by_cases j:i<64
  .simp[hi,show i-k<64-k by omega,show i-k+k=i by omega]
  .have:n.testBit i=false:=Nat.testBit_lt_two_pow (Nat.lt_of_lt_of_le h (Nat.pow_le_pow_right (by omega) (by omega)));simp[hi,this,show i-k+k=i by omega]
 .simp[hi]
theorem ZLz(n:Nat)(h:n<4294967296):n &&& 4294901760=n-n % 65536:=by
 have b:=ZDS n 16 (by omega) (by omega);have d:n &&& 4294901760=n &&& (2 ^ 64-2 ^ 16):=by
  apply Nat.eq_of_testBit_eq;intro i;rw[Nat.testBit_and,Nat.testBit_and];by_cases hi:i<32
  .congr 1;have:∀i:Fin 32,Nat.testBit 4294901760 i.val=Nat.testBit (2 ^ 64-2 ^ 16) i.val:=by decide
   exact this ⟨i,hi⟩
  .have:n.testBit i=false:=Nat.testBit_lt_two_pow (Nat.lt_of_lt_of_le h (Nat.pow_le_pow_right (n:=2) (by omega) (show 32<=i by omega)));rw[this];rfl
 rw[d,b]
theorem ZCA(a b:Nat)(ha:a<2 ^ 64)(hb:b<2 ^ 64):IntKind.u64.wrap (((BitVec.ofInt (IntKind.bits .u64) (a:Int)) &&& (BitVec.ofInt (IntKind.bits .u64) (b:Int))).toNat:Int)=((a &&& b:Nat):Int):=by
 rw[ZCz a b ha hb];have:a &&& b<2 ^ 64:=Nat.and_lt_two_pow _ hb;exact Ziv (by omega) (by omega)
theorem Zuw(a:Zaf)(h:a.ok):Zis a=some (grp a):=by
 have t:=Zlt a h;obtain⟨v,hi,lo⟩:=a;obtain⟨_,d,g,_⟩:=h;have d:=ZnR d;have g:=ZnR g;simp only at d g;obtain⟨n,u⟩:=ZmE d.1;obtain⟨m,y⟩:=ZmE g.1;subst u y;cases j:Zet ⟨v,n,m⟩with
 |false=>
  cases v<;>simp[Zis,Zki,ZfT,t,j,grp]
 |true=>
  cases v with
  |false=>
   have z:(n:Int)=0/\(m:Int)<4294967296:=by simpa[Zet]using j
   have o:(m &&& 4294901760:Nat)=m-m % 65536:=ZLz m (by omega);have b:=ZCA m 4294901760 (by omega) (by omega);rw[o]at b;have p:Int.fdiv (18446462598732840960:Int) (2 ^ (min (32:Int).toNat (IntKind.bits .u64)))=((4294901760:Nat):Int):=by decide +kernel
   simp only[Zis,Zki,ZfT,t,j,Option.bind_some,cond_false,Bool.not_true,Zeb,Zig,Bool.not_false,cond_true,grp,if_true,Bool.false_eq_true,if_false];simp only[show (decide ((16:Int)<0))=false from rfl,show decide ((16:Int)>32)=false from rfl,cond_false,Option.bind_some];rw[show (if(32:Int)<(if(0:Int)>16 then(0:Int)else 16)then(32:Int)else(if(0:Int)>16 then(0:Int)else 16))=16 from rfl,top16];simp only[Option.bind_some,p,b,z.1];congr 4;omega
  |true=>
   have b:=ZCA n 18446744069414584320 (by omega) (by omega);have o:=ZDS n 32 (by omega) (by omega);rw[show (2:Nat) ^ 64-2 ^ 32=18446744069414584320 from rfl,show (2:Nat) ^ 32=4294967296 from rfl]at o;rw[o]at b;have p:=ZCA m 0 (by omega) (by omega);rw[Nat.and_zero]at p;simp only[Zis,Zki,ZfT,t,j,Option.bind_some,cond_false,Bool.not_true,Zeb,Zig,Bool.not_false,cond_true,grp,if_true,Bool.false_eq_true,if_false];simp only[show (decide ((32:Int)<0))=false from rfl,show decide ((32:Int)>128)=false from rfl,cond_false,Option.bind_some];rw[show (if(128:Int)<(if(0:Int)>32 then(0:Int)else 32)then(128:Int)else(if(0:Int)>32 then(0:Int)else 32))=32 from rfl];simp only[ZkR,top32,topm,Option.bind_some];simp only[show ((18446744069414584320:Int))=((18446744069414584320:Nat):Int)from rfl,show (0:Int)=((0:Nat):Int)from rfl,b,p];congr 4;omega
theorem ZCV(a:Zaf)(h:a.ok):Zdr a=some (grp a):=by
 have g:=Zmy a h;obtain⟨v,hi,lo⟩:=a;obtain⟨_,b,d,_⟩:=h;have b:=ZnR b;have d:=ZnR d;simp only at b d;have t1:Int.tmod hi 4294967296=hi % 4294967296:=Int.tmod_eq_emod_of_nonneg b.1;have t2:Int.tmod lo 65536=lo % 65536:=Int.tmod_eq_emod_of_nonneg d.1;cases j:Zet ⟨v,hi,lo⟩with
 |false=>simp[Zdr,g,j,grp]
 |true=>
  cases v with
  |false=>
   simp only[Zdr,g,j,Option.bind_some,cond_false,Bool.not_true,grp,if_true,Bool.false_eq_true,if_false,t2];rw[Ziv (by omega) (by omega)]
  |true=>
   simp only[Zdr,g,j,Option.bind_some,cond_false,Bool.not_true,grp,if_true,cond_true,t1];rw[Ziv (by omega) (by omega)]
def ZoZ:Zaa:=⟨⟨⟨false,0,0⟩,0⟩,false,0,⟨0,0⟩,0,0⟩
def valZ:Zag:=⟨0,ZoZ,[],[]⟩
def locZ:Zay:=⟨0,0,0⟩
def opZ:ZaK:=⟨0,0,locZ,0,0,valZ,false⟩
def endZ:Zal:=⟨⟨false,0,0⟩,0⟩
def repZ:Zau:=⟨0,endZ,0,0,[]⟩
def locN(l:Zay):Zay:=if l.fKind=1\/l.fKind=2\/l.fKind=3\/l.fKind=4 then⟨l.fKind,0,0⟩else if l.fKind=5 then⟨l.fKind,l.fShard,0⟩else if l.fKind=6 then l else locZ
def valN(k:Int)(v:Zag):Zag:=if k=1\/k=2\/k=5 then⟨v.fN,ZoZ,[],[]⟩else if k=3 then⟨0,ZoZ,v.fBans,[]⟩else if k=4 then⟨0,ZoZ,[],v.fBook⟩else if k=6 then⟨0,v.fPeer,[],[]⟩else valZ
def opN(o:ZaK):ZaK:=if o.fKind=1\/o.fKind=2\/o.fKind=3\/o.fKind=4 then⟨o.fKind,o.fLock,locZ,0,0,valZ,o.fMark⟩else if o.fKind=5 then⟨o.fKind,0,locN o.fLoc,0,0,valZ,o.fMark⟩else if o.fKind=6 then⟨o.fKind,0,locN o.fLoc,0,0,valN o.fLoc.fKind o.fVal,o.fMark⟩else if o.fKind=7 then⟨o.fKind,0,locN o.fLoc,o.fOld,o.fNew,valZ,o.fMark⟩else if o.fKind=8 then⟨o.fKind,0,locZ,0,0,valZ,o.fMark⟩else opZ
theorem ZfN(a b:Int){α:Type}(x y:α):(bif a==b then x else y)=if a=b then x else y:=by
 by_cases h:a=b
 .subst h;simp
 .rw[if_neg h,beq_false_of_ne h];rfl
theorem ZEB(l:Zay):Zlp l=some (locN l):=by
 obtain⟨k,s,t⟩:=l;unfold Zlp Zia locN;simp only[ZfN]
 repeat' split
 all_goals first|rfl | (simp_all [locZ];done) | (exfalso;omega)
theorem ZEg(k:Int)(v:Zag):Zoy k v=some (valN k v):=by
 unfold Zoy Zjj valN;simp only[ZfN]
 repeat' split
 all_goals first|rfl | (simp_all [valZ,ZoZ];done) | (exfalso;omega)
theorem ZFj(o:ZaK):Zoz o=some (opN o):=by
 unfold Zoz Zib opN;simp only[ZfN,ZEB,ZEg,Option.bind_some]
 repeat' split
 all_goals first|rfl | (simp_all [opZ,locZ,valZ,ZoZ];done) | (exfalso;omega)
theorem ZaJ{α β:Type}(x:α)(f:α->Option β):(some x).bind f=f x:=by simp
theorem ZKH(o:ZaK):Zcv ⟨[]⟩ o=some (.pan (opN o)):=by
 simp[Zcv,ZFj]
theorem ZJb(v:Zag)(r:List Zag)(o:ZaK):Zcv ⟨v :: r⟩ o=some (.ret v ⟨r⟩):=by
 have h:(((v :: r).length:Nat):Int)≠0:=by simp only[List.length_cons];omega
 unfold Zcv;simp only[ZfN,if_neg h];rw[Zar (by simp only[List.length_cons];omega),Zar (by simp only[List.length_cons];omega)];rfl
section
variable {aY:List Zag} (hL:aY.length<=1000000) {a:Nat} (ha:a<=aY.length)
include hL ha
end
end Go.Proofs.YtmnloegcpaahcaaGreat
