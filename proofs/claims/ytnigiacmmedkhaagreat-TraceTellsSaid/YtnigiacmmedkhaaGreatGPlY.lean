import Derived.Test.YtnigiacmmedkhaaGreatGPlA
import Derived.Test.YtnigiacmmedkhaaGreatGTrcA9
namespace Go.Proofs.YtnigiacmmedkhaaGreat
set_option linter.unusedSimpArgs false
set_option linter.unusedVariables false
theorem Zut(a b:Int):ZdS a b=some (cmpI a b):=by
 simp only[ZdS,Zmb,cmpI,bne_self_eq_false,Option.bind_some,cond_false];by_cases d:a<b<;>by_cases e:a>b<;>simp[d,e]<;>omega
theorem ZKI(a b:Int):Zgg a b=some (cmpI a b):=by
 simp only[Zgg,Zkv,cmpI,bne_self_eq_false,Option.bind_some,cond_false];by_cases d:a<b<;>by_cases e:a>b<;>simp[d,e]<;>omega
theorem or2(a b:Int):Zhl [a,b]=some (orI a b):=by
 unfold Zhl orI;simp only[List.length_cons,List.length_nil];rw[show (((0+1+1:Nat):Int)-0).toNat+2=4 from rfl];simp only[Zkw,show Zau 0 1=1 from rfl,show Zau 1 1=2 from rfl];simp only[Bool.cond_eq_ite,bne_iff_ne,ne_eq,ite_not,need];by_cases d:a=0<;>by_cases e:b=0<;>simp[d,e]
theorem or3(a b c:Int):Zhl [a,b,c]=some (orI a (orI b c)):=by
 unfold Zhl orI;simp only[List.length_cons,List.length_nil];rw[show (((0+1+1+1:Nat):Int)-0).toNat+2=5 from rfl];simp only[Zkw,show Zau 0 1=1 from rfl,show Zau 1 1=2 from rfl,show Zau 2 1=3 from rfl];simp only[Bool.cond_eq_ite,bne_iff_ne,ne_eq,ite_not,need];by_cases d:a=0<;>by_cases e:b=0<;>by_cases g:c=0<;>simp[d,e,g]
theorem ZNq(a b:Zaf):ZnB a b=some (cmpA a b):=by
 have d:∀c,ZlJ c=some (famA c):=fun c=>by unfold ZlJ famA;cases c.fV6<;>rfl
 simp only[ZnB,d,Zut,ZKI,or3,Option.bind_some,cmpA]
theorem ZFD{a b:Int}:orI a b<0↔a<0\/(a=0/\b<0):=by unfold orI;constructor<;>intro h<;>(repeat' split at *)<;>omega
theorem ZFE{a b:Int}:0<orI a b↔0<a\/(a=0/\0<b):=by unfold orI;constructor<;>intro h<;>(repeat' split at *)<;>omega
theorem ZFC{a b:Int}:orI a b=0↔a=0/\b=0:=by unfold orI;constructor<;>intro h<;>(repeat' split at *)<;>omega
theorem ZPm{a b:Zaf}:famA a=famA b↔a.fV6=b.fV6:=by unfold famA;cases a.fV6<;>cases b.fV6<;>simp
theorem ZKL{a b:Zaf}:cmpA a b<0↔famA a<famA b\/(famA a=famA b/\(a.fHi<b.fHi\/(a.fHi=b.fHi/\a.fLo<b.fLo))):=by simp only[cmpA,ZFD,ZxP,Zmg]
theorem ZPv{a b:Zaf}:0<cmpA a b↔famA b<famA a\/(famA a=famA b/\(b.fHi<a.fHi\/(a.fHi=b.fHi/\b.fLo<a.fLo))):=by simp only[cmpA,ZFE,ZxQ,Zmg]
theorem ZrO{a b:Zaf}:cmpA a b=0↔a=b:=by
 simp only[cmpA,ZFC,Zmg,ZPm];obtain⟨v,d,lo⟩:=a;obtain⟨v',co,jA⟩:=b;simp
theorem Zwn{a b c:Zaf}(d:cmpA a b<0)(e:cmpA b c<0):cmpA a c<0:=by
 rw[ZKL]at *
 omega
theorem ZKK{a b:Zaf}:0<cmpA a b↔cmpA b a<0:=by
 rw[ZPv,ZKL];constructor<;>intro h<;>omega
theorem ZPt{a b:Zav}:cmpN a b<0↔cmpA a.fAddr b.fAddr<0\/(a.fAddr=b.fAddr/\a.fBits<b.fBits):=by simp only[cmpN,ZFD,ZxP,ZrO]
theorem ZHN{a b c:Zav}(d:cmpN a b<0)(e:cmpN b c<0):cmpN a c<0:=by
 rw[ZPt]at *
 rcases d with d|⟨d,g⟩<;>rcases e with e|⟨e,i⟩
 .exact .inl (Zwn d e)
 .exact .inl (e ▸ d)
 .exact .inl (d ▸ e)
 .exact .inr ⟨d.trans e,by omega⟩
theorem ZjE{a:Int}(h:0<=a):∃n:Nat,a=n:=⟨a.toNat,by omega⟩
def Zdo(a:Zaf):Bool:=if a.fV6 then !(decide (a.fHi=0)&&decide (a.fLo / 4294967296=65535))else decide (a.fHi=0)&&decide (a.fLo<4294967296)
theorem ZQa(n:Nat)(h:n<=18446744073709551615):IntKind.u32.wrap (IntKind.u64.wrap (((BitVec.ofInt (IntKind.bits .u64) (n:Int)) &&& (BitVec.ofInt (IntKind.bits .u64) (4294967295:Int))).toNat:Int))=((n % 4294967296:Nat):Int):=by
 have:=ZEJ n 4294967295 (by omega) (by omega);rw[show ((4294967295:Nat):Int)=(4294967295:Int)from rfl]at this;rw[this,show (4294967295:Nat)=2 ^ 32-1 from rfl,Nat.and_two_pow_sub_one_eq_mod];rw[show (2:Nat) ^ 32=4294967296 from rfl];have d:n % 4294967296<4294967296:=Nat.mod_lt _ (by omega);rw[ZgS (by omega) (by omega)];simp only[IntKind.wrap,IntKind.bits,IntKind.signed];simp
theorem ZPI(n:Nat)(h:n<4294967296):Zrz ((n:Nat):Int)=some ⟨false,0,n⟩:=by
 unfold Zrz;rw[ZgS (by omega) (by omega)]
theorem Zom(a:Zaf)(h:a.ok):Zjf a=some (Zdo a):=by
 obtain⟨v,r,lo⟩:=a;obtain⟨_,e,d,_⟩:=h;have e:=Zjy e;have d:=Zjy d;simp only at e d;obtain⟨n,rfl⟩:=ZjE d.1;have j:=ZQa n (by omega);have hlt:n % 4294967296<4294967296:=Nat.mod_lt _ (by omega);have t:Int.fdiv (n:Int) (2 ^ (min (32:Int).toNat (IntKind.bits .u64)))=(n:Int) / 4294967296:=by
  rw[show (2:Int) ^ (min (32:Int).toNat (IntKind.bits .u64))=4294967296 from rfl,Int.fdiv_eq_ediv_of_nonneg _ (by omega)]
 cases v with
 |true=>
  simp only[Zjf,ZBu,Zdo,cond_true,t,j];have hb:∀(p q:Int),(p==q)=decide (p=q):=fun p q=>by rw[Bool.eq_iff_iff];simp
  have u:=ZPI _ hlt;by_cases g:r=0
  .by_cases o:(n:Int) / 4294967296=65535
   .rw[hb,hb,decide_eq_true g,decide_eq_true o,cond_true,cond_true,u];simp
   .rw[hb,hb,decide_eq_true g,decide_eq_false o,cond_true,cond_false];simp
  .rw[hb,decide_eq_false g,cond_false];simp
 |false=>
  simp only[Zjf,Zdo,cond_false,j,ZPI _ hlt,Option.bind_some];congr 1;rw[Bool.eq_iff_iff];simp;constructor
  .rintro ⟨i,y⟩;exact⟨i.symm,by omega⟩
  .rintro ⟨i,y⟩;exact⟨i.symm,by omega⟩
theorem ZjC(a:Zaf)(h:a.ok):Zbp a=some (Zdo a):=by
 obtain⟨v,i,lo⟩:=a;obtain⟨_,e,d,_⟩:=h;have e:=Zjy e;have d:=Zjy d;simp only at e d;have g:IntKind.u64.wrap (Int.tdiv lo 4294967296)=lo / 4294967296:=by
  rw[Int.tdiv_eq_ediv_of_nonneg d.1];exact ZgS (by omega) (by omega)
 cases v with
 |true=>
  simp only[Zbp,Zdo,g,Bool.not_true,cond_false,if_true];generalize lo / 4294967296=q;simp only[Bool.cond_eq_ite,beq_iff_eq,bne_iff_ne,ne_eq,decide_eq_true_eq,Bool.not_eq_true',Bool.not_eq_false',decide_eq_false_iff_not]
  repeat' split
  all_goals first|rfl | (rw[Option.some.injEq,Bool.eq_iff_iff];simp only[Bool.and_eq_true,Bool.not_eq_true',Bool.not_eq_false',Bool.and_eq_false_iff,decide_eq_true_eq,decide_eq_false_iff_not,beq_iff_eq,bne_iff_ne,ne_eq,iff_true,iff_false,true_iff,false_iff,Bool.false_eq_true,Bool.true_eq_false,not_true_eq_false,not_false_eq_true];omega)
 |false=>
  simp only[Zbp,Zdo,Bool.not_false,cond_true,Bool.false_eq_true,if_false];simp only[Bool.cond_eq_ite,beq_iff_eq,bne_iff_ne,ne_eq,decide_eq_true_eq,Bool.not_eq_true',Bool.not_eq_false',decide_eq_false_iff_not]
  repeat' split
  all_goals first|rfl | (rw[Option.some.injEq,Bool.eq_iff_iff];simp only[Bool.and_eq_true,Bool.not_eq_true',Bool.not_eq_false',Bool.and_eq_false_iff,decide_eq_true_eq,decide_eq_false_iff_not,beq_iff_eq,bne_iff_ne,ne_eq,iff_true,iff_false,true_iff,false_iff,Bool.false_eq_true,Bool.true_eq_false,not_true_eq_false,not_false_eq_true];omega)
theorem ZFw(a b:Zaf):Zfl a b=some (cmpA a b):=by
 obtain⟨v,d,lo⟩:=a;obtain⟨v',co,jA⟩:=b;simp only[Zfl,Zfy,Zfx,cmpA,famA,cmpI,orI,Zaf.mk.injEq];simp only[Bool.cond_eq_ite,bne_iff_ne,ne_eq,ite_not,decide_eq_true_eq,Bool.not_eq_true',beq_eq_false_iff_ne];cases v<;>cases v'<;>simp only[true_and,Bool.false_eq_true,Bool.true_eq_false,false_and,not_true_eq_false,not_false_eq_true,if_true,if_false,ite_true,ite_false,Bool.not_true,Bool.not_false]
 all_goals (repeat' split)<;>first|rfl|omega | (congr 1;omega)|simp_all
theorem ZFv(a b:Zav):Zfk a b=some (cmpN a b):=by
 simp only[Zfk,ZFw,Option.bind_some,cmpN,orI,cmpI];simp only[Bool.cond_eq_ite,bne_iff_ne,ne_eq,ite_not,decide_eq_true_eq,beq_iff_eq];generalize cmpA a.fAddr b.fAddr=c
 (repeat' split)<;>first|rfl|omega | (congr 1;omega)|simp_all
def ZnM(a:Zah):Bool:=Zdo a.fAddr&&decide (1<=a.fPort)&&decide (a.fPort<=65535)
theorem Zpn(a:Zah)(h:a.ok):ZeS a=some (ZnM a):=by
 simp only[ZeS,ZjC _ h.1,ZnM,Option.bind_some];generalize Zdo a.fAddr=b;cases b<;>simp only[cond_true,cond_false,Bool.true_and,Bool.false_and];simp only[Bool.cond_eq_ite,beq_iff_eq,bne_iff_ne,ne_eq,decide_eq_true_eq,Bool.not_eq_true',Bool.not_eq_false',decide_eq_false_iff_not]
 repeat' split
 all_goals first|rfl | (rw[Option.some.injEq,Bool.eq_iff_iff];simp only[Bool.and_eq_true,Bool.not_eq_true',Bool.not_eq_false',Bool.and_eq_false_iff,decide_eq_true_eq,decide_eq_false_iff_not,beq_iff_eq,bne_iff_ne,ne_eq,iff_true,iff_false,true_iff,false_iff,Bool.false_eq_true,Bool.true_eq_false,not_true_eq_false,not_false_eq_true];omega)
def Zrc(e:Zab):Bool:=ZnM e.fEnd&&decide (1<=e.fState)&&decide (e.fState<=3)&&decide (0<=e.fFails)&&decide (e.fFails<=1000)&&decide (0<=e.fNext)&&decide (e.fNext<=1099511627776)
theorem ZkT(e:Zab)(h:e.ok):ZdY e=some (Zrc e):=by
 simp only[ZdY,Zpn _ h.1,Zrc,Option.bind_some];generalize ZnM e.fEnd=b;cases b<;>simp only[cond_true,cond_false,Bool.true_and,Bool.false_and];simp only[Bool.cond_eq_ite,beq_iff_eq,bne_iff_ne,ne_eq,decide_eq_true_eq,Bool.not_eq_true',Bool.not_eq_false',decide_eq_false_iff_not]
 repeat' split
 all_goals first|rfl | (rw[Option.some.injEq,Bool.eq_iff_iff];simp only[Bool.and_eq_true,Bool.not_eq_true',Bool.not_eq_false',Bool.and_eq_false_iff,decide_eq_true_eq,decide_eq_false_iff_not,beq_iff_eq,bne_iff_ne,ne_eq,iff_true,iff_false,true_iff,false_iff,Bool.false_eq_true,Bool.true_eq_false,not_true_eq_false,not_false_eq_true];omega)
def cmpE(a b:Zah):Int:=orI (cmpA a.fAddr b.fAddr) (cmpI a.fPort b.fPort)
theorem ZxM(a b:Zah):ZjH a b=some (cmpE a b):=by
 simp only[ZjH,ZNq,Zut,or2,Option.bind_some,cmpE]
theorem Zou(a b:Zah):ZbP a b=some (cmpE a b):=by
 simp only[ZbP,ZFw,Option.bind_some,cmpE,orI,cmpI];simp only[Bool.cond_eq_ite,bne_iff_ne,ne_eq,ite_not,decide_eq_true_eq,beq_iff_eq];generalize cmpA a.fAddr b.fAddr=c
 (repeat' split)<;>first|rfl|omega | (congr 1;omega)|simp_all
theorem ZKJ{a b:Zah}:cmpE a b<0↔cmpA a.fAddr b.fAddr<0\/(a.fAddr=b.fAddr/\a.fPort<b.fPort):=by simp only[cmpE,ZFD,ZxP,ZrO]
theorem ZPu{a b:Zah}:0<cmpE a b↔0<cmpA a.fAddr b.fAddr\/(a.fAddr=b.fAddr/\b.fPort<a.fPort):=by simp only[cmpE,ZFE,ZxQ,ZrO]
theorem Zls{a b:Zah}:cmpE a b=0↔a=b:=by
 simp only[cmpE,ZFC,Zmg,ZrO];obtain⟨x,p⟩:=a;obtain⟨y,q⟩:=b;simp
theorem Zlt{a b:Zah}:0<cmpE a b↔cmpE b a<0:=by
 rw[ZPu,ZKJ,ZKK];constructor<;>rintro (h|⟨d,e⟩)<;>first|exact .inl h|exact .inr ⟨d.symm,e⟩
theorem Zol{a b c:Zah}(d:cmpE a b<0)(e:cmpE b c<0):cmpE a c<0:=by
 rw[ZKJ]at *
 rcases d with d|⟨d,g⟩<;>rcases e with e|⟨e,i⟩
 .exact .inl (Zwn d e)
 .exact .inl (e ▸ d)
 .exact .inl (d ▸ e)
 .exact .inr ⟨d.trans e,by omega⟩
def ZnC(l:List Zab)(e:Zah):Int:=ixOf (fun x=>decide (x.fEnd=e)) l 0
theorem Zrg(l:List Zab)(e:Zah)(hl:l.length<=maxLen):Zdz l e=some (ZnC l e):=by
 simp only[Zdz];rw[show ((0:Int))=((0:Nat):Int)from rfl];rw[ZtP l Zab.d (fun x=>decide (x.fEnd=e)) hl (fun fu i=>Zef l fu i e) (fun i=>i) ?_ ?_ _ 0 (by omega) (by omega)]
 .rfl
 .intro fu i g;simp only[Zef,Zag];rw[iNb,Zap ⟨by omega,by omega⟩];simp
 .intro fu;simp only[Zef,Zag];rw[iNa]
def putS(l:List Zab)(e:Zab):List Zab:=l.takeWhile (fun x=>!decide (0<cmpE x.fEnd e.fEnd))++[e]++l.dropWhile (fun x=>!decide (0<cmpE x.fEnd e.fEnd))
def addS(l:List Zab)(e:Zab)(most:Int):List Zab×Int:=if Zrc e then if 0<=ZnC l e.fEnd then([],7)else if(l.length:Int)>=most then([],5)else(putS l e,0)else([],1)
theorem ZOI(l:List Zab)(e:Zab)(h:l.length<=10000):∀fu (i:Nat),i<=l.length->l.length-i<fu ->
  ZfG l fu (i:Int) e=some (l.take i++putS (l.drop i) e,0):=by
 have r:l.length<=maxLen:=ZnK (by omega);have bP:∀i:Nat,i<=l.length->(need (0<=(i:Int)/\(i:Int)<=((l.length:Nat):Int)) <|
   need ((([]:List Zab)++(l.take (i:Int).toNat)).length * 56<=140737488355328/\(([]:List Zab)++(l.take (i:Int).toNat)).length<=maxLen) <|
   need (((([]:List Zab)++(l.take (i:Int).toNat))++([e]:List Zab)).length * 56<=140737488355328/\((([]:List Zab)++(l.take (i:Int).toNat))++([e]:List Zab)).length<=maxLen) <|
   need ((((([]:List Zab)++(l.take (i:Int).toNat))++([e]:List Zab))++(l.drop (i:Int).toNat)).length * 56<=140737488355328/\(((([]:List Zab)++(l.take (i:Int).toNat))++([e]:List Zab))++(l.drop (i:Int).toNat)).length<=maxLen) <|
   some ((((([]:List Zab)++(l.take (i:Int).toNat))++([e]:List Zab))++(l.drop (i:Int).toNat)),(0:Int)))=some (l.take i++[e]++l.drop i,0):=by
  intro i j;have b:∀n:Nat,n<=10001->n * 56<=140737488355328/\n<=maxLen:=fun n t=>⟨by omega,ZnK (by omega)⟩;rw[Zap ⟨by omega,by omega⟩,Zap (b _ (by simp;omega)),Zap (b _ (by simp;omega)),Zap (b _ (by simp;omega))];simp
 intro fu;induction fu with
 |zero=>intro i _ h;omega
 |succ fu ih=>
  intro i j u;simp only[ZfG,Zou,Option.bind_some,Zag];by_cases hlt:i<l.length
  .rw[iNb,Zap ⟨by omega,by omega⟩];have o:=Zez l Zab.d i hlt;by_cases g:cmpE (l.getD i Zab.d).fEnd e.fEnd<=0
   .rw[if_pos (by simpa using g),add1 hlt r,ih (i+1) (by omega) (by omega)];congr 2;unfold putS;rw[o,List.takeWhile_cons,List.dropWhile_cons,if_pos (by simp;simpa using g),if_pos (by simp;simpa using g),List.take_succ_eq_append_getElem hlt];rw[ZbH l Zab.d i hlt];simp only[List.append_assoc,List.cons_append,List.nil_append]
   .rw[if_neg (by simpa using g),bP i j];congr 2;unfold putS;rw[o,List.takeWhile_cons,List.dropWhile_cons,if_neg (by simp;simpa using g),if_neg (by simp;simpa using g)];simp
  .rw[iNa,bP i j];have:l.drop i=[]:=List.drop_eq_nil_of_le (by omega);rw[this];simp[putS]
theorem ZJd(l:List Zab)(e:Zab)(most:Int)(h:l.length<=10000)(i:e.ok):Zhf l e most=some (addS l e most):=by
 have j:l.length<=maxLen:=ZnK (by omega);simp only[Zhf,ZkT e i,Zrg l _ j,Option.bind_some,addS];cases Zrc e
 .rfl
 .simp only[Bool.not_true,cond_false,if_true,Zag,ge_iff_le];by_cases d:0<=ZnC l e.fEnd
  .simp only[d,if_true]
  .simp only[d,if_false];by_cases g:most<=(l.length:Int)
   .simp only[g,if_true]
   .simp only[g,if_false];have:=ZOI l e h ((((l.length:Nat):Int)-(0:Int)).toNat+2) 0 (by omega) (by omega);rw[show ((0:Nat):Int)=0 from rfl]at this;rw[this];rfl
def Zly(l:List Zab)(c5:Int):Int:=((l.countP fun x=>decide (x.fState=c5):Nat):Int)
theorem ZzC(l:List Zab)(c5:Int)(hl:l.length<=maxLen):ZfY l c5=some (Zly l c5):=by
 simp only[ZfY];have:=ZvH l Zab.d (fun x=>decide (x.fState=c5)) hl (fun fu n i=>ZcX l c5 fu n i) (fun fu i n e=>by
   simp only[ZcX,Zag];rw[iNb,Zap ⟨by omega,by omega⟩];simp only[Bool.cond_eq_ite,beq_iff_eq,Int.toNat_natCast,decide_eq_true_eq]) (fun fu n=>by
   simp only[ZcX,Zag];rw[iNa]) ((((l.length:Nat):Int)-(0:Int)).toNat+2) 0 0 (by omega) (by omega) (by omega)
 simpa[Zly]using this
def setS(l:List Zab)(e:Zab):List Zab:=if 0<=ZnC l e.fEnd then l.set (ZnC l e.fEnd).toNat e else l
theorem ZDU(l:List Zab)(e:Zah):ZnC l e<(l.length:Int):=by
 have:=Zxh (fun x:Zab=>decide (x.fEnd=e)) l 0;simpa[ZnC]using this
theorem ZIX(l:List Zab)(e:Zab)(h:l.length<=10000):ZiP l e=some (setS l e):=by
 have d:l.length<=maxLen:=ZnK (by omega);have:=ZDU l e.fEnd;simp only[ZiP,Zrg l _ d,Option.bind_some,Zag,setS,List.nil_append];split
 .rename_i g;rw[iNa]
 .rename_i g;rw[Zap ⟨by omega,d⟩,Zap ⟨by omega,this⟩,iNb]
def ZGv:Option Zab->Zab->Bool|none,_=>true|some p,x=>decide (cmpE p.fEnd x.fEnd<0)
def ZFq:Option Zab->List Zab->Bool|_,[]=>true|p,x :: r=>Zrc x&&ZGv p x&&ZFq (some x) r
def ZIP(l:List Zab):Bool:=ZFq none l
def Zzt:List Zab->List Zab->Bool|_,[]=>true|p,x :: r=>Zrc x&&p.all (fun y=>decide (cmpE y.fEnd x.fEnd<0))&&Zzt (p++[x]) r
theorem Zzs:∀(r p:List Zab),p.Pairwise (fun a b=>cmpE a.fEnd b.fEnd<0)->Zzt p r=ZFq p.getLast? r
 | [],p,_=>rfl
 |x :: r,p,g=>by
  simp only[Zzt,ZFq]
  have e:p.all (fun y=>decide (cmpE y.fEnd x.fEnd<0))=ZGv p.getLast? x:=by
   rcases List.eq_nil_or_concat p with rfl|⟨q,z,rfl⟩
   .rfl
   .rw[List.concat_eq_append]at g ⊢;rw[List.getLast?_append,List.getLast?_singleton,Option.some_or,List.all_append];simp only[ZGv,List.all_cons,List.all_nil,Bool.and_true];by_cases d:cmpE z.fEnd x.fEnd<0
    .rw[decide_eq_true d,Bool.and_true,List.all_eq_true];intro y i;have:=(List.pairwise_append.1 g).2.2 y i z (by simp);exact decide_eq_true (Zol this d)
    .rw[decide_eq_false d,Bool.and_false]
  rw[e];cases ha:ZGv p.getLast? x
  .simp
  .rw[Zzs r (p++[x])]
   .simp
   .refine List.pairwise_append.2 ⟨g,List.pairwise_singleton _ _,fun y i z d=>?_⟩;rw[List.mem_singleton.1 d];rw[ha]at e;exact of_decide_eq_true (List.all_eq_true.1 e y i)
theorem ZwK(l:List Zab)(h:l.length<=maxLen)(ar:∀x∈l,x.ok):ZhI l=some (ZIP l):=by
 simp only[ZhI];have bZ:∀(i:Nat)(K:Int->Option Bool),i<l.length->∀fu (j:Nat),j<=i->i-j<fu->ZeJ l (i:Int) K fu (j:Int)=bif((l.take i).drop j).all (fun y=>decide (cmpE y.fEnd (l.getD i Zab.d).fEnd<0))then K (Zau (i:Int) 1)else some false:=by
  intro i K o fu;induction fu with
  |zero=>intro j _ h;omega
  |succ fu ih=>
   intro j t r;simp only[ZeJ,Zag,Zou,Option.bind_some];by_cases hlt:j<i
   .rw[iNb,Zap ⟨by omega,by omega⟩,Zap ⟨by omega,by omega⟩];simp only[Int.toNat_natCast];have hjt:j<(l.take i).length:=by rw[List.length_take];omega
    have hgt:(l.take i).getD j Zab.d=l.getD j Zab.d:=by
     simp only[List.getD_eq_getElem?_getD,List.getElem?_take,if_pos hlt]
    rw[Zez (l.take i) Zab.d j hjt,hgt];simp only[List.all_cons];by_cases g:cmpE (l.getD j Zab.d).fEnd (l.getD i Zab.d).fEnd>=0
    .rw[if_pos g,decide_eq_false (by omega)];rfl
    .rw[if_neg g,decide_eq_true (by omega),add1 (show j<l.length by omega) h,ih (j+1) (by omega) (by omega)];rfl
   .have e:j=i:=by omega
    subst e;rw[iNa,List.drop_eq_nil_of_le (by rw[List.length_take];omega)];rfl
 have key:∀fu (i:Nat),i<=l.length->l.length-i<fu->ZdL l fu (i:Int)=some (Zzt (l.take i) (l.drop i)):=by
  intro fu;induction fu with
  |zero=>intro i _ h;omega
  |succ fu ih=>
   intro i o r;simp only[ZdL,Zag];by_cases hlt:i<l.length
   .rw[iNb,Zap ⟨by omega,by omega⟩,ZkT _ (ar _ (by rw[Int.toNat_natCast];exact ZbU l _ i hlt))];simp only[Int.toNat_natCast,Option.bind_some];rw[Zez l Zab.d i hlt];simp only[Zzt];cases Zrc (l.getD i Zab.d)
    .rfl
    .simp only[Bool.not_true,cond_false,Bool.true_and];have hin:=bZ i (ZdL l fu) hlt (((i:Int)-(0:Int)).toNat+2) 0 (by omega) (by omega);rw[show ((0:Nat):Int)=0 from rfl,List.drop_zero]at hin;rw[hin];have hih:=ih (i+1) (by omega) (by omega);rw[List.take_succ_eq_append_getElem hlt,<-ZbH l Zab.d i hlt]at hih;cases(l.take i).all (fun y=>decide (cmpE y.fEnd (l.getD i Zab.d).fEnd<0))
     .rfl
     .rw[cond_true,add1 hlt h,hih];rfl
   .rw[iNa,List.drop_eq_nil_of_le (by omega)];rfl
 have:=key ((((l.length:Nat):Int)-(0:Int)).toNat+2) 0 (by omega) (by omega);rw[show ((0:Nat):Int)=0 from rfl]at this;rw[this];congr 1;exact Zzs l [] .nil
theorem ZMp(l:List Zab)(e:Zab):(putS l e).length=l.length+1:=by
 unfold putS;have:=congrArg List.length (List.takeWhile_append_dropWhile (p:=fun x:Zab=>!decide (0<cmpE x.fEnd e.fEnd)) (l:=l));simp only[List.length_append,List.length_cons,List.length_nil]at this ⊢;omega
theorem ZGx(l:List Zab)(e:Zab)(most:Int):(addS l e most).1.length<=l.length+1:=by
 unfold addS
 repeat' split
 all_goals simp[ZMp]
theorem ZFl(l:List Zab)(e:Zab):(setS l e).length=l.length:=by
 unfold setS;split<;>simp
theorem ZPy(l:List Zah)(e:Zah)(hl:l.length<=maxLen):ZiO l e=some (l.contains e):=by
 simp only[ZiO];have:=ZtP l Zah.d (fun x=>decide (x=e)) hl (fun fu i=>Zew l fu i e) (fun i=>decide (0<=i)) (fun fu i t=>by
   simp only[Zew,Zag];rw[iNb,Zap ⟨by omega,by omega⟩];simp) (fun fu=>by
   simp only[Zew,Zag];rw[iNa];rfl) ((((l.length:Nat):Int)-(0:Int)).toNat+2) 0 (by omega) (by omega)
 simp only[Int.natCast_zero,List.drop_zero]at this;rw[this];congr 1;rw[Bool.eq_iff_iff,decide_eq_true_eq,List.contains_iff_mem];have j:=Zqc (fun x=>decide (x=e)) l 0;constructor
 .intro h;obtain⟨k,g,_,⟨x,o,r⟩,_⟩:=Zru _ l 0 h;rw[<-of_decide_eq_true r];exact List.mem_of_getElem? o
 .intro h;apply Int.not_lt.1;intro g;have:=j.1 g e h;simp at this
def ZHK(ends:List Zah)(x:Zab):Zab:=if x.fState=3 then(if ends.contains x.fEnd then⟨x.fEnd,1,x.fFails,x.fNext⟩else x)else x
theorem ZFk{α:Type}(l:List α)(d:α)(i:Nat)(h:i<l.length):l.set i (l.getD i d)=l:=by
 apply List.ext_getElem?;intro k;rw[List.getElem?_set];split
 .rename_i e;subst e;rw[ZbH l d i h,List.getElem?_eq_getElem h]
 .rfl
theorem ZwJ(l:List Zab)(ends:List Zah)(h:l.length<=10000)(e:ends.length<=maxLen):Zgv l ends=some (l.map (ZHK ends)):=by
 simp only[Zgv,List.nil_append];rw[Zap ⟨by omega,ZnK (by omega)⟩];have:=ZMH (ZHK ends) Zab.d l.length (ZnK (by omega)) (fun fu i w=>ZcA ends fu i w) some (fun fu i w g j=>by
   simp only[ZcA,Zag,ZPy ends _ e,Option.bind_some];rw[iNb,Zap ⟨by omega,by omega⟩];simp only[Int.toNat_natCast,ZHK,Bool.cond_eq_ite,beq_iff_eq];split
   .split
    .rfl
    .rw[ZFk w _ i (by omega)]
   .rw[ZFk w _ i (by omega)]) (fun fu w g=>by
   simp only[ZcA,Zag];rw[iNa]) ((((l.length:Nat):Int)-(0:Int)).toNat+2) 0 l rfl (by omega) (by omega)
 simpa using this
theorem ZKj{l:List Zab}{e:Zah}:ZnC l e<0↔∀x∈l,x.fEnd≠e:=by
 unfold ZnC;rw[Zqc];simp
theorem ZOx{l:List Zab}{e:Zab}(h:∀x∈l,x.ok)(d:e.ok):∀x∈setS l e,x.ok:=by
 unfold setS;split
 .intro x hx;rcases List.mem_or_eq_of_mem_set hx with hx|rfl
  .exact h x hx
  .exact d
 .exact h
def fitI(n:Int):Int:=if n<0 then 0 else if n>1099511627776 then 1099511627776 else n
theorem Zlh(n:Int):Zgt n=some (fitI n):=by
 unfold Zgt fitI;congr 1
 repeat' split
 all_goals omega
theorem Zkl(n:Int):Zbf n=some (fitI n):=by
 unfold Zbf fitI;simp only[Zag]
 repeat' split
 all_goals first|rfl|omega
theorem ZiH(n:Int):0<=fitI n/\fitI n<=1099511627776:=by
 unfold fitI
 repeat' split
 all_goals omega
theorem ZIf(p:Zaa)(n:Int):∃q,Zkr p n=some q/\Zcq p n=some q:=by
 unfold Zkr Zcq;simp only[Zlh,Zkl,Option.bind_some,Zag];refine⟨_,rfl,?_⟩;split
 .rfl
 .rfl
theorem ZOP(p:Zaa)(n:Int):∃q,ZlX p n=some q/\Zda p n=some q:=by
 unfold ZlX Zda;simp only[Zag];by_cases i:n<1
 .rw[iNa,if_pos i];exact⟨_,rfl,rfl⟩
 .rw[iNb,if_neg i];by_cases j:n>1048576
  .rw[iNa,if_pos j];exact⟨_,rfl,rfl⟩
  .rw[iNb,if_neg j];by_cases d:p.fPing=0
   .have e:(p.fPing==0)=true:=by simp[d]
    have g:(p.fPing != 0)=false:=by simp[d]
    rw[e,g];exact⟨_,rfl,rfl⟩
   .have e:(p.fPing==0)=false:=by simp[d]
    have g:(p.fPing != 0)=true:=by simp[d]
    rw[e,g];simp only[cond_false,cond_true];by_cases o:n<p.fPing
    .rw[if_pos o,iNa];exact⟨_,rfl,rfl⟩
    .rw[if_neg o,iNb];exact⟨_,rfl,rfl⟩
theorem ZHd(k:Int):∃q,Zkq k=some q/\Zfj k=some q/\0<=q/\q<=100:=by
 unfold Zkq Zfj;simp only[Zag];by_cases o:k<0
 .rw[if_pos o];have d:(k==1)=false:=by simp;omega
  have e:(k==2)=false:=by simp;omega
  have g:(k==3)=false:=by simp;omega
  have i:(k==4)=false:=by simp;omega
  have j:(k==5)=false:=by simp;omega
  rw[d,e,g,i,j];exact⟨0,rfl,rfl,by omega,by omega⟩
 .rw[if_neg o];by_cases r:k>=6
  .rw[if_pos r];have d:(k==1)=false:=by simp;omega
   have e:(k==2)=false:=by simp;omega
   have g:(k==3)=false:=by simp;omega
   have i:(k==4)=false:=by simp;omega
   have j:(k==5)=false:=by simp;omega
   rw[d,e,g,i,j];exact⟨0,rfl,rfl,by omega,by omega⟩
  .rw[if_neg r];obtain h|h|h|h|h|h:k=0\/k=1\/k=2\/k=3\/k=4\/k=5:=by omega
   all_goals subst h;exact⟨_,rfl,rfl,by decide,by decide⟩
def ZdU(l:List Zaa)(e:Zah):Int:=ixOf (fun x=>decide (x.fEnd=e)) l 0
theorem ZgU(l:List Zaa)(e:Zah)(hl:l.length<=maxLen):ZaQ l e=some (ZdU l e):=by
 simp only[ZaQ];have:=ZtP l Zaa.d (fun x=>decide (x.fEnd=e)) hl (fun fu i=>ZdM l fu i e) (fun i=>i) (fun fu i g=>by
   simp only[ZdM,Zag];rw[iNb,Zap ⟨by omega,by omega⟩];simp) (fun fu=>by
   simp only[ZdM,Zag];rw[iNa]) ((((l.length:Nat):Int)-(0:Int)).toNat+2) 0 (by omega) (by omega)
 simp only[Int.natCast_zero,List.drop_zero]at this;rw[this];rfl
theorem ZoV(l:List Zaa)(e:Zah):ZdU l e<(l.length:Int):=by
 have:=Zxh (fun x:Zaa=>decide (x.fEnd=e)) l 0;unfold ZdU;omega
def Zqm(l:List Zaa)(ends:List Zah):List Zaa:=l.filter fun x=>!ends.contains x.fEnd
theorem ZMS(l:List Zah)(e:Zah)(hl:l.length<=maxLen):ZiL l e=some (l.contains e):=by
 simp only[ZiL];have:=ZtP l Zah.d (fun x=>decide (x=e)) hl (fun fu i=>Zeu l fu i e) (fun i=>decide (0<=i)) (fun fu i t=>by
   simp only[Zeu,Zag];rw[iNb,Zap ⟨by omega,by omega⟩];simp) (fun fu=>by
   simp only[Zeu,Zag];rw[iNa];rfl) ((((l.length:Nat):Int)-(0:Int)).toNat+2) 0 (by omega) (by omega)
 simp only[Int.natCast_zero,List.drop_zero]at this;rw[this];congr 1;rw[Bool.eq_iff_iff,decide_eq_true_eq,List.contains_iff_mem];have j:=Zqc (fun x=>decide (x=e)) l 0;constructor
 .intro h;obtain⟨k,g,_,⟨x,o,r⟩,_⟩:=Zru _ l 0 h;rw[<-of_decide_eq_true r];exact List.mem_of_getElem? o
 .intro h;apply Int.not_lt.1;intro g;have:=j.1 g e h;simp at this
theorem Zpm(l:List Zaa)(ends:List Zah):(Zqm l ends).length<=l.length:=List.length_filter_le _ _
theorem Zrf(l:List Zaa)(ends:List Zah)(hl:l.length<=1000000)(j:ends.length<=maxLen):ZbD l ends=some (Zqm l ends):=by
 have hL:l.length<=maxLen:=by unfold maxLen;omega
 have au:∀fu (i:Nat) w,i<=l.length->l.length-i<fu->w=Zqm (l.take i) ends->Zed l ends fu (i:Int) w=some (Zqm l ends):=by
  intro fu;induction fu with
  |zero=>intro i w _ h;omega
  |succ fu ih=>
   intro i w o r e;simp only[Zed,ZMS ends _ j,Zag,Option.bind_some];by_cases h:i<l.length
   .rw[iNb,Zap ⟨by omega,by omega⟩,add1 h hL];simp only[Int.toNat_natCast];have bD:Zqm (l.take (i+1)) ends=w++[l.getD i Zaa.d].filter (fun x=>!ends.contains x.fEnd):=by
     rw[e];unfold Zqm;rw[List.take_succ_eq_append_getElem h,List.filter_append,ZbH l _ i h]
    have k7:w.length<=1000000:=by
     rw[e];have:=Zpm (l.take i) ends;simp at this;omega
    cases g:ends.contains (l.getD i Zaa.d).fEnd
    .rw[List.filter_cons_of_pos (by rw[g];rfl)]at bD;simp only[Bool.not_false,cond_true];rw[Zap ⟨by simp;omega,by simp[maxLen];omega⟩];exact ih (i+1) _ (by omega) (by omega) bD.symm
    .rw[List.filter_cons_of_neg (by rw[g];decide)]at bD;simp only[Bool.not_true,cond_false];refine ih (i+1) _ (by omega) (by omega) ?_;rw[bD];simp
   .rw[iNa,e];have:i=l.length:=by omega
    rw[this,List.take_length]
 unfold ZbD;exact au _ 0 [] (by omega) (by omega) rfl
def wid(a:Zaf):Nat:=if a.fV6 then 128 else 32
def num(a:Zaf):Nat:=if a.fV6 then 2 ^ 64*a.fHi.toNat+a.fLo.toNat else a.fLo.toNat
def bitN(a:Zaf)(i:Nat):Bool:=(num a).testBit (wid a-1-i)
structure Fits (a:Zaf):Prop where
 hi0:0<=a.fHi
 hi1:a.fHi<=18446744073709551615
 lo0:0<=a.fLo
 lo1:a.fLo<=18446744073709551615
 v4:a.fV6=false->a.fHi=0/\a.fLo<4294967296
theorem ZoT{a:Zaf}(h:a.ok)(d:Zdo a=true):Fits a:=by
 have e:=Zjy h.2.1;have g:=Zjy h.2.2.1;refine⟨e.1,e.2,g.1,g.2,fun i=>?_⟩;unfold Zdo at d;rw[i]at d;simpa using d
theorem Fits.ok{a:Zaf}(h:Fits a):a.ok:=by
 refine⟨trivial,?_,?_,trivial⟩
 .have:=h.hi0;have:=h.hi1;simp only[okI,Lit.wf,IntKind.min,IntKind.max,IntKind.bits,IntKind.signed];simp;omega
 .have:=h.lo0;have:=h.lo1;simp only[okI,Lit.wf,IntKind.min,IntKind.max,IntKind.bits,IntKind.signed];simp;omega
theorem ZNQ{a:Zaf}(h:Fits a):num a<2 ^ wid a:=by
 have:=h.hi0;have:=h.hi1;have:=h.lo0;have:=h.lo1;unfold num wid;cases d:a.fV6
 .have:=h.v4 d;simp only[Bool.false_eq_true,if_false];omega
 .simp only[if_true];omega
theorem ZrS{a b:Zaf}(ha:Fits a)(hb:Fits b)(d:a.fV6=b.fV6)(h:∀i,i<wid a->bitN a i=bitN b i):a=b:=by
 have e:num a=num b:=by
  apply Nat.eq_of_testBit_eq;intro j;have g:wid a=wid b:=by unfold wid;rw[d]
  by_cases o:j<wid a
  .have:=h (wid a-1-j) (by omega);unfold bitN at this;rw[<-g]at this;rw[show wid a-1-(wid a-1-j)=j by omega]at this;exact this
  .rw[Nat.testBit_lt_two_pow (Nat.lt_of_lt_of_le (ZNQ ha) (Nat.pow_le_pow_right (by omega) (by omega))),Nat.testBit_lt_two_pow (Nat.lt_of_lt_of_le (ZNQ hb) (Nat.pow_le_pow_right (by omega) (by omega)))]
 have:=ha.hi0;have:=ha.hi1;have:=ha.lo0;have:=ha.lo1;have:=hb.hi0;have:=hb.hi1;have:=hb.lo0;have:=hb.lo1;obtain⟨v,r,lo⟩:=a;obtain⟨v',co,jA⟩:=b;simp only at d;subst d;simp only[num]at e;simp only[Zaf.mk.injEq,true_and];cases v
 .have:=ha.v4 rfl;have:=hb.v4 rfl;simp only[Bool.false_eq_true,if_false]at *
  omega
 .simp only[if_true]at *
  omega
theorem ZxW(n k T:Nat)(j:k<=T)(h:n<2 ^ T):n &&& (2 ^ T-2 ^ k)=n-n % 2 ^ k:=by
 have e:n-n % 2 ^ k=2 ^ k*(n / 2 ^ k):=by have:=Nat.div_add_mod n (2 ^ k);omega
 rw[e];apply Nat.eq_of_testBit_eq;intro i;have g:2 ^ T-2 ^ k=2 ^ k*(2 ^ (T-k)-1):=by
  rw[Nat.mul_sub,<-Nat.pow_add,Nat.mul_one];congr 2;omega
 rw[Nat.testBit_and,g,Nat.testBit_two_pow_mul,Nat.testBit_two_pow_mul,Nat.testBit_two_pow_sub_one,Nat.testBit_div_two_pow];by_cases d:k<=i
 .by_cases o:i<T
  .simp[d,show i-k<T-k by omega,show i-k+k=i by omega]
  .have:n.testBit i=false:=Nat.testBit_lt_two_pow (Nat.lt_of_lt_of_le h (Nat.pow_le_pow_right (by omega) (by omega)));simp[d,this,show i-k+k=i by omega]
 .simp[d]
theorem ZED(n k j:Nat):(n-n % 2 ^ k).testBit j=(decide (k<=j)&&n.testBit j):=by
 have d:n-n % 2 ^ k=2 ^ k*(n / 2 ^ k):=by have:=Nat.div_add_mod n (2 ^ k);omega
 rw[d,Nat.testBit_two_pow_mul,Nat.testBit_div_two_pow];by_cases h:k<=j
 .simp[h,show j-k+k=j by omega]
 .simp[h]
theorem Zqk(a b:Nat)(ha:a<2 ^ 64)(hb:b<2 ^ 64):IntKind.u64.wrap (((BitVec.ofInt (IntKind.bits .u64) (a:Int)) &&& (BitVec.ofInt (IntKind.bits .u64) (b:Int))).toNat:Int)=((a &&& b:Nat):Int):=by
 rw[ZEJ a b ha hb];have:a &&& b<2 ^ 64:=Nat.and_lt_two_pow _ hb;exact ZgS (by omega) (by omega)
theorem ZPM:∀n:Fin 65,Zgr ((n.val:Nat):Int)=some (((2 ^ 64-2 ^ (64-n.val):Nat)):Int):=by decide +kernel
theorem Zzi(n:Nat)(h:n<=64):Zgr ((n:Nat):Int)=some (((2 ^ 64-2 ^ (64-n):Nat)):Int):=ZPM ⟨n,by omega⟩
theorem Zzj(n:Int):Zgr n=Zgr (if(64:Int)<(if(0:Int)>n then(0:Int)else n)then(64:Int)else(if(0:Int)>n then(0:Int)else n)):=by
 unfold Zgr;have e:∀m:Int,0<=m->m<=64->(if(64:Int)<(if(0:Int)>m then(0:Int)else m)then(64:Int)else(if(0:Int)>m then(0:Int)else m))=m:=fun m d g=>by
  repeat' split
  all_goals omega
 rw[e (if(64:Int)<(if(0:Int)>n then(0:Int)else n)then(64:Int)else(if(0:Int)>n then(0:Int)else n)) (by repeat' split<;>omega) (by repeat' split<;>omega)]
theorem ZOi(n:Int)(h:n<=0):Zgr n=some 0:=by
 rw[Zzj,show (if(64:Int)<(if(0:Int)>n then(0:Int)else n)then(64:Int)else(if(0:Int)>n then(0:Int)else n))=((0:Nat):Int)by repeat' split<;>omega,Zzi 0 (by omega)]
 rfl
theorem ZLx(n:Int)(h:64<=n):Zgr n=some 18446744073709551615:=by
 rw[Zzj,show (if(64:Int)<(if(0:Int)>n then(0:Int)else n)then(64:Int)else(if(0:Int)>n then(0:Int)else n))=((64:Nat):Int)by repeat' split<;>omega,Zzi 64 (by omega)]
 rfl
def ZjU(a:Zaf)(n:Nat):Zaf:=if a.fV6 then(if n<=64 then⟨true,((a.fHi.toNat-a.fHi.toNat % 2 ^ (64-n):Nat):Int),0⟩else⟨true,a.fHi,((a.fLo.toNat-a.fLo.toNat % 2 ^ (128-n):Nat):Int)⟩)else⟨false,a.fHi,((a.fLo.toNat-a.fLo.toNat % 2 ^ (32-n):Nat):Int)⟩
theorem ZJG{a:Zaf}(h:a.ok)(i:Zdo a=true)(n:Nat)(e:n<=wid a):ZjY a (n:Int)=some (ZjU a n):=by
 have d:=ZoT h i;have fE:=Zom a h;have hA:=d.hi0;have t:=d.hi1;have u:=d.lo0;have y:=d.lo1;obtain⟨v,D,lo⟩:=a;obtain⟨p,g⟩:=ZjE d.hi0;obtain⟨q,j⟩:=ZjE d.lo0;simp only at g j hA t u y;subst g j;cases v with
 |false=>
  have A:=d.v4 rfl;simp only at A;have e:n<=32:=e;have di:(if(32:Int)<(if(0:Int)>(n:Int)then(0:Int)else(n:Int))then(32:Int)else(if(0:Int)>(n:Int)then(0:Int)else(n:Int)))=(n:Int):=by repeat' split<;>omega
  simp only[ZjY,fE,i,Option.bind_some,Bool.not_true,cond_false,ZeQ,Bool.not_false,cond_true,di,Zzi n (by omega)];have g:(2:Nat) ^ (64-n)=2 ^ 32 * 2 ^ (32-n):=by rw[<-Nat.pow_add];congr 1;omega
  have aT:(2:Nat) ^ (32-n)<=2 ^ 32:=Nat.pow_le_pow_right (by omega) (by omega);have gf:0<(2:Nat) ^ (32-n):=Nat.pow_pos (by omega);have B:(2 ^ 64-2 ^ (64-n):Nat) / 4294967296=2 ^ 32-2 ^ (32-n):=by
   rw[g];generalize (2:Nat) ^ (32-n)=z at *
   omega
  have C:Int.fdiv ((2 ^ 64-2 ^ (64-n):Nat):Int) (2 ^ (min (32:Int).toNat (IntKind.bits .u64)))=((2 ^ 32-2 ^ (32-n):Nat):Int):=by
   rw[show (2:Int) ^ (min (32:Int).toNat (IntKind.bits .u64))=4294967296 from rfl,Int.fdiv_eq_ediv_of_nonneg _ (by omega),<-B];rfl
  rw[C,Zqk q _ (by omega) (by generalize (2:Nat) ^ (32-n)=z at *;omega),ZxW q (32-n) 32 (by omega) (by omega)];simp[ZjU]
 |true=>
  have e:n<=128:=e;have di:(if(128:Int)<(if(0:Int)>(n:Int)then(0:Int)else(n:Int))then(128:Int)else(if(0:Int)>(n:Int)then(0:Int)else(n:Int)))=(n:Int):=by repeat' split<;>omega
  simp only[ZjY,fE,i,Option.bind_some,Bool.not_true,cond_false,ZeQ,cond_true,di,ZoS];have hs:Zbl (n:Int) 64=(n:Int)-64:=ZcC (by omega) (by omega);rw[hs];by_cases h64:n<=64
  .rw[Zzi n h64,ZOi _ (by omega)];simp only[Option.bind_some];rw[Zqk p _ (by omega) (by have:=Nat.pow_pos (a:=2) (n:=64-n) (by omega);omega),ZxW p (64-n) 64 (by omega) (by omega)];have:=Zqk q 0 (by omega) (by omega);rw[Nat.and_zero]at this;rw[show (0:Int)=((0:Nat):Int)from rfl,this];simp[ZjU,h64]
  .rw[ZLx _ (by omega),show (n:Int)-64=((n-64:Nat):Int)by omega,Zzi (n-64) (by omega)];simp only[Option.bind_some];have o:=Zqk p 18446744073709551615 (by omega) (by omega);have r:=ZxW p 0 64 (by omega) (by omega);rw[show (2:Nat) ^ 64-2 ^ 0=18446744073709551615 from rfl,Nat.pow_zero,Nat.mod_one,Nat.sub_zero]at r;rw[r]at o;rw[show (18446744073709551615:Int)=((18446744073709551615:Nat):Int)from rfl,o];rw[show 64-(n-64)=128-n by omega,Zqk q _ (by omega) (by have:=Nat.pow_pos (a:=2) (n:=128-n) (by omega);omega),ZxW q (128-n) 64 (by omega) (by omega)];simp[ZjU,h64]
theorem Zjj(a:Zaf)(n:Nat):(ZjU a n).fV6=a.fV6:=by
 unfold ZjU;cases h:a.fV6
 .rfl
 .simp only[if_true];split<;>rfl
theorem Zkc{a:Zaf}(h:Fits a)(n:Nat):Fits (ZjU a n):=by
 have:=h.hi0;have:=h.hi1;have:=h.lo0;have:=h.lo1;have l:∀x y:Nat,x-x % y<=x:=fun x y=>Nat.sub_le _ _;have l1:=l a.fHi.toNat (2 ^ (64-n));have l2:=l a.fLo.toNat (2 ^ (128-n));have l3:=l a.fLo.toNat (2 ^ (32-n));unfold ZjU;cases d:a.fV6
 .have:=h.v4 d;simp only[Bool.false_eq_true,if_false];exact⟨by simp only;omega,by simp only;omega,by simp only;omega,by simp only;omega,fun _=>⟨this.1,by simp only;omega⟩⟩
 .simp only[if_true];split
  .exact⟨by simp only;omega,by simp only;omega,by simp only;omega,by simp only;omega,fun h=>by simp at h⟩
  .exact⟨by simp only;omega,by simp only;omega,by simp only;omega,by simp only;omega,fun h=>by simp at h⟩
theorem Zoz{d lo j:Nat}(hl:lo<2 ^ 64):(2 ^ 64*d+lo).testBit j=if j<64 then lo.testBit j else d.testBit (j-64):=Nat.testBit_two_pow_mul_add d hl j
theorem Zld{a:Zaf}(h:Fits a)(n i:Nat)(g:n<=wid a)(j:i<wid a):bitN (ZjU a n) i=(decide (i<n)&&bitN a i):=by
 have r:=h.hi0;have t:=h.hi1;have u:=h.lo0;have v:=h.lo1;unfold bitN;have o:wid (ZjU a n)=wid a:=by unfold wid;rw[Zjj]
 rw[o];unfold wid at g j ⊢;unfold num ZjU;cases e:a.fV6
 .simp only[e,Bool.false_eq_true,if_false]at *
  rw[Int.toNat_natCast,ZED];congr 1;rw[decide_eq_decide];omega
 .simp only[e,if_true]at *
  have hlo:a.fLo.toNat<2 ^ 64:=by omega
  by_cases h64:n<=64
  .simp only[h64,if_true,Int.toNat_natCast];rw[Zoz (by simp),Zoz hlo];by_cases d:128-1-i<64
   .simp only[d,if_true];rw[show (decide (i<n))=false by rw[decide_eq_false_iff_not];omega];simp
   .simp only[d,if_false];rw[ZED];congr 1;rw[decide_eq_decide];omega
  .simp only[h64,if_false,if_true,Int.toNat_natCast];rw[Zoz (Nat.lt_of_le_of_lt (Nat.sub_le _ _) hlo),Zoz hlo];by_cases d:128-1-i<64
   .simp only[d,if_true];rw[ZED];congr 1;rw[decide_eq_decide];omega
   .simp only[d,if_false];rw[show (decide (i<n))=true by rw[decide_eq_true_eq];omega];simp
theorem ZHm{a:Zaf}(h:Fits a)(hr:Zdo a=true)(n:Nat):Zdo (ZjU a n)=true:=by
 have i:=h.hi0;have j:=h.hi1;have o:=h.lo0;have r:=h.lo1;unfold ZjU;cases g:a.fV6
 .have:=h.v4 g;have l3:a.fLo.toNat-a.fLo.toNat % 2 ^ (32-n)<=a.fLo.toNat:=Nat.sub_le _ _;simp[Zdo,this.1];omega
 .simp only[if_true];split
  .simp[Zdo]
  .rename_i h64;unfold Zdo at hr ⊢;rw[g]at hr;simp only[if_true,Bool.not_eq_true',Bool.and_eq_false_iff,decide_eq_false_iff_not]at hr ⊢;rcases hr with hr|hr
   .exact .inl hr
   .refine .inr fun e=>hr ?_;have e':(a.fLo.toNat-a.fLo.toNat % 2 ^ (128-n)) / 4294967296=65535:=by omega
    have hx:a.fLo.toNat-a.fLo.toNat % 2 ^ (128-n)=2 ^ (128-n)*(a.fLo.toNat / 2 ^ (128-n)):=by have:=Nat.div_add_mod a.fLo.toNat (2 ^ (128-n));omega
    rw[hx]at e';by_cases t:128-n<=32
    .have d:(4294967296:Nat)=2 ^ (128-n) * 2 ^ (32-(128-n)):=by
      rw[<-Nat.pow_add,show 128-n+(32-(128-n))=32 by omega]
     rw[d,Nat.mul_div_mul_left _ _ (Nat.pow_pos (by omega)),Nat.div_div_eq_div_mul,<-d]at e';omega
    .have d:(2:Nat) ^ (128-n)=4294967296*(2 * 2 ^ (128-n-33)):=by
      rw[show (4294967296:Nat)*(2 * 2 ^ (128-n-33))=2 ^ 33 * 2 ^ (128-n-33)by omega,<-Nat.pow_add];congr 1;omega
     rw[d,Nat.mul_assoc,Nat.mul_div_cancel_left _ (by omega),Nat.mul_assoc]at e';omega
def ZiI(p:Zav):Bool:=Zdo p.fAddr&&decide (0<=p.fBits)&&decide (p.fBits<=(wid p.fAddr:Int))&&decide (ZjU p.fAddr p.fBits.toNat=p.fAddr)
structure RN (p:Zav):Prop where
 ok:p.fAddr.ok
 right:Zdo p.fAddr=true
 nn:0<=p.fBits
 le:p.fBits<=(wid p.fAddr:Int)
 cut:ZjU p.fAddr p.fBits.toNat=p.fAddr
theorem RN.fits{p:Zav}(h:RN p):Fits p.fAddr:=ZoT h.ok h.right
theorem Zvp{p:Zav}(h:p.fAddr.ok):ZiI p=true↔RN p:=by
 unfold ZiI;simp only[Bool.and_eq_true,decide_eq_true_eq];exact⟨fun⟨⟨⟨a,b⟩,c⟩,d⟩=>⟨h,a,b,c,d⟩,fun⟨_,a,b,c,d⟩=>⟨⟨⟨a,b⟩,c⟩,d⟩⟩
theorem ZEH(a:Zaf):ZeQ a=some (wid a:Int):=by
 unfold ZeQ wid;cases a.fV6<;>rfl
theorem ZDH(a:Zaf)(h:a.ok)(n:Int):Zht a n=some (if Zdo a=true/\0<=n/\n<=(wid a:Int)then(⟨ZjU a n.toNat,n⟩,true)else(⟨⟨false,0,0⟩,0⟩,false)):=by
 simp only[Zht,Zom a h,ZEH,Option.bind_some,Zag];cases e:Zdo a
 .simp
 .simp only[Bool.not_true,cond_false,true_and];by_cases h0:n<0
  .rw[if_pos h0,iNa]
  .rw[if_neg h0];by_cases d:n>(wid a:Int)
   .rw[if_pos d,iNa]
   .rw[if_neg d,iNb];have:=ZJG h e n.toNat (by omega);rw[Int.toNat_of_nonneg (by omega)]at this;rw[this];rfl
theorem Zqi(p:Zav)(h:p.fAddr.ok):Zlo p=some (ZiI p):=by
 simp only[Zlo,ZDH _ h,Option.bind_some];unfold ZiI;split
 .rename_i d;simp only[cond_true,d.1,d.2.1,d.2.2,decide_true,Bool.true_and,Option.some.injEq];rw[decide_eq_decide];obtain⟨x,n⟩:=p;simp
 .rename_i d;simp only[cond_false,Option.some.injEq];rw[eq_comm,Bool.eq_false_iff];intro e;simp only[Bool.and_eq_true,decide_eq_true_eq]at e;exact d ⟨e.1.1.1,e.1.1.2,e.1.2⟩
def bs(p:Zav):List Bool:=(List.range p.fBits.toNat).map (bitN p.fAddr)
theorem ZNX(p:Zav):(bs p).length=p.fBits.toNat:=by simp[bs]
theorem ZNY(p:Zav)(i:Nat)(h:i<p.fBits.toNat):(bs p)[i]?=some (bitN p.fAddr i):=by simp[bs,h]
theorem ZIL{p:Zav}(h:RN p)(i:Nat)(e:i<wid p.fAddr)(g:p.fBits.toNat<=i):bitN p.fAddr i=false:=by
 have d:=Zld h.fits p.fBits.toNat i (by have:=h.le;omega) e;rw[h.cut]at d;rw[d];rw[show decide (i<p.fBits.toNat)=false by rw[decide_eq_false_iff_not];omega];rfl
theorem ZPW{p q:Zav}(d:RN p)(e:RN q)(g:p.fAddr.fV6=q.fAddr.fV6)(hb:bs p=bs q):p=q:=by
 have t:wid p.fAddr=wid q.fAddr:=by unfold wid;rw[g]
 have j:p.fBits=q.fBits:=by
  have:=congrArg List.length hb;rw[ZNX,ZNX]at this;have:=d.nn;have:=e.nn;omega
 have ha:p.fAddr=q.fAddr:=by
  refine ZrS d.fits e.fits g fun i r=>?_;by_cases h:i<p.fBits.toNat
  .have o:=ZNY p i h;rw[hb,ZNY q i (by omega)]at o;exact(Option.some.inj o).symm
  .rw[ZIL d i r (by omega),ZIL e i (by omega) (by omega)]
 obtain⟨x,n⟩:=p;obtain⟨y,m⟩:=q;simp only at j ha;rw[j,ha]
theorem ZOC{a:Zaf}(h:a.ok)(g:Zdo a=true)(n:Nat)(j:n<=wid a):RN ⟨ZjU a n,(n:Int)⟩/\bs ⟨ZjU a n,(n:Int)⟩=(List.range n).map (bitN a):=by
 have e:=ZoT h g;have o:wid (ZjU a n)=wid a:=by unfold wid;rw[Zjj]
 refine⟨⟨(Zkc e n).ok,ZHm e g n,by simp only;omega,by simp only;omega,?_⟩,?_⟩
 .simp only[Int.toNat_natCast];refine ZrS (Zkc (Zkc e n) n) (Zkc e n) (Zjj _ _) fun i d=>?_;have d:i<wid a:=by unfold wid at d ⊢;rwa [Zjj,Zjj]at d
  rw[Zld (Zkc e n) n i (by omega) (by omega),Zld e n i j d];cases decide (i<n)<;>simp
 .unfold bs;simp only[Int.toNat_natCast];apply List.map_congr_left;intro i d;have d:i<n:=by simpa using d
  rw[Zld e n i j (by omega),show decide (i<n)=true by rw[decide_eq_true_eq];exact d];rfl
theorem ZQf(p:Zav)(a:Zaf)(d:RN p)(ha:a.ok):Zsm p a=some (Zdo a&&decide (p.fAddr.fV6=a.fV6)&&decide (∀i,i<p.fBits.toNat->bitN a i=bitN p.fAddr i)):=by
 have hrc:=(Zvp d.ok).2 d;simp only[Zsm,Zqi p d.ok,hrc,Zom a ha,Option.bind_some,cond_true];cases r:Zdo a
 .rfl
 .simp only[cond_true,Bool.true_and];by_cases g:p.fAddr.fV6=a.fV6
  .have v:wid p.fAddr=wid a:=by unfold wid;rw[g]
   have t:=ZJG ha r p.fBits.toNat (by have:=d.le;omega);rw[Int.toNat_of_nonneg d.nn]at t;have o:=ZoT ha r;rw[show (p.fAddr.fV6==a.fV6)=true by simp[g],cond_true,t,decide_eq_true g];simp only[Option.bind_some,Bool.true_and,Option.some.injEq];rw[decide_eq_decide];have hle:p.fBits.toNat<=wid a:=by have:=d.le;omega
   constructor
   .intro e i j;have u:=Zld o p.fBits.toNat i hle (by omega);rw[e,decide_eq_true j]at u;simpa using u.symm
   .intro h;refine ZrS (Zkc o _) d.fits (by rw[Zjj];exact g.symm) fun i j=>?_;have j:i<wid a:=by unfold wid at j ⊢;rwa [Zjj]at j
    rw[Zld o p.fBits.toNat i hle j];by_cases hb:i<p.fBits.toNat
    .rw[decide_eq_true hb,h i hb];rfl
    .rw[decide_eq_false hb,ZIL d i (by omega) (by omega)];rfl
  .rw[show (p.fAddr.fV6==a.fV6)=false by simp[g],cond_false,decide_eq_false g];rfl
theorem Zsr(n k:Nat)(j:k<64)(d:n<2 ^ 64):IntKind.i64.wrap (IntKind.u64.wrap (((BitVec.ofInt (IntKind.bits .u64) (Int.fdiv (n:Int) (2 ^ (min ((k:Nat):Int).toNat (IntKind.bits .u64))))) &&& (BitVec.ofInt (IntKind.bits .u64) (1:Int))).toNat:Int))=if n.testBit k then 1 else 0:=by
 rw[Int.toNat_natCast,show min k (IntKind.bits .u64)=k from Nat.min_eq_left (by simp[IntKind.bits];omega)];have e:Int.fdiv (n:Int) (2 ^ k)=((n / 2 ^ k:Nat):Int):=by
  rw[Int.fdiv_eq_ediv_of_nonneg _ (by have:(0:Int)<2 ^ k:=Int.pow_pos (by omega);omega)];simp
 have g:n / 2 ^ k<2 ^ 64:=Nat.lt_of_le_of_lt (Nat.div_le_self _ _) d;rw[e,show (1:Int)=((1:Nat):Int)from rfl,Zqk _ 1 g (by omega),Nat.and_one_is_mod,Nat.testBit_eq_decide_div_mod_eq];have o:n / 2 ^ k % 2<2:=Nat.mod_lt _ (by omega);have i:IntKind.i64.wrap ((n / 2 ^ k % 2:Nat):Int)=((n / 2 ^ k % 2:Nat):Int):=by
  simp only[IntKind.wrap,IntKind.bits,IntKind.signed];simp;omega
 rw[i];simp only[decide_eq_true_eq];split<;>omega
theorem ZLf{a:Zaf}(h:Fits a)(i:Nat)(d:i<wid a):Zjn a (i:Int)=some (if bitN a i then 1 else 0):=by
 have o:=h.hi0;have r:=h.hi1;have t:=h.lo0;have u:=h.lo1;obtain⟨v,co,lo⟩:=a;obtain⟨p,g⟩:=ZjE h.hi0;obtain⟨q,j⟩:=ZjE h.lo0;simp only at g j o r t u;subst g j;cases v with
 |false=>
  have d:i<32:=d;have y:=h.v4 rfl;simp only at y;have e:Zbl (Zbl (32:Int) 1) (i:Int)=((31-i:Nat):Int):=by rw[show Zbl (32:Int) 1=31 from rfl,ZcC (by omega) (by omega)];omega
  simp only[Zjn,ZeQ,cond_false,Option.bind_some,Zag,e];rw[iNa,iNa,iNa,Zap (by omega),Zsr q _ (by omega) (by omega)];rfl
 |true=>
  have d:i<128:=d;have e:Zbl (Zbl (128:Int) 1) (i:Int)=((127-i:Nat):Int):=by rw[show Zbl (128:Int) 1=127 from rfl,ZcC (by omega) (by omega)];omega
  simp only[Zjn,ZeQ,cond_true,Option.bind_some,Zag,e];rw[iNa,iNa];have hb:bitN ⟨true,(p:Int),(q:Int)⟩ i=if 127-i<64 then q.testBit (127-i)else p.testBit (127-i-64):=by
   unfold bitN num wid;simp only[if_true,Int.toNat_natCast];rw[Zoz (by omega)]
  rw[hb];by_cases h64:i<64
  .have A:Zbl ((127-i:Nat):Int) 64=((127-i-64:Nat):Int):=by rw[ZcC (by omega) (by omega)];omega
   rw[iNb,A,Zap (by omega),Zsr p _ (by omega) (by omega),if_neg (show ¬127-i<64 by omega)]
  .rw[iNa,Zap (by omega),Zsr q _ (by omega) (by omega),if_pos (show 127-i<64 by omega)]
theorem Zwu{p:Zav}(h:RN p)(i:Nat)(d:i<wid p.fAddr):Zkd p (i:Int)=some (if bitN p.fAddr i then 1 else 0):=by
 simp only[Zkd,ZLf h.fits i d,Option.bind_some]
def Len(z r:Nat):Prop:=z<2 ^ r/\(0<r->2 ^ (r-1)<=z)
theorem ZtT{z r:Nat}(k:Nat)(i:2 ^ k<=z)(h:Len (z / 2 ^ k) r):Len z (r+k)/\0<r:=by
 have d:0<2 ^ k:=Nat.pow_pos (by omega);have j:1<=z / 2 ^ k:=(Nat.le_div_iff_mul_le d).2 (by omega);have g:0<r:=by
  rcases Nat.eq_zero_or_pos r with e|e
  .subst e;have:=h.1;simp at this;omega
  .exact e
 refine⟨⟨?_,fun _=>?_⟩,g⟩
 .rw[Nat.pow_add];exact(Nat.div_lt_iff_lt_mul d).1 h.1
 .have:=(Nat.le_div_iff_mul_le d).1 (h.2 g);rw[<-Nat.pow_add]at this;rwa [show r+k-1=r-1+k by omega]
set_option maxRecDepth 100000 in
theorem ZQc:∃T:ByteArray,T.size=256/\(∀i:Fin 256,i.val<2 ^ ZkA T i.val/\(0<ZkA T i.val->2 ^ (ZkA T i.val-1)<=i.val)/\ZkA T i.val<=8)/\∀v0 v2:Int,Zhx v0 v2 =
  bif(decide (v0>=(256:Int)))then
   need (0<=(IntKind.wrap .u8 (Int.fdiv v0 (2 ^ (min (8:Int).toNat (IntKind.bits .u64)))))/\(IntKind.wrap .u8 (Int.fdiv v0 (2 ^ (min (8:Int).toNat (IntKind.bits .u64)))))<((T.size:Nat):Int)) <|
   some (Zau (Zau v2 (8:Int)) (IntKind.wrap .i64 ((ZkA T (IntKind.wrap .u8 (Int.fdiv v0 (2 ^ (min (8:Int).toNat (IntKind.bits .u64))))).toNat:Nat):Int)))
  else
   need (0<=(IntKind.wrap .u8 v0)/\(IntKind.wrap .u8 v0)<((T.size:Nat):Int)) <|
   some (Zau v2 (IntKind.wrap .i64 ((ZkA T (IntKind.wrap .u8 v0).toNat:Nat):Int))):=by
 refine⟨_,?_,?_,fun v0 v2=>rfl⟩
 .rfl
 .decide +kernel
theorem ZId{a:Int}(h:0<=a)(h':a<256):IntKind.u8.wrap a=a:=by
 simp only[IntKind.wrap,IntKind.bits,IntKind.signed];simp;omega
theorem Zzf{a:Int}(h:0<=a)(h':a<256):IntKind.i64.wrap a=a:=by
 simp only[IntKind.wrap,IntKind.bits,IntKind.signed];simp;omega
theorem ZQe(z v:Nat)(y:z<65536)(A:v<=1000):∃r,Len z r/\r<=16/\Zhx (z:Int) (v:Int)=some ((v+r:Nat):Int):=by
 obtain⟨T,o,j,t⟩:=ZQc;rw[t,Zag,o];by_cases h:256<=z
 .rw[iNb];have e:Int.fdiv (z:Int) (2 ^ (min (8:Int).toNat (IntKind.bits .u64)))=((z / 256:Nat):Int):=by
   rw[show (2:Int) ^ (min (8:Int).toNat (IntKind.bits .u64))=256 from rfl,Int.fdiv_eq_ediv_of_nonneg _ (by omega)];rfl
  obtain⟨d,g,i⟩:=j ⟨z / 256,by omega⟩;simp only at d g i;rw[e,ZId (by omega) (by omega),Zap (by omega),Int.toNat_natCast,Zzf (by omega) (by omega)];obtain⟨u,B⟩:=ZtT (z:=z) (r:=ZkA T (z / 256)) 8 (by omega) ⟨by rw[show (2:Nat) ^ 8=256 from rfl];exact d,by rw[show (2:Nat) ^ 8=256 from rfl];exact g⟩;refine⟨_,u,by omega,?_⟩;rw[Zbs (a:=(v:Int)) (by omega) (by omega),Zbs (by omega) (by omega)];congr 1;omega
 .rw[iNa];obtain⟨d,g,i⟩:=j ⟨z,by omega⟩;simp only at d g i;rw[ZId (by omega) (by omega),Zap (by omega),Int.toNat_natCast,Zzf (by omega) (by omega)];refine⟨_,⟨d,g⟩,by omega,?_⟩;rw[Zbs (by omega) (by omega)];congr 1
theorem ZQd(z v:Nat)(o:z<4294967296)(t:v<=900):∃r,Len z r/\r<=32/\Zhy (z:Int) (v:Int)=some ((v+r:Nat):Int):=by
 simp only[Zhy,Zag];by_cases h:65536<=z
 .rw[iNb];have e:Int.fdiv (z:Int) (2 ^ (min (16:Int).toNat (IntKind.bits .u64)))=((z / 65536:Nat):Int):=by
   rw[show (2:Int) ^ (min (16:Int).toNat (IntKind.bits .u64))=65536 from rfl,Int.fdiv_eq_ediv_of_nonneg _ (by omega)];rfl
  rw[e,show Zau (v:Int) 16=((v+16:Nat):Int)by rw[Zbs (by omega) (by omega)];omega];obtain⟨r,d,i,g⟩:=ZQe (z / 65536) (v+16) (by omega) (by omega);obtain⟨j,_⟩:=ZtT (z:=z) 16 (by omega) (by rw[show (2:Nat) ^ 16=65536 from rfl];exact d);exact⟨r+16,j,by omega,by rw[g];congr 2;omega⟩
 .rw[iNa];obtain⟨r,d,i,g⟩:=ZQe z v (by omega) (by omega);exact⟨r,d,by omega,g⟩
theorem len64(z:Nat)(o:z<2 ^ 64):∃r,Len z r/\r<=64/\ZkM (z:Int)=some ((r:Nat):Int):=by
 simp only[ZkM,Zag];by_cases h:4294967296<=z
 .rw[iNb];have e:Int.fdiv (z:Int) (2 ^ (min (32:Int).toNat (IntKind.bits .u64)))=((z / 4294967296:Nat):Int):=by
   rw[show (2:Int) ^ (min (32:Int).toNat (IntKind.bits .u64))=4294967296 from rfl,Int.fdiv_eq_ediv_of_nonneg _ (by omega)];rfl
  rw[e];obtain⟨r,d,i,g⟩:=ZQd (z / 4294967296) 32 (by omega) (by omega);obtain⟨j,_⟩:=ZtT (z:=z) 32 (by omega) (by rw[show (2:Nat) ^ 32=4294967296 from rfl];exact d);exact⟨r+32,j,by omega,by rw[show (32:Int)=((32:Nat):Int)from rfl,g];congr 2;omega⟩
 .rw[iNa];obtain⟨r,d,i,g⟩:=ZQd z 0 (by omega) (by omega);exact⟨r,d,by omega,by rw[show (0:Int)=((0:Nat):Int)from rfl,g];congr 2;omega⟩
theorem ZIc(a b:Nat)(ha:a<2 ^ 64)(hb:b<2 ^ 64):IntKind.u64.wrap (((BitVec.ofInt (IntKind.bits .u64) (a:Int)) ^^^ (BitVec.ofInt (IntKind.bits .u64) (b:Int))).toNat:Int)=((a ^^^ b:Nat):Int):=by
 have d:∀c:Nat,c<2 ^ 64->(BitVec.ofInt 64 (c:Int)).toNat=c:=fun c e=>by
  rw[BitVec.ofInt_natCast,BitVec.toNat_ofNat];exact Nat.mod_eq_of_lt e
 have g:((BitVec.ofInt (IntKind.bits .u64) (a:Int)) ^^^ (BitVec.ofInt (IntKind.bits .u64) (b:Int))).toNat=a ^^^ b:=by
  show (BitVec.ofInt 64 (a:Int) ^^^ BitVec.ofInt 64 (b:Int)).toNat=a ^^^ b;rw[BitVec.toNat_xor,d a ha,d b hb]
 rw[g];have:a ^^^ b<2 ^ 64:=Nat.xor_lt_two_pow ha hb;exact ZgS (by omega) (by omega)
theorem lead(a b:Nat)(ha:a<2 ^ 64)(hb:b<2 ^ 64):∃k,k<=64/\ZeW ((a ^^^ b:Nat):Int)=some ((k:Nat):Int)/\(∀j,64-k<=j->a.testBit j=b.testBit j)/\(k<64->a.testBit (63-k)≠b.testBit (63-k))/\(k=64↔a ^^^ b=0):=by
 have hx:a ^^^ b<2 ^ 64:=Nat.xor_lt_two_pow ha hb;obtain⟨r,d,u,o⟩:=len64 (a ^^^ b) hx;refine⟨64-r,by omega,?_,fun j v=>?_,fun y=>?_,?_⟩
 .simp only[ZeW,o,Option.bind_some];rw[ZcC (by omega) (by omega)];congr 1;omega
 .have g:(a ^^^ b).testBit j=false:=Nat.testBit_lt_two_pow (Nat.lt_of_lt_of_le d.1 (Nat.pow_le_pow_right (by omega) (by omega)));rw[Nat.testBit_xor]at g
  revert g
  cases a.testBit j<;>cases b.testBit j<;>simp
 .have g:(a ^^^ b).testBit (r-1)=true:=by
   have A:=d.2 (by omega);have B:a ^^^ b<2 ^ (r-1) * 2:=by rw[<-Nat.pow_succ,show (r-1).succ=r by omega];exact d.1
   rw[Nat.testBit_eq_decide_div_mod_eq,decide_eq_true_eq];have t:(a ^^^ b) / 2 ^ (r-1)=1:=by
    have i:0<2 ^ (r-1):=Nat.pow_pos (by omega);have:=(Nat.le_div_iff_mul_le i).2 (show 1 * 2 ^ (r-1)<=a ^^^ b by omega);have:=(Nat.div_lt_iff_lt_mul i).2 (show a ^^^ b<2 * 2 ^ (r-1)by omega);omega
   rw[t]
  rw[show 63-(64-r)=r-1 by omega];rw[Nat.testBit_xor]at g
  revert g
  cases a.testBit (r-1)<;>cases b.testBit (r-1)<;>simp
 .constructor
  .intro e;have:r=0:=by omega
   subst this;have:=d.1;simpa using this
  .intro e;rw[e]at d;rcases Nat.eq_zero_or_pos r with h|h
   .omega
   .have:=d.2 h;have:0<2 ^ (r-1):=Nat.pow_pos (by omega);omega
theorem ZKH{p q:Zav}(r:RN p)(t:RN q)(B:p.fAddr.fV6=q.fAddr.fV6) :
  ∃k:Nat,ZoF p q=some (k:Int)/\k<=p.fBits.toNat/\k<=q.fBits.toNat/\(∀i,i<k->bitN p.fAddr i=bitN q.fAddr i)/\(k<p.fBits.toNat->k<q.fBits.toNat->bitN p.fAddr k≠bitN q.fAddr k):=by
 have fp:=r.fits;have fq:=t.fits;have C:=fp.hi0;have G:=fp.hi1;have D:=fp.lo0;have H:=fp.lo1;have b1:=fq.hi0;have b2:=fq.hi1;have b3:=fq.lo0;have b4:=fq.lo1;have n1:=r.nn;have n2:=t.nn;have l1:=r.le;have l2:=t.le;have lj:=fp.v4;have ll:=fq.v4;clear r t fp fq;obtain⟨⟨v,I,lo⟩,n⟩:=p;obtain⟨⟨v',co,jA⟩,n'⟩:=q;simp only at B C G D H b1 b2 b3 b4 n1 n2 lj ll;subst B;obtain⟨x,rfl⟩:=ZjE C;obtain⟨y,rfl⟩:=ZjE D;obtain⟨x',rfl⟩:=ZjE b1;obtain⟨y',rfl⟩:=ZjE b3;obtain⟨n,rfl⟩:=ZjE n1;obtain⟨n',rfl⟩:=ZjE n2;have di:(if(n':Int)<(n:Int)then(n':Int)else(n:Int))=((min n n':Nat):Int):=by split<;>omega
 have lm:∀k:Nat,(if((min n n':Nat):Int)<(k:Int)then((min n n':Nat):Int)else(k:Int))=((min k (min n n'):Nat):Int):=fun k=>by split<;>omega
 obtain⟨o,O,J,E,L,F⟩:=lead x x' (by omega) (by omega);obtain⟨d,d1,d2,d3,d4,d5⟩:=lead y y' (by omega) (by omega);simp only[ZoF,ZIc x x' (by omega) (by omega),ZIc y y' (by omega) (by omega),J,d2,Option.bind_some,di]
 -- what is to be shown of a number
 have bm:∀k:Nat,(∀i,i<k->i<wid ⟨v,x,y⟩->bitN ⟨v,x,y⟩ i=bitN ⟨v,x',y'⟩ i)->(k<wid ⟨v,x,y⟩->bitN ⟨v,x,y⟩ k≠bitN ⟨v,x',y'⟩ k) ->
   (min k (min n n'))<=n/\(min k (min n n'))<=n'/\(∀i,i<min k (min n n')->bitN ⟨v,x,y⟩ i=bitN ⟨v,x',y'⟩ i)/\((min k (min n n'))<n->(min k (min n n'))<n'->bitN ⟨v,x,y⟩ (min k (min n n'))≠bitN ⟨v,x',y'⟩ (min k (min n n'))):=by
  intro k u g;simp only at l1 l2;refine⟨by omega,by omega,fun i I=>u i (by omega) (by omega),fun U V=>?_⟩;have e:min k (min n n')=k:=by omega
  rw[e];exact g (by omega)
 cases v with
 |false=>
  have W:=(lj rfl).1;have Z:=(ll rfl).1;have e3:=(lj rfl).2;have e4:=(ll rfl).2;have jS:x ^^^ x'=0:=by rw[show x=x' by omega,Nat.xor_self]
  have hk2:32<=d:=by
   rcases Nat.lt_or_ge d 32 with h|h
   .exfalso;apply d4 (by omega);rw[Nat.testBit_lt_two_pow (Nat.lt_of_lt_of_le (show y<2 ^ 32 by omega) (Nat.pow_le_pow_right (by omega) (by omega))),Nat.testBit_lt_two_pow (Nat.lt_of_lt_of_le (show y'<2 ^ 32 by omega) (Nat.pow_le_pow_right (by omega) (by omega)))]
   .exact h
  rw[jS,show (((0:Nat):Int)==0)=true from rfl,cond_true];have A:Zbl (Zau 64 (d:Int)) (Zbl 128 32)=((d-32:Nat):Int):=by
   rw[Zbs (by omega) (by omega),show Zbl (128:Int) 32=96 from rfl,ZcC (by omega) (by omega)];omega
  simp only[Ziy,Bool.not_false,cond_true,ZeQ,cond_false,Option.bind_some,A,lm];refine⟨_,rfl,?_⟩;refine bm (d-32) (fun i u g=>?_) (fun h=>?_)
  .have g:i<32:=g;show (y.testBit (32-1-i))=(y'.testBit (32-1-i));exact d3 _ (by omega)
  .have h:d-32<32:=h;show (y.testBit (32-1-(d-32)))≠(y'.testBit (32-1-(d-32)));rw[show 32-1-(d-32)=63-d by omega];exact d4 (by omega)
 |true=>
  have hb:∀(x y:Nat),y<2 ^ 64->∀i,bitN ⟨true,(x:Int),(y:Int)⟩ i=if 127-i<64 then y.testBit (127-i)else x.testBit (127-i-64):=fun x y hy i=>by
   unfold bitN num wid;simp only[if_true,Int.toNat_natCast];rw[Zoz (by omega)]
  by_cases hx:x ^^^ x'=0
  .rw[hx,show (((0:Nat):Int)==0)=true from rfl,cond_true];have hxx:x=x':=by
    apply Nat.eq_of_testBit_eq;intro j;exact E j (by have:=F.2 hx;omega)
   have A:Zau 64 (d:Int)=((64+d:Nat):Int):=by rw[Zbs (by omega) (by omega)];omega
   simp only[Ziy,Bool.not_true,cond_false,A,lm];refine⟨_,rfl,?_⟩;refine bm (64+d) (fun i u g=>?_) (fun h=>?_)
   .have g:i<128:=g;rw[hb x y (by omega),hb x' y' (by omega),hxx];split
    .exact d3 _ (by omega)
    .rfl
   .have h:64+d<128:=h;rw[hb x y (by omega),hb x' y' (by omega),iNb,iNb];rw[show 127-(64+d)=63-d by omega];exact d4 (by omega)
  .have M:o<64:=by
    rcases Nat.lt_or_ge o 64 with h|h
    .exact h
    .exact absurd (F.1 (by omega)) hx
   have hne:(((x ^^^ x':Nat):Int)==0)=false:=by
    rw[beq_eq_false_iff_ne];intro e;exact hx (by omega)
   rw[hne,cond_false];simp only[Ziy,Bool.not_true,cond_false,lm];refine⟨_,rfl,?_⟩;refine bm o (fun i u g=>?_) (fun h=>?_)
   .rw[hb x y (by omega),hb x' y' (by omega),iNa,iNa];exact E _ (by omega)
   .rw[hb x y (by omega),hb x' y' (by omega),iNa,iNa];rw[show 127-o-64=63-o by omega];exact L M
def Bel'(n:Nat)(f:Nat->Bool)(p:Zav):Prop:=n<=p.fBits.toNat/\∀i,i<n->bitN p.fAddr i=f i
def ext'(p:Zav)(b:Bool):Nat->Bool:=fun i=>if i<p.fBits.toNat then bitN p.fAddr i else b
theorem Zka{p q:Zav}{b:Bool}:Bel' (p.fBits.toNat+1) (ext' p b) q↔p.fBits.toNat<q.fBits.toNat/\(∀i,i<p.fBits.toNat->bitN q.fAddr i=bitN p.fAddr i)/\bitN q.fAddr p.fBits.toNat=b:=by
 unfold Bel' ext';constructor
 .rintro ⟨g,d⟩;refine⟨by omega,fun i e=>?_,?_⟩
  .have:=d i (by omega);rwa [if_pos e]at this
  .have:=d p.fBits.toNat (by omega);rwa [iNa]at this
 .rintro ⟨g,d,j⟩;refine⟨by omega,fun i e=>?_⟩;by_cases h:i<p.fBits.toNat
  .rw[if_pos h];exact d i h
  .rw[if_neg h,show i=p.fBits.toNat by omega];exact j
def Zoo(v:Bool):ZaG->Nat->(Nat->Bool)->Prop | .nil,_,_=>True | .mk h has k0 k1,n,f=>RN h.fNet/\h.fNet.fAddr.fV6=v/\Bel' n f h.fNet/\Zoo v k0 (h.fNet.fBits.toNat+1) (ext' h.fNet false)/\Zoo v k1 (h.fNet.fBits.toNat+1) (ext' h.fNet true)
def ZaL:ZaG->List ZaK | .nil=>[] | .mk h has k0 k1=>(if has then[h]else[])++ZaL k0++ZaL k1
theorem Zby{v:Bool}:∀{nd:ZaG}{n:Nat}{f:Nat->Bool},Zoo v nd n f->∀x∈ZaL nd,RN x.fNet/\x.fNet.fAddr.fV6=v/\Bel' n f x.fNet
 | .nil,_,_,_,x,hx=>by simp[ZaL]at hx
 | .mk h has A B,n,f,hg,x,hx=>by
  obtain⟨o,r,d,t,u⟩:=hg
  have hC:∀b,Bel' (h.fNet.fBits.toNat+1) (ext' h.fNet b) x.fNet->Bel' n f x.fNet:=fun b hb=>by
   obtain⟨b1,b2,_⟩:=Zka.1 hb
   have:=d.1
   exact⟨by omega,fun i y=>by rw[b2 i (by omega)];exact d.2 i y⟩
  simp only[ZaL,List.mem_append]at hx
  rcases hx with (hx|hx)|hx
  .split at hx
   .rw[List.mem_singleton]at hx;rw[hx];exact⟨o,r,d⟩
   .simp at hx
  .obtain⟨e,g,j⟩:=Zby t x hx
   exact⟨e,g,hC _ j⟩
  .obtain⟨e,g,j⟩:=Zby u x hx
   exact⟨e,g,hC _ j⟩
theorem Zoo.rebase{v:Bool}{nd:ZaG}{n m:Nat}{f g:Nat->Bool}(h:Zoo v nd n f)(hb:∀x has d e,nd=.mk x has d e->Bel' m g x.fNet):Zoo v nd m g:=by
 cases nd with
 |nil=>trivial
 |mk x has d e=>exact⟨h.1,h.2.1,hb x has d e rfl,h.2.2.2⟩
def ZlB(l:List ZaK)(n:Zav):Int×Bool:=match l.find? (fun x=>decide (x.fNet=n))with
 |some x=>(x.fV,true)
 |none=>(0,false)
theorem Zlp{l:List ZaK}{n:Zav}(h:∀x∈l,x.fNet≠n):l.find? (fun x=>decide (x.fNet=n))=none:=by
 rw[List.find?_eq_none];intro x hx;simpa using h x hx
theorem ZFY{v:Bool}{n:Zav}(j:RN n)(y:n.fAddr.fV6=v):∀fu (nd:ZaG) (m:Nat) (f:Nat->Bool),Zoo v nd m f->n.fBits.toNat+1<fu+m ->
  ZfM fu nd n=some (ZlB (ZaL nd) n)\/(n.fBits.toNat<m/\fu=0):=by
 intro fu;induction fu with
 |zero=>intro nd m f _ h;exact .inr ⟨by omega,rfl⟩
 |succ fu ih=>
  intro nd m f hg D;refine .inl ?_;cases nd with
  |nil=>rfl
  |mk h has d g=>
   obtain⟨A,B,C,o,r⟩:=hg;have E:wid h.fNet.fAddr=wid n.fAddr:=by unfold wid;rw[B,y]
   have b0:=fun x hx=>Zka.1 (Zby o x hx).2.2;have b1:=fun x hx=>Zka.1 (Zby r x hx).2.2;have hnn:=A.nn;have hnn':=j.nn;simp only[ZfM,Zag];by_cases hlt:h.fNet.fBits<n.fBits
   .rw[if_pos hlt];have t:=Zwu j h.fNet.fBits.toNat (by have:=j.le;omega);rw[Int.toNat_of_nonneg hnn]at t;rw[t];have u:∀x∈(if has then[h]else[]),x.fNet≠n:=fun x hx e=>by
     split at hx
     .rw[List.mem_singleton]at hx;subst hx;rw[e]at hlt;omega
     .simp at hx
    have gm:=C.1;cases hb:bitN n.fAddr h.fNet.fBits.toNat with
    |false=>
     simp only[Bool.false_eq_true,if_false,Option.bind_some];rw[Zap (by omega)];have i:ZlB (ZaL (.mk h has d g)) n=ZlB (ZaL d) n:=by
      unfold ZlB;simp only[ZaL];rw[List.find?_append,List.find?_append,Zlp u,Zlp (l:=ZaL g) fun x hx e=>by have:=(b1 x hx).2.2;rw[e,hb]at this;cases this];simp
     rw[i];rcases ih d _ _ o (by omega)with h|h
     .exact h
     .omega
    |true=>
     simp only[if_true,Option.bind_some];rw[Zap (by omega)];have i:ZlB (ZaL (.mk h has d g)) n=ZlB (ZaL g) n:=by
      unfold ZlB;simp only[ZaL];rw[List.find?_append,List.find?_append,Zlp u,Zlp (l:=ZaL d) fun x hx e=>by have:=(b0 x hx).2.2;rw[e,hb]at this;cases this];simp
     rw[i];rcases ih g _ _ r (by omega)with h|h
     .exact h
     .omega
   .rw[if_neg hlt];have i:ZlB (ZaL (.mk h has d g)) n=ZlB (if has then[h]else[]) n:=by
     unfold ZlB;simp only[ZaL];rw[List.find?_append,List.find?_append,Zlp (l:=ZaL d) fun x hx e=>by have:=(b0 x hx).1;rw[e]at this;omega,Zlp (l:=ZaL g) fun x hx e=>by have:=(b1 x hx).1;rw[e]at this;omega];simp
    rw[i];cases has with
    |false=>rfl
    |true=>
     by_cases e:h.fNet=n
     .simp[ZlB,e]
     .simp[ZlB,e]
theorem Zzg{v:Bool}{hit:ZaK}(d:RN hit.fNet)(r:hit.fNet.fAddr.fV6=v):∀fu (nd:ZaG) (m:Nat) (f:Nat->Bool),Zoo v nd m f->Bel' m f hit.fNet->hit.fNet.fBits.toNat+1<fu+m ->
  ∃i5,Zhn fu nd hit=some i5/\Zoo v i5 m f/\∀x,x∈ZaL i5↔x=hit\/(x∈ZaL nd/\x.fNet≠hit.fNet):=by
 intro fu;induction fu with
 |zero=>intro nd m f _ hb h;have:=hb.1;omega
 |succ fu ih=>
  intro nd m f hg eT Z;cases nd with
  |nil=>exact⟨_,rfl,⟨d,r,eT,trivial,trivial⟩,fun x=>by simp[ZaL]⟩
  |mk h has g j=>
   have iO:=hg;obtain⟨t,y,E,F,G⟩:=hg;have hwd:wid h.fNet.fAddr=wid hit.fNet.fAddr:=by unfold wid;rw[y,r]
   have b0:=fun x hx=>Zka.1 (Zby F x hx).2.2;have b1:=fun x hx=>Zka.1 (Zby G x hx).2.2;have i6:∀x∈ZaL (.mk h has g j),h.fNet.fBits.toNat<=x.fNet.fBits.toNat/\∀i,i<h.fNet.fBits.toNat->bitN x.fNet.fAddr i=bitN h.fNet.fAddr i:=fun x hx=>by
    simp only[ZaL,List.mem_append]at hx;rcases hx with (hx|hx)|hx
    .split at hx
     .rw[List.mem_singleton]at hx;rw[hx];exact⟨Nat.le_refl _,fun _ _=>rfl⟩
     .simp at hx
    .obtain⟨x1,x2,_⟩:=b0 x hx;exact⟨by omega,x2⟩
    .obtain⟨x1,x2,_⟩:=b1 x hx;exact⟨by omega,x2⟩
   have n1:=t.nn;have n2:=d.nn;have l1:=t.le;have l2:=d.le;obtain⟨k,U,c2,c3,H,V⟩:=ZKH t d (y.trans r.symm);simp only[Zhn,U,Option.bind_some,Zag];by_cases J:k<h.fNet.fBits.toNat
   .rw[iNb];have hbit:=Zwu t k (by omega);by_cases hH:k=hit.fNet.fBits.toNat
    .-- the new one stands above
     have e:((k:Int)==hit.fNet.fBits)=true:=by rw[beq_iff_eq];omega
     have hne:∀x∈ZaL (.mk h has g j),x.fNet≠hit.fNet:=fun x hx e=>by have:=(i6 x hx).1;rw[e]at this;omega
     have u:Bel' (hit.fNet.fBits.toNat+1) (ext' hit.fNet (bitN h.fNet.fAddr k)) h.fNet:=Zka.2 ⟨by omega,fun i o=>H i (by omega),by rw[<-hH]⟩;have hG:Zoo v (.mk h has g j) (hit.fNet.fBits.toNat+1) (ext' hit.fNet (bitN h.fNet.fAddr k)):=iO.rebase fun x _ _ _ e=>by cases e;exact u
     simp only[ZoG,e,cond_true,hbit,Option.bind_some];cases hb:bitN h.fNet.fAddr k with
     |false=>
      rw[hb]at hG;simp only[Bool.false_eq_true,if_false];rw[Zap (by omega)];refine⟨_,rfl,⟨d,r,eT,hG,trivial⟩,fun x=>?_⟩;have:ZaL (.mk hit true (.mk h has g j) .nil)=[hit]++ZaL (.mk h has g j):=by simp[ZaL]
      rw[this,List.mem_append,List.mem_singleton];exact or_congr Iff.rfl ⟨fun hx=>⟨hx,hne x hx⟩,fun hx=>hx.1⟩
     |true=>
      rw[hb]at hG;simp only[if_true];rw[Zap (by omega)];refine⟨_,rfl,⟨d,r,eT,trivial,hG⟩,fun x=>?_⟩;have:ZaL (.mk hit true .nil (.mk h has g j))=[hit]++ZaL (.mk h has g j):=by simp[ZaL]
      rw[this,List.mem_append,List.mem_singleton];exact or_congr Iff.rfl ⟨fun hx=>⟨hx,hne x hx⟩,fun hx=>hx.1⟩
    .-- they part
     have hk2:k<hit.fNet.fBits.toNat:=by omega
     have e:((k:Int)==hit.fNet.fBits)=false:=by rw[beq_eq_false_iff_ne];omega
     have c6:=V J hk2;have hne:∀x∈ZaL (.mk h has g j),x.fNet≠hit.fNet:=fun x hx e=>c6 (by rw[<-(i6 x hx).2 k J,e]);obtain⟨M,r2⟩:=ZOC d.ok d.right k (by omega);have hmk:Zht hit.fNet.fAddr (k:Int)=some (⟨ZjU hit.fNet.fAddr k,(k:Int)⟩,true):=by
      rw[ZDH _ d.ok,if_pos ⟨d.right,by omega,by omega⟩,Int.toNat_natCast]
     have hI:(⟨ZjU hit.fNet.fAddr k,(k:Int)⟩ : Zav).fBits.toNat=k:=Int.toNat_natCast k;have bu:∀i,i<k->bitN (ZjU hit.fNet.fAddr k) i=bitN hit.fNet.fAddr i:=fun i o=>by
      rw[Zld d.fits k i (by omega) (by omega),decide_eq_true o];rfl
     have W:m<=k:=by
      rcases Nat.lt_or_ge k m with hh|hh
      .exact absurd ((E.2 k hh).trans (eT.2 k hh).symm) c6
      .exact hh
     have O:Bel' m f ⟨ZjU hit.fNet.fAddr k,(k:Int)⟩:=⟨by rw[hI];exact W,fun i o=>by rw[bu i (by omega)];exact eT.2 i o⟩;have I:Zoo v (.mk h has g j) ((⟨ZjU hit.fNet.fAddr k,(k:Int)⟩ : Zav).fBits.toNat+1) (ext' ⟨ZjU hit.fNet.fAddr k,(k:Int)⟩ (bitN h.fNet.fAddr k)):=iO.rebase fun x _ _ _ e=>by
      cases e;exact Zka.2 ⟨by rw[hI];exact J,fun i o=>by rw[hI]at o;rw[bu i o];exact H i o,by rw[hI]⟩
     have hL:Zoo v (.mk hit true .nil .nil) ((⟨ZjU hit.fNet.fAddr k,(k:Int)⟩ : Zav).fBits.toNat+1) (ext' ⟨ZjU hit.fNet.fAddr k,(k:Int)⟩ (bitN hit.fNet.fAddr k)):=
      ⟨d,r,Zka.2 ⟨by rw[hI];exact hk2,fun i o=>by rw[hI]at o;rw[bu i o],by rw[hI]⟩,trivial,trivial⟩
     have bk:=Zwu d k (by omega);simp only[ZoG,e,cond_false,hmk,hbit,bk,Option.bind_some];cases hb:bitN h.fNet.fAddr k with
     |false=>
      have aN:bitN hit.fNet.fAddr k=true:=by
       cases L:bitN hit.fNet.fAddr k
       .rw[hb,L]at c6;exact absurd rfl c6
       .rfl
      rw[hb]at I;rw[aN]at hL;simp only[aN,Bool.false_eq_true,if_false,if_true];rw[Zap (by omega)];have C:∀(A B:Option ZaG),ix2 0 A B=A:=fun _ _=>rfl;have D:∀(A B:Option ZaG),ix2 1 A B=B:=fun _ _=>rfl;rw[C,Zap (by omega),D];refine⟨_,rfl,⟨M,by simp only[Zjj];exact r,O,I,hL⟩,fun x=>?_⟩;have:ZaL (.mk ⟨⟨ZjU hit.fNet.fAddr k,(k:Int)⟩,0⟩ false (.mk h has g j) (.mk hit true .nil .nil))=ZaL (.mk h has g j)++[hit]:=by simp[ZaL]
      rw[this,List.mem_append,List.mem_singleton,or_comm];exact or_congr Iff.rfl ⟨fun hx=>⟨hx,hne x hx⟩,fun hx=>hx.1⟩
     |true=>
      have aN:bitN hit.fNet.fAddr k=false:=by
       cases L:bitN hit.fNet.fAddr k
       .rfl
       .rw[hb,L]at c6;exact absurd rfl c6
      rw[hb]at I;rw[aN]at hL;simp only[aN,Bool.false_eq_true,if_false,if_true];rw[Zap (by omega)];have C:∀(A B:Option ZaG),ix2 0 A B=A:=fun _ _=>rfl;have D:∀(A B:Option ZaG),ix2 1 A B=B:=fun _ _=>rfl;rw[D,Zap (by omega),C];refine⟨_,rfl,⟨M,by simp only[Zjj];exact r,O,hL,I⟩,fun x=>?_⟩;have:ZaL (.mk ⟨⟨ZjU hit.fNet.fAddr k,(k:Int)⟩,0⟩ false (.mk hit true .nil .nil) (.mk h has g j))=[hit]++ZaL (.mk h has g j):=by simp[ZaL]
      rw[this,List.mem_append,List.mem_singleton];exact or_congr Iff.rfl ⟨fun hx=>⟨hx,hne x hx⟩,fun hx=>hx.1⟩
   .rw[iNa];have hH:k=h.fNet.fBits.toNat:=by omega
    by_cases hke:k=hit.fNet.fBits.toNat
    .-- it is there
     have e:((k:Int)==hit.fNet.fBits)=true:=by rw[beq_iff_eq];omega
     have ln:h.fNet=hit.fNet:=ZPW t d (y.trans r.symm) (by
      unfold bs;rw[<-hH,<-hke];apply List.map_congr_left;intro i o;exact H i (by simpa using o))
     rw[e,cond_true];refine⟨_,rfl,⟨d,r,eT,by rw[<-ln];exact F,by rw[<-ln];exact G⟩,fun x=>?_⟩;have n0:x∈ZaL g->x.fNet≠hit.fNet:=fun hx e=>by have:=(b0 x hx).1;rw[e]at this;omega
     have n1:x∈ZaL j->x.fNet≠hit.fNet:=fun hx e=>by have:=(b1 x hx).1;rw[e]at this;omega
     simp only[ZaL,List.mem_append,if_true,List.mem_singleton];constructor
     .rintro ((hx|hx)|hx)
      .exact .inl hx
      .exact .inr ⟨.inl (.inr hx),n0 hx⟩
      .exact .inr ⟨.inr hx,n1 hx⟩
     .rintro (hx|⟨(hx|hx)|hx,hne⟩)
      .exact .inl (.inl hx)
      .split at hx
       .rw[List.mem_singleton]at hx;rw[hx]at hne;exact absurd ln hne
       .simp at hx
      .exact .inl (.inr hx)
      .exact .inr hx
    .have e:((k:Int)==hit.fNet.fBits)=false:=by rw[beq_eq_false_iff_ne];omega
     have hbit:=Zwu d k (by omega);have u:Bel' (h.fNet.fBits.toNat+1) (ext' h.fNet (bitN hit.fNet.fAddr k)) hit.fNet:=Zka.2 ⟨by omega,fun i o=>(H i (by omega)).symm,by rw[<-hH]⟩;have nh:∀x∈(if has then[h]else[]),x.fNet≠hit.fNet:=fun x hx e=>by
      split at hx
      .rw[List.mem_singleton]at hx;rw[hx]at e;rw[e]at hH;omega
      .simp at hx
     have gm:=E.1;simp only[e,cond_false,hbit,Option.bind_some];cases hb:bitN hit.fNet.fAddr k with
     |false=>
      rw[hb]at u;simp only[Bool.false_eq_true,if_false];rw[Zap (by omega)];obtain⟨i5,w1,w2,w3⟩:=ih g _ _ F u (by omega);have C:∀(A B:Option ZaG),ix2 0 A B=A:=fun _ _=>rfl;rw[C,w1];refine⟨_,rfl,⟨t,y,E,w2,G⟩,fun x=>?_⟩;have n1:x∈ZaL j->x.fNet≠hit.fNet:=fun hx e=>by have:=(b1 x hx).2.2;rw[e,<-hH,hb]at this;cases this
      simp only[ZaL,List.mem_append,w3];constructor
      .rintro ((hx|hx|hx)|hx)
       .exact .inr ⟨.inl (.inl hx),nh x hx⟩
       .exact .inl hx
       .exact .inr ⟨.inl (.inr hx.1),hx.2⟩
       .exact .inr ⟨.inr hx,n1 hx⟩
      .rintro (hx|⟨(hx|hx)|hx,hne⟩)
       .exact .inl (.inr (.inl hx))
       .exact .inl (.inl hx)
       .exact .inl (.inr (.inr ⟨hx,hne⟩))
       .exact .inr hx
     |true=>
      rw[hb]at u;simp only[if_true];rw[Zap (by omega)];obtain⟨i5,w1,w2,w3⟩:=ih j _ _ G u (by omega);have D:∀(A B:Option ZaG),ix2 1 A B=B:=fun _ _=>rfl;rw[D,w1];refine⟨_,rfl,⟨t,y,E,F,w2⟩,fun x=>?_⟩;have n1:x∈ZaL g->x.fNet≠hit.fNet:=fun hx e=>by have:=(b0 x hx).2.2;rw[e,<-hH,hb]at this;cases this
      simp only[ZaL,List.mem_append,w3];constructor
      .rintro ((hx|hx)|hx|hx)
       .exact .inr ⟨.inl (.inl hx),nh x hx⟩
       .exact .inr ⟨.inl (.inr hx),n1 hx⟩
       .exact .inl hx
       .exact .inr ⟨.inr hx.1,hx.2⟩
      .rintro (hx|⟨(hx|hx)|hx,hne⟩)
       .exact .inr (.inl hx)
       .exact .inl (.inl hx)
       .exact .inl (.inr hx)
       .exact .inr (.inr ⟨hx,hne⟩)
def cov(a:Zaf)(x:ZaK):Bool:=decide (∀i,i<x.fNet.fBits.toNat->bitN a i=bitN x.fNet.fAddr i)
theorem Zmd{α:Type}{p:α->Bool}{l:List α}(h:∀x∈l,p x=false):l.filter p=[]:=by
 rw[List.filter_eq_nil_iff];intro x hx;rw[h x hx];simp
theorem Zwm{v:Bool}{a:Zaf}(ha:a.ok)(D:Zdo a=true)(y:a.fV6=v):∀fu (nd:ZaG) (m:Nat) (f:Nat->Bool) (w:List ZaK),Zoo v nd m f->(∀i,i<m->i<wid a->bitN a i=f i)->m<=wid a+1->wid a+1<fu+m->w.length<=m ->
  ZbT fu nd w a=some (w++(ZaL nd).filter (cov a)):=by
 have hwa:wid a<=128:=by unfold wid;split<;>omega
 intro fu;induction fu with
 |zero=>intro nd m f w _ _ _ h;omega
 |succ fu ih=>
  intro nd m f w hg H hmw I hl;cases nd with
  |nil=>simp[ZbT,ZaL]
  |mk h has o r=>
   obtain⟨C,E,G,t,u⟩:=hg;have hwd:wid h.fNet.fAddr=wid a:=by unfold wid;rw[E,y]
   have b0:=fun x hx=>Zka.1 (Zby t x hx).2.2;have b1:=fun x hx=>Zka.1 (Zby u x hx).2.2;have w0:=fun x hx=>(Zby t x hx);have w1:=fun x hx=>(Zby u x hx);have n1:=C.nn;have l1:=C.le;have gm:=G.1;simp only[ZbT,ZQf _ a C ha,D,decide_eq_true (E.trans y.symm),Bool.true_and,Option.bind_some,Zag];by_cases g:∀i,i<h.fNet.fBits.toNat->bitN a i=bitN h.fNet.fAddr i
   .rw[if_pos g];have lp:cov a h=true:=by unfold cov;rw[decide_eq_true_eq];exact g
    -- what lies below
    have i7:∀w':List ZaK,w'.length<=h.fNet.fBits.toNat+1->((Zjn a h.fNet.fBits).bind fun x6=>need (0<=x6/\x6<((2:Nat):Int))<|ix2 x6 (ZbT fu o w' a) (ZbT fu r w' a))=some (w'++((ZaL o).filter (cov a)++(ZaL r).filter (cov a))):=by
     intro w' lq;by_cases hb:h.fNet.fBits.toNat<wid a
     .have F:=ZLf (ZoT ha D) h.fNet.fBits.toNat hb;rw[Int.toNat_of_nonneg n1]at F;rw[F];cases hbit:bitN a h.fNet.fBits.toNat with
      |false=>
       simp only[Bool.false_eq_true,if_false,Option.bind_some];rw[Zap (by omega),show ∀(A B:Option (List ZaK)),ix2 0 A B=A from fun _ _=>rfl];rw[ih o _ _ w' t (fun i j co=>by
        unfold ext';by_cases d:i<h.fNet.fBits.toNat
        .rw[if_pos d];exact g i d
        .rw[if_neg d,show i=h.fNet.fBits.toNat by omega];exact hbit) (by omega) (by omega) lq]
       rw[Zmd (l:=ZaL r) fun x hx=>?_]
       .simp
       .unfold cov;rw[decide_eq_false_iff_not];intro e;obtain⟨x1,x2,x3⟩:=b1 x hx;have:=e _ x1;rw[hbit,x3]at this;cases this
      |true=>
       simp only[if_true,Option.bind_some];rw[Zap (by omega),show ∀(A B:Option (List ZaK)),ix2 1 A B=B from fun _ _=>rfl];rw[ih r _ _ w' u (fun i j co=>by
        unfold ext';by_cases d:i<h.fNet.fBits.toNat
        .rw[if_pos d];exact g i d
        .rw[if_neg d,show i=h.fNet.fBits.toNat by omega];exact hbit) (by omega) (by omega) lq]
       rw[Zmd (l:=ZaL o) fun x hx=>?_]
       .simp
       .unfold cov;rw[decide_eq_false_iff_not];intro e;obtain⟨x1,x2,x3⟩:=b0 x hx;have:=e _ x1;rw[hbit,x3]at this;cases this
     .-- a whole address: nothing lies below
      have bt:∀(hC:ZaG)(b:Bool),Zoo v hC (h.fNet.fBits.toNat+1) (ext' h.fNet b)->hC=.nil:=fun hC b dr=>by
       cases hC with
       |nil=>rfl
       |mk x hs J L=>
        have M:=dr.2.2.1.1;have O:=dr.1.le;have d:wid x.fNet.fAddr=wid a:=by unfold wid;rw[dr.2.1,y]
        omega
      rw[bt o _ t,bt r _ u];have i9:Zjn a h.fNet.fBits=some 0:=by
       simp only[Zjn,ZEH,Option.bind_some,Zag];rw[iNa,iNb]
      rw[i9];simp only[Option.bind_some];rw[Zap (by omega),show ∀(A B:Option (List ZaK)),ix2 0 A B=A from fun _ _=>rfl];have:=ih .nil (h.fNet.fBits.toNat+1) (ext' h.fNet false) w' trivial (fun i j co=>by
        unfold ext';rw[iNb];exact g i (by omega)) (by omega) (by omega) lq
      rw[this];simp[ZaL]
    cases has with
    |true=>
     simp only[cond_true,ZaL,if_true];rw[Zap ⟨by simp;omega,by unfold maxLen;simp;omega⟩,i7 _ (by simp;omega)];simp[lp]
    |false=>
     simp only[cond_false,ZaL,Bool.false_eq_true,if_false];rw[i7 _ (by omega)];simp
   .rw[if_neg g];rw[Zmd]
    .simp
    .intro x hx;unfold cov;rw[decide_eq_false_iff_not];intro e;apply g;intro i j;simp only[ZaL,List.mem_append]at hx;rcases hx with (hx|hx)|hx
     .split at hx
      .rw[List.mem_singleton]at hx;rw[hx]at e;exact e i j
      .simp at hx
     .obtain⟨x1,x2,_⟩:=b0 x hx;rw[e i (by omega)];exact x2 i j
     .obtain⟨x1,x2,_⟩:=b1 x hx;rw[e i (by omega)];exact x2 i j
theorem ZDu{a:Zaf}(h:Fits a)(i:Nat)(d:i<wid a):Zbq a (i:Int)=some (if bitN a i then 1 else 0):=by
 have r:=h.hi0;have t:=h.hi1;have u:=h.lo0;have y:=h.lo1;obtain⟨v,co,lo⟩:=a;obtain⟨p,g⟩:=ZjE h.hi0;obtain⟨q,j⟩:=ZjE h.lo0;simp only at g j r t u y;subst g j;have o:∀k:Nat,k<64->(IntKind.u64.wrap ((k:Nat):Int))=((k:Nat):Int):=fun k A=>ZgS (by omega) (by omega);cases v with
 |false=>
  have d:i<32:=d;have e:Zbl (31:Int) (i:Int)=((31-i:Nat):Int):=by rw[ZcC (by omega) (by omega)];omega
  simp only[Zbq,ZbE,ZcM,Zag,Option.bind_some,cond_false,Bool.not_false,cond_true,e,o (31-i) (by omega)];rw[iNa,iNa,Zap (by omega),Zsr q _ (by omega) (by omega)];rfl
 |true=>
  have d:i<128:=d;have hb:bitN ⟨true,(p:Int),(q:Int)⟩ i=if 127-i<64 then q.testBit (127-i)else p.testBit (127-i-64):=by
   unfold bitN num wid;simp only[if_true,Int.toNat_natCast];rw[Zoz (by omega)]
  rw[hb];have et:Int.tmod (i:Int) 64=((i % 64:Nat):Int):=by rw[Int.tmod_eq_emod_of_nonneg (by omega)];rfl
  have B:i % 64<64:=Nat.mod_lt _ (by omega);have e:Zbl (63:Int) ((i % 64:Nat):Int)=((63-i % 64:Nat):Int):=by rw[ZcC (by omega) (by omega)];omega
  simp only[Zbq,ZbE,ZcM,Zag,Option.bind_some,cond_false,Bool.not_true,cond_true,et,e,o (63-i % 64) (by omega)];rw[iNa,iNa];by_cases h64:i<64
  .rw[iNb,Zap (by omega),Zsr p _ (by omega) (by omega),if_neg (show ¬127-i<64 by omega),show 63-i % 64=127-i-64 by omega]
  .rw[iNa,Zap (by omega),Zsr q _ (by omega) (by omega),if_pos (show 127-i<64 by omega),show 63-i % 64=127-i by omega]
theorem ZsN(a:Zaf):ZbE a=some (wid a:Int):=by
 unfold ZbE wid;cases a.fV6<;>rfl
theorem Zss(a:Zaf):wid a<=128:=by unfold wid;split<;>omega
theorem ZQs{i:Nat}(h:i<=1000000):Zau (i:Int) 1=((i+1:Nat):Int):=by rw[Zbs (by omega) (by omega)];omega
theorem ZJe{p:Zav}(g:Fits p.fAddr):∀fu (i:Nat),i<=wid p.fAddr->wid p.fAddr-i<fu->∃r,ZeN fu (i:Int) p=some r/\(r=true↔∀j,i<=j->j<wid p.fAddr->bitN p.fAddr j=false):=by
 have y:=Zss p.fAddr;intro fu;induction fu with
 |zero=>intro _ _ h;omega
 |succ fu ih=>
  intro i A hfu;simp only[ZeN,ZsN,Option.bind_some,Zag];by_cases h:i<wid p.fAddr
  .rw[iNb,ZDu g i h,ZQs (by omega)];simp only[Option.bind_some];obtain⟨r,o,t⟩:=ih (i+1) (by omega) (by omega);cases hb:bitN p.fAddr i with
   |true=>
    simp only[if_true,beq_self_eq_true,cond_true];refine⟨false,rfl,?_⟩;simp only[Bool.false_eq_true,false_iff];intro u;have:=u i (Nat.le_refl _) h;rw[hb]at this;cases this
   |false=>
    simp only[Bool.false_eq_true,if_false];rw[show ((0:Int)==1)=false from rfl,cond_false];refine⟨r,o,t.trans ⟨fun q j e d=>?_,fun q j e d=>q j (by omega) d⟩⟩;by_cases v:j=i
    .subst v;exact hb
    .exact q j (by omega) d
  .rw[iNa];exact⟨true,rfl,by simp;intro j e d;omega⟩
theorem Zsc(p:Zav)(h:p.fAddr.ok):ZeT p=some (ZiI p):=by
 simp only[ZeT,ZjC p.fAddr h,ZsN,Option.bind_some,Zag];unfold ZiI;cases t:Zdo p.fAddr
 .simp
 .have d:=ZoT h t;simp only[Bool.not_true,cond_false,Bool.true_and];by_cases h0:p.fBits<0
  .rw[if_pos h0,show decide (0<=p.fBits)=false by rw[decide_eq_false_iff_not];omega];simp
  .rw[if_neg h0];by_cases g:p.fBits>(wid p.fAddr:Int)
   .rw[if_pos g,show decide (p.fBits<=(wid p.fAddr:Int))=false by rw[decide_eq_false_iff_not];omega];simp
   .rw[if_neg g,show decide (0<=p.fBits)=true by rw[decide_eq_true_eq];omega,show decide (p.fBits<=(wid p.fAddr:Int))=true by rw[decide_eq_true_eq];omega];have y:=Zss p.fAddr;obtain⟨r,o,u⟩:=ZJe d 1000000 p.fBits.toNat (by omega) (by omega);rw[Int.toNat_of_nonneg (by omega)]at o;rw[o,Option.some.injEq,Bool.true_and,Bool.true_and,Bool.eq_iff_iff,u,decide_eq_true_eq];constructor
    .intro q;refine ZrS (Zkc d _) d (Zjj _ _) fun i e=>?_;have e:i<wid p.fAddr:=by unfold wid at e ⊢;rwa [Zjj]at e
     rw[Zld d p.fBits.toNat i (by omega) e];by_cases hb:i<p.fBits.toNat
     .rw[decide_eq_true hb];rfl
     .rw[decide_eq_false hb,q i (by omega) e];rfl
    .intro q j A v;have:=Zld d p.fBits.toNat j (by omega) v;rw[q,decide_eq_false (by omega)]at this;exact this
def hasS(p:Zav)(a:Zaf):Bool:=ZiI p&&(Zdo a&&decide (p.fAddr.fV6=a.fV6)&&decide (∀i,i<p.fBits.toNat->bitN a i=bitN p.fAddr i))
theorem ZzE{p:Zav}{a:Zaf}(e:RN p)(ha:Fits a)(o:p.fAddr.fV6=a.fV6):∀fu (i:Nat),i<=p.fBits.toNat->p.fBits.toNat-i<fu->∃r,Zex fu (i:Int) p a=some r/\(r=true↔∀j,i<=j->j<p.fBits.toNat->bitN a j=bitN p.fAddr j):=by
 have A:=Zss p.fAddr;have hwa:wid p.fAddr=wid a:=by unfold wid;rw[o]
 have n1:=e.nn;have l1:=e.le;intro fu;induction fu with
 |zero=>intro _ _ h;omega
 |succ fu ih=>
  intro i B hfu;simp only[Zex,Zag];by_cases h:i<p.fBits.toNat
  .rw[iNb,ZDu e.fits i (by omega),ZDu ha i (by omega),ZQs (by omega)];simp only[Option.bind_some];obtain⟨r,t,u⟩:=ih (i+1) (by omega) (by omega);by_cases hb:bitN a i=bitN p.fAddr i
   .rw[hb];simp only[bne_self_eq_false,cond_false];refine⟨r,t,u.trans ⟨fun q j g d=>?_,fun q j g d=>q j (by omega) d⟩⟩;by_cases v:j=i
    .subst v;exact hb
    .exact q j (by omega) d
   .have hne:((if bitN p.fAddr i=true then(1:Int)else 0) != if bitN a i=true then 1 else 0)=true:=by
     revert hb
     cases bitN a i<;>cases bitN p.fAddr i<;>simp
    rw[hne,cond_true];refine⟨false,rfl,?_⟩;simp only[Bool.false_eq_true,false_iff];intro y;exact hb (y i (Nat.le_refl _) h)
  .rw[iNa];exact⟨true,rfl,by simp;intro j g d;omega⟩
theorem ZFx(p:Zav)(a:Zaf)(i:p.fAddr.ok)(ha:a.ok):Zhk p a=some (hasS p a):=by
 simp only[Zhk,Zsc p i,ZjC a ha,Option.bind_some];unfold hasS;cases o:ZiI p
 .rfl
 .have eU:=(Zvp i).1 o;simp only[Bool.not_true,cond_false,Bool.true_and];cases t:Zdo a
  .rfl
  .simp only[Bool.not_true,cond_false,Bool.true_and];by_cases d:p.fAddr.fV6=a.fV6
   .rw[show (!(p.fAddr.fV6==a.fV6))=false by simp[d],cond_false,decide_eq_true d,Bool.true_and];have v:=Zss p.fAddr;have n1:=eU.nn;have l1:=eU.le;obtain⟨r,e,u⟩:=ZzE eU (ZoT ha t) d 1000000 0 (by omega) (by omega);have e:Zex 1000000 0 p a=some r:=e;rw[e,Option.some.injEq,Bool.eq_iff_iff,u,decide_eq_true_eq];exact⟨fun q j g=>q j (by omega) g,fun q j _ g=>q j g⟩
   .rw[show (!(p.fAddr.fV6==a.fV6))=true by simp[d],cond_true,decide_eq_false d];rfl
def f0:Nat->Bool:=fun _=>false
def GT:Zbo->Prop | .nil=>False | .mk r4 r6 _=>Zoo false r4 0 f0/\Zoo true r6 0 f0
def Zjc:Zbo->List ZaK | .nil=>[] | .mk r4 r6 _=>ZaL r4++ZaL r6
theorem bel0(p:Zav):Bel' 0 f0 p:=⟨Nat.zero_le _,fun i d=>by omega⟩
theorem ZAd{t:Zbo}(h:GT t):∀x∈Zjc t,RN x.fNet:=by
 cases t with
 |nil=>exact h.elim
 |mk d e n=>
  intro x hx;simp only[Zjc,List.mem_append]at hx;rcases hx with hx|hx
  .exact(Zby h.1 x hx).1
  .exact(Zby h.2 x hx).1
theorem ZKk(a:Zaf):Zjk a=some (if a.fV6 then 1 else 0):=by
 unfold Zjk;cases a.fV6<;>rfl
theorem ZFa{t:Zbo}(h:GT t)(n:Zav)(g:n.fAddr.ok):Zkp t n=some (if ZiI n then ZlB (Zjc t) n else(0,false)):=by
 cases t with
 |nil=>exact h.elim
 |mk i j k=>
  simp only[Zkp,Zqi n g,Option.bind_some,ZKk];cases o:ZiI n
  .rfl
  .have eU:=(Zvp g).1 o;have hb:n.fBits.toNat<=128:=by have:=eU.le;have:=eU.nn;have:=Zss n.fAddr;omega
   simp only[Bool.not_true,cond_false,if_true];cases d:n.fAddr.fV6 with
   |false=>
    simp only[Bool.false_eq_true,if_false];rw[Zap (by omega),show ∀(A B:Option (Int×Bool)),ix2 0 A B=A from fun _ _=>rfl];rcases ZFY eU d 1000000 i 0 f0 h.1 (by omega)with e|e
    .rw[e];unfold ZlB;simp only[Zjc];rw[List.find?_append,Zlp (l:=ZaL j) fun x hx e=>by have:=(Zby h.2 x hx).2.1;rw[e,d]at this;cases this];simp
    .omega
   |true=>
    simp only[if_true];rw[Zap (by omega),show ∀(A B:Option (Int×Bool)),ix2 1 A B=B from fun _ _=>rfl];rcases ZFY eU d 1000000 j 0 f0 h.2 (by omega)with e|e
    .rw[e];unfold ZlB;simp only[Zjc];rw[List.find?_append,Zlp (l:=ZaL i) fun x hx e=>by have:=(Zby h.1 x hx).2.1;rw[e,d]at this;cases this];simp
    .omega
theorem ZIm{t:Zbo}(h:GT t)(n:Zav)(j:n.fAddr.ok)(val:Int)(o:ZiI n=true):∃t',ZgN t n val=some t'/\GT t'/\∀x,x∈Zjc t'↔x=⟨n,val⟩\/(x∈Zjc t/\x.fNet≠n):=by
 cases t with
 |nil=>exact h.elim
 |mk d g k=>
  have eU:=(Zvp j).1 o;have hb:n.fBits.toNat<=128:=by have:=eU.le;have:=eU.nn;have:=Zss n.fAddr;omega
  have hg:=ZFa h n j;simp only[ZgN,Zij,Zqi n j,o,hg,if_true,Option.bind_some,Bool.not_true,cond_false,ZKk];have ja:n.fAddr.fV6=false->∃r,Zhn 1000 d ⟨n,val⟩=some r/\Zoo false r 0 f0/\∀x,(x∈ZaL r\/x∈ZaL g)↔x=⟨n,val⟩\/((x∈ZaL d\/x∈ZaL g)/\x.fNet≠n):=fun i=>by
   obtain⟨r,w1,w2,w3⟩:=Zzg (hit:=⟨n,val⟩) eU i 1000 d 0 f0 h.1 (bel0 _) (by simp only;omega);refine⟨r,w1,w2,fun x=>?_⟩;rw[w3 x];have u:x∈ZaL g->x.fNet≠n:=fun hx e=>by have:=(Zby h.2 x hx).2.1;rw[e,i]at this;cases this
   constructor
   .rintro ((hx|hx)|hx)
    .exact .inl hx
    .exact .inr ⟨.inl hx.1,hx.2⟩
    .exact .inr ⟨.inr hx,u hx⟩
   .rintro (hx|⟨hx|hx,hne⟩)
    .exact .inl (.inl hx)
    .exact .inl (.inr ⟨hx,hne⟩)
    .exact .inr hx
  have jb:n.fAddr.fV6=true->∃r,Zhn 1000 g ⟨n,val⟩=some r/\Zoo true r 0 f0/\∀x,(x∈ZaL d\/x∈ZaL r)↔x=⟨n,val⟩\/((x∈ZaL d\/x∈ZaL g)/\x.fNet≠n):=fun i=>by
   obtain⟨r,w1,w2,w3⟩:=Zzg (hit:=⟨n,val⟩) eU i 1000 g 0 f0 h.2 (bel0 _) (by simp only;omega);refine⟨r,w1,w2,fun x=>?_⟩;rw[w3 x];have v:x∈ZaL d->x.fNet≠n:=fun hx e=>by have:=(Zby h.1 x hx).2.1;rw[e,i]at this;cases this
   constructor
   .rintro (hx|hx|hx)
    .exact .inr ⟨.inl hx,v hx⟩
    .exact .inl hx
    .exact .inr ⟨.inr hx.1,hx.2⟩
   .rintro (hx|⟨hx|hx,hne⟩)
    .exact .inr (.inl hx)
    .exact .inl hx
    .exact .inr (.inr ⟨hx,hne⟩)
  have y:∀(A B:Option Zbo),ix2 0 A B=A:=fun _ _=>rfl;have C:∀(A B:Option Zbo),ix2 1 A B=B:=fun _ _=>rfl;cases i:n.fAddr.fV6 with
  |false=>
   obtain⟨r,w1,w2,w3⟩:=ja i;cases(ZlB (Zjc (.mk d g k)) n).2 <;>
   .simp only[Bool.not_false,Bool.not_true,cond_true,cond_false,Bool.false_eq_true,if_false];rw[Zap (by omega),y,w1];exact⟨_,rfl,⟨w2,h.2⟩,fun x=>by simp only[Zjc,List.mem_append];exact w3 x⟩
  |true=>
   obtain⟨r,w1,w2,w3⟩:=jb i;cases(ZlB (Zjc (.mk d g k)) n).2 <;>
   .simp only[Bool.not_false,Bool.not_true,cond_true,cond_false,if_true];rw[Zap (by omega),C,w1];exact⟨_,rfl,⟨h.1,w2⟩,fun x=>by simp only[Zjc,List.mem_append];exact w3 x⟩
theorem ZoC{v:Bool}:∀{nd:ZaG}{n:Nat}{f:Nat->Bool},Zoo v nd n f->(ZaL nd).Pairwise fun x y=>x.fNet≠y.fNet
 | .nil,_,_,_=>List.Pairwise.nil
 | .mk h has t u,n,f,hg=>by
  obtain⟨A,B,C,g,i⟩:=hg
  have b0:=fun x hx=>Zka.1 (Zby g x hx).2.2
  have b1:=fun x hx=>Zka.1 (Zby i x hx).2.2
  have j:∀x∈(if has then[h]else[]),x.fNet=h.fNet:=fun x hx=>by
   split at hx
   .rw[List.mem_singleton]at hx;rw[hx]
   .simp at hx
  simp only[ZaL]
  rw[List.pairwise_append,List.pairwise_append]
  refine⟨⟨?_,ZoC g,fun x hx y d e=>?_⟩,ZoC i,fun x hx y d e=>?_⟩
  .split
   .exact List.pairwise_singleton _ _
   .exact List.Pairwise.nil
  .have:=(b0 y d).1
   rw[<-e,j x hx]at this;omega
  .rcases List.mem_append.1 hx with hx|hx
   .have:=(b1 y d).1
    rw[<-e,j x hx]at this;omega
   .have o:=(b0 x hx).2.2
    have r:=(b1 y d).2.2
    rw[e,r]at o;cases o
theorem ZAe{t:Zbo}(h:GT t):(Zjc t).Pairwise fun x y=>x.fNet≠y.fNet:=by
 cases t with
 |nil=>exact h.elim
 |mk j o k=>
  simp only[Zjc];rw[List.pairwise_append];refine⟨ZoC h.1,ZoC h.2,fun x hx y g e=>?_⟩;have d:=(Zby h.1 x hx).2.1;have i:=(Zby h.2 y g).2.1;rw[e,i]at d;cases d
theorem ZJT{l:List ZaK}{n:Zav}(h:(ZlB l n).2=true):∃x∈l,x.fNet=n/\x.fV=(ZlB l n).1:=by
 unfold ZlB at h ⊢;cases d:l.find? (fun x=>decide (x.fNet=n))with
 |none=>rw[d]at h;cases h
 |some x=>
  have:=List.find?_some d;exact⟨x,List.mem_of_find?_eq_some d,by simpa using this,rfl⟩
theorem ZMP{l:List ZaK}{n:Zav}(h:(ZlB l n).2=false):∀x∈l,x.fNet≠n:=by
 unfold ZlB at h;cases d:l.find? (fun x=>decide (x.fNet=n))with
 |none=>rw[List.find?_eq_none]at d;intro x hx;simpa using d x hx
 |some x=>rw[d]at h;cases h
theorem ZNm{l:List ZaK}(h:l.Pairwise fun x y=>x.fNet≠y.fNet){x y:ZaK}(hx:x∈l)(r:y∈l)(e:x.fNet=y.fNet):x=y:=by
 obtain⟨i,d,rfl⟩:=List.getElem_of_mem hx;obtain⟨j,g,rfl⟩:=List.getElem_of_mem r;have o:=List.pairwise_iff_getElem.1 h;rcases Nat.lt_trichotomy i j with h1|h1|h1
 .exact absurd e (o i j d g h1)
 .subst h1;rfl
 .exact absurd e.symm (o j i g d h1)
theorem ZrM{v:Bool}{a:Zaf}(d:a.fV6=v):∀{nd:ZaG}{m:Nat}{f:Nat->Bool},Zoo v nd m f->m<=wid a+1->((ZaL nd).filter (cov a)).length+m<=wid a+1
 | .nil,m,f,_,h=>by simp[ZaL];exact h
 | .mk h has o r,m,f,hg,y=>by
  obtain⟨g,t,u,i,j⟩:=hg
  have b0:=fun x hx=>Zka.1 (Zby i x hx).2.2
  have b1:=fun x hx=>Zka.1 (Zby j x hx).2.2
  have A:wid h.fNet.fAddr=wid a:=by unfold wid;rw[t,d]
  have n1:=g.nn;have l1:=g.le;have gm:=u.1
  have i0:=ZrM d i (by omega)
  have i1:=ZrM d j (by omega)
  have B:((if has then[h]else[]).filter (cov a)).length<=1:=by
   split
   .exact List.length_filter_le _ _
   .simp
  have C:((ZaL o).filter (cov a)).length=0\/((ZaL r).filter (cov a)).length=0:=by
   cases hb:bitN a h.fNet.fBits.toNat with
   |false=>
    refine .inr ?_;rw[Zmd]
    .rfl
    .intro x hx;unfold cov;rw[decide_eq_false_iff_not];intro e;obtain⟨x1,x2,x3⟩:=b1 x hx;have:=e _ x1;rw[hb,x3]at this;cases this
   |true=>
    refine .inl ?_;rw[Zmd]
    .rfl
    .intro x hx;unfold cov;rw[decide_eq_false_iff_not];intro e;obtain⟨x1,x2,x3⟩:=b0 x hx;have:=e _ x1;rw[hb,x3]at this;cases this
  simp only[ZaL,List.filter_append,List.length_append];omega
theorem ZGG{t:Zbo}(h:GT t)(a:Zaf)(ha:a.ok):∃L,ZkJ t a=some L/\L.length<=maxLen/\∀x,x∈L↔x∈Zjc t/\hasS x.fNet a=true:=by
 cases t with
 |nil=>exact h.elim
 |mk j o k=>
  simp only[ZkJ,Zom a ha,Option.bind_some,ZKk];cases g:Zdo a
  .exact⟨[],rfl,by simp,fun x=>by simp[hasS,g]⟩
  .simp only[Bool.not_true,cond_false];have y:=Zss a;have r:∀(A B:Option (List ZaK)),ix2 0 A B=A:=fun _ _=>rfl;have u:∀(A B:Option (List ZaK)),ix2 1 A B=B:=fun _ _=>rfl;have hs:∀x:ZaK,RN x.fNet->hasS x.fNet a=(decide (x.fNet.fAddr.fV6=a.fV6)&&cov a x):=fun x hx=>by
    unfold hasS cov;rw[(Zvp hx.ok).2 hx,g,Bool.true_and,Bool.true_and]
   cases e:a.fV6 with
   |false=>
    simp only[Bool.false_eq_true,if_false];rw[Zap (by omega),r,Zwm ha g e 1000000 j 0 f0 [] h.1 (fun i v=>by omega) (by omega) (by omega) (by simp)];refine⟨_,rfl,by have:=ZrM e h.1 (by omega);unfold maxLen;simp only[List.nil_append];omega,fun x=>?_⟩;simp only[List.nil_append,List.mem_filter,Zjc,List.mem_append];constructor
    .rintro ⟨hx,d⟩;have:=Zby h.1 x hx;rw[hs x this.1,this.2.1,e,d];exact⟨.inl hx,rfl⟩
    .rintro ⟨hx|hx,d⟩
     .have:=Zby h.1 x hx;rw[hs x this.1,Bool.and_eq_true]at d;exact⟨hx,d.2⟩
     .have:=Zby h.2 x hx;rw[hs x this.1,this.2.1,e]at d;simp at d
   |true=>
    simp only[if_true];rw[Zap (by omega),u,Zwm ha g e 1000000 o 0 f0 [] h.2 (fun i v=>by omega) (by omega) (by omega) (by simp)];refine⟨_,rfl,by have:=ZrM e h.2 (by omega);unfold maxLen;simp only[List.nil_append];omega,fun x=>?_⟩;simp only[List.nil_append,List.mem_filter,Zjc,List.mem_append];constructor
    .rintro ⟨hx,d⟩;have:=Zby h.2 x hx;rw[hs x this.1,this.2.1,e,d];exact⟨.inr hx,rfl⟩
    .rintro ⟨hx|hx,d⟩
     .have:=Zby h.1 x hx;rw[hs x this.1,this.2.1,e]at d;simp at d
     .have:=Zby h.2 x hx;rw[hs x this.1,Bool.and_eq_true]at d;exact⟨hx,d.2⟩
structure Idx (ae:Int) (t:Zbo) (l:List Zac):Prop where
 gt:GT t
 from_:∀x∈Zjc t,∃b∈l,ae<b.fUntil/\b.fNet=x.fNet/\b.fUntil=x.fV
 has:∀b∈l,ae<b.fUntil->ZiI b.fNet=true->∃x∈Zjc t,x.fNet=b.fNet/\b.fUntil<=x.fV
theorem Zxj{ae:Int}{t:Zbo}{l:List Zac}{b:Zac}(h:Idx ae t l)(hb:ae<b.fUntil->ZiI b.fNet=true->∃x∈Zjc t,x.fNet=b.fNet/\b.fUntil<=x.fV):Idx ae t (l++[b]):=
 ⟨h.gt,fun x hx=>by obtain⟨c,d,e⟩:=h.from_ x hx;exact⟨c,by simp[d],e⟩,fun c hc d e=>by
  rcases List.mem_append.1 hc with hc|hc
  .exact h.has c hc d e
  .rw[List.mem_singleton]at hc;subst hc;exact hb d e⟩
theorem Zxi{ae:Int}{t:Zbo}{l:List Zac}{b:Zac}(h:Idx ae t l)(hb:b.fNet.fAddr.ok)(hl:ae<b.fUntil)(db:∀x∈Zjc t,x.fNet=b.fNet->x.fV<=b.fUntil):∃t',ZgN t b.fNet b.fUntil=some t'/\Idx ae t' (l++[b]):=by
 cases i:ZiI b.fNet with
 |true=>
  obtain⟨t',w1,w2,w3⟩:=ZIm h.gt b.fNet hb b.fUntil i;refine⟨t',w1,w2,fun x hx=>?_,fun c hc d g=>?_⟩
  .rcases(w3 x).1 hx with e|⟨hx,hne⟩
   .subst e;exact⟨b,by simp,hl,rfl,rfl⟩
   .obtain⟨c,d,g⟩:=h.from_ x hx;exact⟨c,by simp[d],g⟩
  .by_cases e:c.fNet=b.fNet
   .refine⟨⟨b.fNet,b.fUntil⟩,(w3 _).2 (.inl rfl),e.symm,?_⟩;rcases List.mem_append.1 hc with hc|hc
    .obtain⟨x,x1,x2,x3⟩:=h.has c hc d g;have:=db x x1 (x2.trans e);simp only;omega
    .rw[List.mem_singleton]at hc;subst hc;exact Int.le_refl _
   .rcases List.mem_append.1 hc with hc|hc
    .obtain⟨x,x1,x2,x3⟩:=h.has c hc d g;exact⟨x,(w3 x).2 (.inr ⟨x1,fun q=>e (x2.symm.trans q)⟩),x2,x3⟩
    .rw[List.mem_singleton]at hc;subst hc;exact absurd rfl e
 |false=>
  refine⟨t,?_,Zxj h fun _ q=>by rw[i]at q;cases q⟩;cases t with
  |nil=>exact h.gt.elim
  |mk j o k=>
   simp only[ZgN,Zij,Zqi b.fNet hb,i,Option.bind_some,Bool.not_false,cond_true]
theorem ZKY(b:Zac)(ae:Int):Zuc b ae=some (decide (ae<b.fUntil)):=rfl
theorem ZHu(l:List Zac)(ae:Int)(hl:l.length<=maxLen)(ar:∀b∈l,b.ok):∀fu (i:Nat) (t:Zbo),i<=l.length->l.length-i<fu->Idx ae t (l.take i)->∃t',ZfJ ae fu t l (l.length:Int) (i:Int)=some t'/\Idx ae t' l:=by
 intro fu;induction fu with
 |zero=>intro _ _ _ h;omega
 |succ fu ih=>
  intro i t o r h;simp only[ZfJ,Zag];by_cases hlt:i<l.length
  .rw[iNb,Zap ⟨by omega,by omega⟩];simp only[Int.toNat_natCast];have eQ:=ar _ (ZbU l Zac.d i hlt);have dH:l.take (i+1)=l.take i++[l.getD i Zac.d]:=by rw[List.take_succ_eq_append_getElem hlt,ZbH l _ i hlt]
   generalize l.getD i Zac.d=b at eQ dH ⊢;rw[ZFa h.gt b.fNet eQ.1.1,ZKY];simp only[Option.bind_some];rw[add1 hlt hl];have next:∀t',Idx ae t' (l.take i++[b])->∃t'',ZfJ ae fu t' l (l.length:Int) ((i+1:Nat):Int)=some t''/\Idx ae t'' l:=fun t' kz=>ih (i+1) t' (by omega) (by omega) (by rw[dH];exact kz)
   by_cases hlv:ae<b.fUntil
   .rw[decide_eq_true hlv,cond_true];cases j:ZiI b.fNet with
    |false=>
     simp only[Bool.false_eq_true,if_false,Bool.not_false,cond_true];obtain⟨t',s1,s2⟩:=Zxi h eQ.1.1 hlv (fun x hx e=>by
      have:=(Zvp eQ.1.1).2 (e ▸ ZAd h.gt x hx);rw[j]at this;cases this)
     rw[s1];exact next t' s2
    |true=>
     simp only[if_true];cases g:(ZlB (Zjc t) b.fNet).2 with
     |false=>
      simp only[Bool.not_false,cond_true];obtain⟨t',s1,s2⟩:=Zxi h eQ.1.1 hlv (fun x hx e=>absurd e (ZMP g x hx));rw[s1];exact next t' s2
     |true=>
      simp only[Bool.not_true,cond_false];obtain⟨y,y1,y2,y3⟩:=ZJT g;by_cases hlt2:(ZlB (Zjc t) b.fNet).1<b.fUntil
      .rw[if_pos hlt2];obtain⟨t',s1,s2⟩:=Zxi h eQ.1.1 hlv (fun x hx e=>by
        have:=ZNm (ZAe h.gt) hx y1 (e.trans y2.symm);rw[this];omega)
       rw[s1];exact next t' s2
      .rw[if_neg hlt2];exact next t (Zxj h fun _ _=>⟨y,y1,y2,by omega⟩)
   .rw[decide_eq_false hlv,cond_false];exact next t (Zxj h fun q=>absurd q hlv)
  .rw[iNa];refine⟨t,rfl,?_⟩;rw[List.take_of_length_le (by omega)]at h;exact h
theorem ZMN(l:List Zac)(ae:Int)(hl:l.length<=maxLen)(ar:∀b∈l,b.ok):∃t,ZpD l ae=some t/\Idx ae t l:=by
 have:=ZHu l ae hl ar ((((l.length:Nat):Int)-(0:Int)).toNat+2) 0 (.mk .nil .nil 0) (by omega) (by omega) ⟨⟨trivial,trivial⟩,fun x hx=>by simp[Zjc,ZaL]at hx,fun b hb=>by simp at hb⟩;simpa[ZpD,Zsj]using this
def Zmj(l:List Zac)(a:Zaf)(ae:Int)(b:Zac):Prop:=b∈l/\ae<b.fUntil/\hasS b.fNet a=true
def Zyd(l:List Zac)(a:Zaf)(ae r:Int):Prop:=(r=0/\∀b,¬Zmj l a ae b)\/∃b,Zmj l a ae b/\r=b.fUntil/\∀c,Zmj l a ae c->c.fUntil<=r
theorem ZHo{l l':List Zac}{a:Zaf}{ae r s:Int}(h:Zyd l a ae r)(h':Zyd l' a ae s)(e:∀b,Zmj l a ae b↔Zmj l' a ae b):r=s:=by
 rcases h with⟨i,j⟩|⟨b,i,j,t⟩
 .rcases h' with⟨d,g⟩|⟨c,d,g,o⟩
  .omega
  .exact absurd ((e c).2 d) (j c)
 .rcases h' with⟨d,g⟩|⟨c,d,g,o⟩
  .exact absurd ((e b).1 i) (g b)
  .have:=t c ((e c).2 d);have:=o b ((e b).1 i);omega
theorem ZMD(L:List ZaK)(hL:L.length<=maxLen):∀fu (i:Nat) (v:Int),i<=L.length->L.length-i<fu->∃r,Zkx fu v L (L.length:Int) (i:Int)=some r/\v<=r/\(∀x∈L.drop i,x.fV<=r)/\(r=v\/∃x∈L.drop i,r=x.fV):=by
 intro fu;induction fu with
 |zero=>intro _ _ _ h;omega
 |succ fu ih=>
  intro i v u A;simp only[Zkx,Zag];by_cases h:i<L.length
  .rw[iNb,Zap ⟨by omega,by omega⟩];simp only[Int.toNat_natCast];rw[add1 h hL,Zez L ZaK.d i h];generalize L.getD i ZaK.d=x;obtain⟨r,j,g,o,t⟩:=ih (i+1) (if x.fV>v then x.fV else v) (by omega) (by omega);refine⟨r,j,by split at g<;>omega,fun y hy=>?_,?_⟩
   .rcases List.mem_cons.1 hy with e|hy
    .subst e;split at g<;>omega
    .exact o y hy
   .rcases t with e|⟨y,y1,y2⟩
    .split at e
     .exact .inr ⟨x,by simp,e⟩
     .exact .inl e
    .exact .inr ⟨y,by simp[y1],y2⟩
  .rw[iNa];have:L.drop i=[]:=List.drop_eq_nil_of_le (by omega);exact⟨v,rfl,Int.le_refl _,by simp[this],.inl rfl⟩
theorem ZLu(l:List Zac)(a:Zaf)(ae:Int)(hl:l.length<=maxLen)(ar:∀b∈l,b.ok)(ha:a.ok):∃r,Znc l a ae=some r/\Zyd l a ae r:=by
 obtain⟨t,t1,t2⟩:=ZMN l ae hl ar;obtain⟨L,u,hL,g⟩:=ZGG t2.gt a ha;simp only[Znc,t1,u,Option.bind_some];have one:∀x∈L,∃b,Zmj l a ae b/\b.fUntil=x.fV:=fun x hx=>by
  obtain⟨x1,x2⟩:=(g x).1 hx;obtain⟨b,b1,b2,b3,b4⟩:=t2.from_ x x1;exact⟨b,⟨b1,b2,by rw[b3];exact x2⟩,b4⟩
 have jD:∀b,Zmj l a ae b->∃x∈L,b.fUntil<=x.fV:=fun b hb=>by
  have v:ZiI b.fNet=true:=by have:=hb.2.2;unfold hasS at this;rw[Bool.and_eq_true]at this;exact this.1
  obtain⟨x,x1,x2,x3⟩:=t2.has b hb.1 hb.2.1 v;exact⟨x,(g x).2 ⟨x1,by rw[x2];exact hb.2.2⟩,x3⟩
 by_cases h0:L=[]
 .subst h0;refine⟨0,rfl,.inl ⟨rfl,fun b hb=>?_⟩⟩;obtain⟨x,hx,_⟩:=jD b hb;simp at hx
 .have g4:0<L.length:=List.length_pos_iff.2 h0;rw[show (((L.length:Nat):Int)==0)=false by rw[beq_eq_false_iff_ne];omega,cond_false,Zap ⟨by omega,by omega⟩];obtain⟨r,i,B,j,o⟩:=ZMD L hL ((((L.length:Nat):Int)-(0:Int)).toNat+2) 0 (L.getD (0:Int).toNat ZaK.d).fV (by omega) (by omega);simp only[Int.natCast_zero,List.drop_zero]at i j o;refine⟨r,i,.inr ?_⟩;have cV:∃x∈L,r=x.fV:=by
   rcases o with e|e
   .exact⟨_,ZbU L ZaK.d 0 g4,e⟩
   .exact e
  obtain⟨x,x1,x2⟩:=cV;obtain⟨b,b1,b2⟩:=one x x1;refine⟨b,b1,by omega,fun c A=>?_⟩;obtain⟨y,y1,y2⟩:=jD c A;have:=j y y1;omega
theorem ZwN(l:List Zac)(a:Zaf)(ae:Int)(hl:l.length<=maxLen)(ar:∀b∈l,b.ok)(ha:a.ok):∀fu (i:Nat) (v:Int) (q:Bool),i<=l.length->l.length-i<fu ->
  ∃r,ZbZ l ae fu v q (i:Int) a=some r/\(∀b,Zmj (l.drop i) a ae b->b.fUntil<=r)/\(q=true->v<=r)/\(r=v\/∃b,Zmj (l.drop i) a ae b/\r=b.fUntil)/\(q=false->(∃b,Zmj (l.drop i) a ae b)->∃b,Zmj (l.drop i) a ae b/\r=b.fUntil):=by
 intro fu;induction fu with
 |zero=>intro _ _ _ _ h;omega
 |succ fu ih=>
  intro i v q I t;simp only[ZbZ,Zag];by_cases h:i<l.length
  .rw[iNb,Zap ⟨by omega,by omega⟩];simp only[Int.toNat_natCast];have eQ:=ar _ (ZbU l Zac.d i h);rw[add1 h hl,Zez l Zac.d i h];generalize l.getD i Zac.d=b at eQ ⊢;have lr:Ziw b a ae=some (decide (ae<b.fUntil)&&hasS b.fNet a):=by
    simp only[Ziw,ZFx _ _ eQ.1.1 ha,Zag,gt_iff_lt,Option.bind_some];by_cases h:ae<b.fUntil
    .rw[if_pos h,decide_eq_true h];rfl
    .rw[if_neg h,decide_eq_false h];rfl
   rw[lr];simp only[Option.bind_some];have cG:∀c,Zmj (l.drop (i+1)) a ae c->Zmj (b :: l.drop (i+1)) a ae c:=fun c g=>⟨by simp[g.1],g.2⟩;cases u:(decide (ae<b.fUntil)&&hasS b.fNet a)with
   |false=>
    simp only[cond_false];have bt:∀c,Zmj (b :: l.drop (i+1)) a ae c↔Zmj (l.drop (i+1)) a ae c:=fun c=>by
     refine⟨fun g=>⟨?_,g.2⟩,cG c⟩;rcases List.mem_cons.1 g.1 with e|hm
     .subst e;rw[decide_eq_true g.2.1,g.2.2]at u;cases u
     .exact hm
    obtain⟨r,A,B,C,y,D⟩:=ih (i+1) v q (by omega) (by omega);refine⟨r,A,fun c g=>B c ((bt c).1 g),C,?_,fun t hx=>?_⟩
    .rcases y with e|⟨c,j,o⟩
     .exact .inl e
     .exact .inr ⟨c,cG c j,o⟩
    .obtain⟨c,g⟩:=hx;obtain⟨d,d1,d2⟩:=D t ⟨c,(bt c).1 g⟩;exact⟨d,cG d d1,d2⟩
   |true=>
    simp only[cond_true];rw[Bool.and_eq_true,decide_eq_true_eq]at u;have hb:Zmj (b :: l.drop (i+1)) a ae b:=⟨by simp,u⟩
    -- what follows from a step that took b's,or something longer
    have step:∀v',b.fUntil<=v'->(q=true->v<=v')->(v'=b.fUntil\/(q=true/\v'=v))->∃r,ZbZ l ae fu v' true ((i+1:Nat):Int) a=some r/\(∀c,Zmj (b :: l.drop (i+1)) a ae c->c.fUntil<=r)/\(q=true->v<=r)/\(r=v\/∃c,Zmj (b :: l.drop (i+1)) a ae c/\r=c.fUntil)/\(q=false->(∃c,Zmj (b :: l.drop (i+1)) a ae c)->∃c,Zmj (b :: l.drop (i+1)) a ae c/\r=c.fUntil):=by
     intro v' J H E;obtain⟨r,A,B,C,y,D⟩:=ih (i+1) v' true (by omega) (by omega);have r3':=C rfl;refine⟨r,A,fun c g=>?_,fun dN=>by have:=H dN;omega,?_,fun t _=>?_⟩
     .rcases List.mem_cons.1 g.1 with e|hm
      .subst e;omega
      .exact B c ⟨hm,g.2⟩
     .rcases y with e|⟨c,j,o⟩
      .rcases E with F|⟨_,F⟩
       .exact .inr ⟨b,hb,by omega⟩
       .exact .inl (by omega)
      .exact .inr ⟨c,cG c j,o⟩
     .rcases y with e|⟨c,j,o⟩
      .rcases E with F|⟨G,_⟩
       .exact⟨b,hb,by omega⟩
       .rw[t]at G;cases G
      .exact⟨c,cG c j,o⟩
    cases q with
    |false=>
     rw[Bool.not_false,cond_true];exact step b.fUntil (Int.le_refl _) (fun h=>by cases h) (.inl rfl)
    |true=>
     rw[Bool.not_true,cond_false];by_cases hgt:b.fUntil>v
     .rw[if_pos hgt];exact step b.fUntil (Int.le_refl _) (fun _=>by omega) (.inl rfl)
     .rw[if_neg hgt];exact step v (by omega) (fun _=>Int.le_refl _) (.inr ⟨rfl,rfl⟩)
  .rw[iNa];have:l.drop i=[]:=List.drop_eq_nil_of_le (by omega);rw[this];exact⟨v,rfl,fun b hb=>by simp[Zmj]at hb,fun _=>Int.le_refl _,.inl rfl,fun _ ⟨b,hb⟩=>by simp[Zmj]at hb⟩
theorem Zts(l:List Zac)(a:Zaf)(ae:Int)(hl:l.length<=maxLen)(ar:∀b∈l,b.ok)(ha:a.ok):∃r,Zcm l a ae=some r/\Zyd l a ae r:=by
 obtain⟨r,d,g,o,i,j⟩:=ZwN l a ae hl ar ha ((((l.length:Nat):Int)-(0:Int)).toNat+2) 0 0 false (by omega) (by omega);simp only[Int.natCast_zero,List.drop_zero]at d g i j;refine⟨r,d,?_⟩;by_cases h:∃b,Zmj l a ae b
 .obtain⟨b,b1,b2⟩:=j trivial h;exact .inr ⟨b,b1,b2,g⟩
 .refine .inl ⟨?_,fun b hb=>h ⟨b,hb⟩⟩;rcases i with e|⟨b,b1,_⟩
  .exact e
  .exact absurd ⟨b,b1⟩ h
set_option maxRecDepth 100000 in
def Zkj(l:List Zac)(ae:Int):List Zac:=l.filter fun b=>decide (ae<b.fUntil)
theorem ZGJ{b:Zac}{r:List Zac}{ae:Int}(h:ae<b.fUntil):Zkj (b :: r) ae=b :: Zkj r ae:=by simp[Zkj,h]
theorem ZIn{b:Zac}{r:List Zac}{ae:Int}(h:¬ae<b.fUntil):Zkj (b :: r) ae=Zkj r ae:=by simp[Zkj,h]
theorem ZqC{n:Nat}(h:n<=100000):n * 40<=140737488355328/\n<=maxLen:=⟨by omega,by unfold maxLen;omega⟩
theorem ZwI(l:List Zac)(ae:Int)(hl:l.length<=10000):∀fu (i:Nat) (w:List Zac),i<=l.length->l.length-i<fu->w.length<=i ->
  ZdO l ae fu (i:Int) w=some (w++Zkj (l.drop i) ae,((l.length:Int)-((w++Zkj (l.drop i) ae).length:Int))):=by
 have g:l.length<=maxLen:=by unfold maxLen;omega
 intro fu;induction fu with
 |zero=>intro _ _ _ h;omega
 |succ fu ih=>
  intro i w j o t;simp only[ZdO,Zag,gt_iff_lt];by_cases h:i<l.length
  .rw[iNb,Zap ⟨by omega,by omega⟩];simp only[Int.toNat_natCast];rw[add1 h g,Zez l Zac.d i h];by_cases hb:ae<(l.getD i Zac.d).fUntil
   .have hs:=ZGJ (r:=l.drop (i+1)) hb;rw[if_pos hb,Zap (ZqC (by simp;omega)),ih (i+1) _ (by omega) (by omega) (by simp;omega),hs];simp
   .have hs:=ZIn (r:=l.drop (i+1)) hb;rw[if_neg hb,ih (i+1) w (by omega) (by omega) (by omega),hs]
  .have e:i=l.length:=by omega
   rw[iNa,e,List.drop_length];simp only[Zkj,List.filter_nil,List.append_nil];rw[ZcC (by omega) (by omega)]
theorem ZzA(l:List Zac)(ae:Int)(hl:l.length<=10000):Zgc l ae=some (Zkj l ae,((l.length:Int)-((Zkj l ae).length:Int))):=by
 have:=ZwI l ae hl ((((l.length:Nat):Int)-(0:Int)).toNat+2) 0 [] (by omega) (by omega) (by simp);simpa[Zgc]using this
theorem Zvk(l:List Zac)(ae:Int):(Zkj l ae).length<=l.length:=List.length_filter_le _ _
def ZkS(b:Zac):Bool:=ZiI b.fNet&&decide (1<=b.fUntil)&&decide (b.fUntil<=1099511627776)
theorem Ztt(b:Zac)(h:b.ok):Zge b=some (ZkS b):=by
 simp only[Zge,Zsc _ h.1.1,ZkS,Option.bind_some,Zag];cases ZiI b.fNet
 .rfl
 .simp only[cond_true,Bool.true_and];by_cases d:1<=b.fUntil
  .rw[iNb,decide_eq_true d];rfl
  .rw[iNa,decide_eq_false d];rfl
def ZNK(l:List Zac):Prop:=(∀b∈l,ZkS b=true)/\l.Pairwise fun a b=>cmpN a.fNet b.fNet<0
theorem ZKO(l:List Zac):(∀j,0<=j->j<l.length->ZkS (l.getD j Zac.d)=true/\(0<j->cmpN (l.getD (j-1) Zac.d).fNet (l.getD j Zac.d).fNet<0))↔ZNK l:=by
 constructor
 .intro h;refine⟨fun b hb=>?_,ZnP (R:=fun a b:Zac=>cmpN a.fNet b.fNet<0) (fun a b c g e=>ZHN g e) l fun i a b ha hb=>?_⟩
  .obtain⟨i,r,rfl⟩:=List.getElem_of_mem hb;have:=(h i (by omega) r).1;rwa [ZbH l _ i r]at this
  .obtain⟨g,t⟩:=List.getElem?_eq_some_iff.1 ha;obtain⟨e,u⟩:=List.getElem?_eq_some_iff.1 hb;have:=(h (i+1) (by omega) e).2 (by omega);rw[Nat.add_sub_cancel,ZbH l _ i g,ZbH l _ (i+1) e,t,u]at this;exact this
 .rintro ⟨g,e⟩ j _ o;refine⟨g _ (ZbU l _ j o),fun h0=>?_⟩;rw[ZbH l _ j o,ZbH l _ (j-1) (by omega)];exact List.pairwise_iff_getElem.1 e (j-1) j (by omega) o (by omega)
theorem rr_in(l:List Zac)(hl:l.length<=maxLen)(v3:Nat)(v:v3<l.length)(k:Int->Option Bool):∀fu (i:Nat),i<=v3->v3-i<fu ->
  ((∀j,i<=j->j<v3->cmpN (l.getD j Zac.d).fNet (l.getD v3 Zac.d).fNet<0)/\Zcr l (v3:Int) k fu (i:Int)=k ((v3+1:Nat):Int))\/((¬∀j,i<=j->j<v3->cmpN (l.getD j Zac.d).fNet (l.getD v3 Zac.d).fNet<0)/\Zcr l (v3:Int) k fu (i:Int)=some false):=by
 intro fu;induction fu with
 |zero=>intro _ _ h;omega
 |succ fu ih=>
  intro i y A;simp only[Zcr,Zag,ZFv,Option.bind_some];by_cases h:i<v3
  .rw[iNb,Zap ⟨by omega,by omega⟩,Zap ⟨by omega,by omega⟩];simp only[Int.toNat_natCast];by_cases t:cmpN (l.getD i Zac.d).fNet (l.getD v3 Zac.d).fNet>=0
   .rw[if_pos t];exact .inr ⟨fun q=>by have:=q i (Nat.le_refl _) h;omega,rfl⟩
   .rw[if_neg t,add1 (n:=l.length) (by omega) hl];rcases ih (i+1) (by omega) (by omega)with⟨o,r⟩|⟨o,r⟩
    .refine .inl ⟨fun j u g=>?_,r⟩;by_cases e:j=i
     .subst e;omega
     .exact o j (by omega) g
    .exact .inr ⟨fun q=>o fun j u g=>q j (by omega) g,r⟩
  .rw[iNa,add1 v hl];exact .inl ⟨fun j u g=>by omega,rfl⟩
theorem ZPU(l:List Zac)(hl:l.length<=maxLen)(ar:∀b∈l,b.ok):∀fu (i:Nat),i<=l.length->l.length-i<fu ->
  ∃r,Zca l fu (i:Int)=some r/\(r=true↔∀j,i<=j->j<l.length->ZkS (l.getD j Zac.d)=true/\∀q,0<=q->q<j->cmpN (l.getD q Zac.d).fNet (l.getD j Zac.d).fNet<0):=by
 intro fu;induction fu with
 |zero=>intro _ _ h;omega
 |succ fu ih=>
  intro i A B;simp only[Zca,Zag];by_cases h:i<l.length
  .rw[iNb,Zap ⟨by omega,by omega⟩];simp only[Int.toNat_natCast];rw[Ztt _ (ar _ (ZbU l Zac.d i h))];simp only[Option.bind_some];obtain⟨r,v,y⟩:=ih (i+1) (by omega) (by omega);have more:(∀j,i<=j->j<l.length->ZkS (l.getD j Zac.d)=true/\∀q,0<=q->q<j->cmpN (l.getD q Zac.d).fNet (l.getD j Zac.d).fNet<0)↔(ZkS (l.getD i Zac.d)=true/\∀q,0<=q->q<i->cmpN (l.getD q Zac.d).fNet (l.getD i Zac.d).fNet<0)/\r=true:=by
    rw[y];constructor
    .intro q;exact⟨q i (Nat.le_refl _) h,fun j u t=>q j (by omega) t⟩
    .rintro ⟨o,g⟩ j u t;by_cases e:j=i
     .subst e;exact o
     .exact g j (by omega) t
   rw[more];cases hb:ZkS (l.getD i Zac.d)with
   |false=>exact⟨false,rfl,by simp⟩
   |true=>
    simp only[Bool.not_true,cond_false];rcases rr_in l hl i h (Zca l fu) (((i:Int)-(0:Int)).toNat+2) 0 (by omega) (by omega)with⟨o,g⟩|⟨o,g⟩
    .have g:Zcr l (i:Int) (Zca l fu) (((i:Int)-(0:Int)).toNat+2) 0=Zca l fu ((i+1:Nat):Int):=g;rw[g];exact⟨r,v,⟨fun q=>⟨⟨trivial,o⟩,q⟩,fun q=>q.2⟩⟩
    .have g:Zcr l (i:Int) (Zca l fu) (((i:Int)-(0:Int)).toNat+2) 0=some false:=g;rw[g];exact⟨false,rfl,by simp only[Bool.false_eq_true,false_iff];exact fun q=>o q.1.2⟩
  .rw[iNa];exact⟨true,rfl,by simp;intro j u t;omega⟩
theorem ZGX(l:List Zac)(hl:l.length<=maxLen)(ar:∀b∈l,b.ok):∃r,ZjA l=some r/\(r=true↔ZNK l):=by
 obtain⟨r,i,o⟩:=ZPU l hl ar ((((l.length:Nat):Int)-(0:Int)).toNat+2) 0 (by omega) (by omega);refine⟨r,i,o.trans ?_⟩;constructor
 .intro h;exact(ZKO l).1 fun j d e=>⟨(h j d e).1,fun h0=>(h j d e).2 (j-1) (by omega) (by omega)⟩
 .rintro ⟨d,e⟩ j _ g;refine⟨d _ (ZbU l _ j g),fun q _ t=>?_⟩;rw[ZbH l _ j g,ZbH l _ q (by omega)];exact List.pairwise_iff_getElem.1 e q j (by omega) g t
def ZnD(l:List Zac)(n:Zav):Int:=ixOf (fun x=>decide (x.fNet=n)) l 0
theorem Zvu(l:List Zac)(n:Zav)(hl:l.length<=maxLen):Zgd l n=some (ZnD l n):=by
 simp only[Zgd];rw[show ((0:Int))=((0:Nat):Int)from rfl];rw[ZtP l Zac.d (fun x=>decide (x.fNet=n)) hl (fun fu i=>ZdP l fu i n) (fun i=>i) ?_ ?_ _ 0 (by omega) (by omega)]
 .rfl
 .intro fu i e;simp only[ZdP,Zag];rw[iNb,Zap ⟨by omega,by omega⟩];simp
 .intro fu;simp only[ZdP,Zag];rw[iNa]
def putB(l:List Zac)(b:Zac):List Zac:=l.takeWhile (fun x=>!decide (0<cmpN x.fNet b.fNet))++[b]++l.dropWhile (fun x=>!decide (0<cmpN x.fNet b.fNet))
def ZMM(x b:Zac):Zac:=⟨x.fNet,if b.fUntil>x.fUntil then b.fUntil else x.fUntil⟩
def addB(l:List Zac)(b:Zac)(most:Int):List Zac×Int:=if ZkS b then if 0<=ZnD l b.fNet then(l.set (ZnD l b.fNet).toNat (ZMM (l.getD (ZnD l b.fNet).toNat Zac.d) b),0)else if(l.length:Int)>=most then([],5)else(putB l b,0)else([],1)
theorem ZDV(l:List Zac)(n:Zav)(h:0<=ZnD l n):(ZnD l n).toNat<l.length/\(l.getD (ZnD l n).toNat Zac.d).fNet=n:=by
 obtain⟨k,g,i,⟨x,j,o⟩,_⟩:=Zru _ l 0 h;have e:(ZnD l n).toNat=k:=by unfold ZnD;rw[i];omega
 rw[e];refine⟨g,?_⟩;rw[List.getD_eq_getElem?_getD,j];simpa using o
theorem ZMl(l:List Zac)(e:Zac)(h:l.length<=10000):∀fu (i:Nat),i<=l.length->l.length-i<fu ->
  ZfI l fu (i:Int) e=some (l.take i++putB (l.drop i) e,0):=by
 have r:l.length<=maxLen:=by unfold maxLen;omega
 have bP:∀i:Nat,i<=l.length->(need (0<=(i:Int)/\(i:Int)<=((l.length:Nat):Int)) <|
   need ((([]:List Zac)++(l.take (i:Int).toNat)).length * 40<=140737488355328/\(([]:List Zac)++(l.take (i:Int).toNat)).length<=maxLen) <|
   need (((([]:List Zac)++(l.take (i:Int).toNat))++([e]:List Zac)).length * 40<=140737488355328/\((([]:List Zac)++(l.take (i:Int).toNat))++([e]:List Zac)).length<=maxLen) <|
   need ((((([]:List Zac)++(l.take (i:Int).toNat))++([e]:List Zac))++(l.drop (i:Int).toNat)).length * 40<=140737488355328/\(((([]:List Zac)++(l.take (i:Int).toNat))++([e]:List Zac))++(l.drop (i:Int).toNat)).length<=maxLen) <|
   some ((((([]:List Zac)++(l.take (i:Int).toNat))++([e]:List Zac))++(l.drop (i:Int).toNat)),(0:Int)))=some (l.take i++[e]++l.drop i,0):=by
  intro i j;rw[Zap ⟨by omega,by omega⟩,Zap (ZqC (by simp;omega)),Zap (ZqC (by simp;omega)),Zap (ZqC (by simp;omega))];simp
 intro fu;induction fu with
 |zero=>intro i _ h;omega
 |succ fu ih=>
  intro i j t;simp only[ZfI,ZFv,Option.bind_some,Zag];by_cases hlt:i<l.length
  .rw[iNb,Zap ⟨by omega,by omega⟩];have o:=Zez l Zac.d i hlt;by_cases g:cmpN (l.getD i Zac.d).fNet e.fNet<=0
   .rw[if_pos (by simpa using g),add1 hlt r,ih (i+1) (by omega) (by omega)];congr 2;unfold putB;rw[o,List.takeWhile_cons,List.dropWhile_cons,if_pos (by simp;simpa using g),if_pos (by simp;simpa using g),List.take_succ_eq_append_getElem hlt];rw[ZbH l Zac.d i hlt];simp only[List.append_assoc,List.cons_append,List.nil_append]
   .rw[if_neg (by simpa using g),bP i j];congr 2;unfold putB;rw[o,List.takeWhile_cons,List.dropWhile_cons,if_neg (by simp;simpa using g),if_neg (by simp;simpa using g)];simp
  .rw[iNa,bP i j];have:l.drop i=[]:=List.drop_eq_nil_of_le (by omega);rw[this];simp[putB]
theorem ZwL(l:List Zac)(b:Zac)(most:Int)(h:l.length<=10000)(hb:b.ok):Zhj l b most=some (addB l b most):=by
 have j:l.length<=maxLen:=by unfold maxLen;omega
 simp only[Zhj,Ztt b hb,Zvu l _ j,Option.bind_some,addB];cases ZkS b
 .rfl
 .simp only[Bool.not_true,cond_false,if_true,Zag,ge_iff_le,List.nil_append];by_cases g:0<=ZnD l b.fNet
  .obtain⟨f1,f2⟩:=ZDV l b.fNet g;simp only[g,if_true];rw[Zap (ZqC (by omega)),Zap ⟨trivial,by omega⟩];unfold ZMM;by_cases hg:b.fUntil>(l.getD (ZnD l b.fNet).toNat Zac.d).fUntil
   .simp only[hg,if_true]
   .simp only[hg,if_false];congr 2;have e:(⟨(l.getD (ZnD l b.fNet).toNat Zac.d).fNet,(l.getD (ZnD l b.fNet).toNat Zac.d).fUntil⟩ : Zac)=l[(ZnD l b.fNet).toNat]:=by rw[ZbH l _ _ f1]
    rw[e,List.set_getElem_self]
  .simp only[g,if_false];by_cases i:most<=(l.length:Int)
   .simp only[i,if_true]
   .simp only[i,if_false];have:=ZMl l b h ((((l.length:Nat):Int)-(0:Int)).toNat+2) 0 (by omega) (by omega);simpa using this
def ZrK(l:List Zac)(n:Zav):List Zac×Int:=if ZnD l n<0 then([],6)else(l.take (ZnD l n).toNat++l.drop ((ZnD l n).toNat+1),0)
theorem ZzD(l:List Zac)(n:Zav)(h:l.length<=10000):Zgx l n=some (ZrK l n):=by
 have g:l.length<=maxLen:=by unfold maxLen;omega
 simp only[Zgx,Zvu l n g,Option.bind_some,Zag,ZrK];by_cases d:ZnD l n<0
 .rw[if_pos d,if_pos d]
 .rw[if_neg d,if_neg d];obtain⟨f1,_⟩:=ZDV l n (by omega);have e:ZnD l n=(((ZnD l n).toNat:Nat):Int):=by omega
  generalize (ZnD l n).toNat=k at f1 e;rw[e,add1 f1 g];simp only[Int.toNat_natCast,List.nil_append];rw[Zap ⟨by omega,by omega⟩,Zap (ZqC (by simp;omega)),Zap ⟨by omega,by omega⟩,Zap (ZqC (by simp;omega))]
theorem ZMq(l:List Zac)(e:Zac):(putB l e).length=l.length+1:=by
 unfold putB;have:=congrArg List.length (List.takeWhile_append_dropWhile (p:=fun x:Zac=>!decide (0<cmpN x.fNet e.fNet)) (l:=l));simp only[List.length_append,List.length_cons,List.length_nil]at this ⊢;omega
theorem Ztc(l:List Zac)(e:Zac)(most:Int):(addB l e most).1.length<=l.length+1:=by
 unfold addB
 repeat' split
 all_goals simp[ZMq]
theorem ZBT(l:List Zac)(n:Zav):(ZrK l n).1.length<=l.length:=by
 unfold ZrK;split<;>simp<;>omega
end Go.Proofs.YtnigiacmmedkhaaGreat
