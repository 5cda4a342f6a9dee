import Derived.Test.YtlpdogaifdeomaaGreatFPlA
import Derived.Test.YtlpdogaifdeomaaGreatFMstA2
namespace Go.Proofs.YtlpdogaifdeomaaGreat
set_option linter.unusedSimpArgs false
set_option linter.unusedVariables false
theorem Zks{a:Int}(h:0<=a):∃n:Nat,a=n:=⟨a.toNat,by omega⟩
def ZcN(a:Zaf):Bool:=if a.fV6 then !(decide (a.fHi=0)&&decide (a.fLo / 4294967296=65535))else decide (a.fHi=0)&&decide (a.fLo<4294967296)
theorem ZRE(n:Nat)(h:n<=18446744073709551615):IntKind.u32.wrap (IntKind.u64.wrap (((BitVec.ofInt (IntKind.bits .u64) (n:Int)) &&& (BitVec.ofInt (IntKind.bits .u64) (4294967295:Int))).toNat:Int))=((n % 4294967296:Nat):Int):=by
 have:=ZFR n 4294967295 (by omega) (by omega);rw[show ((4294967295:Nat):Int)=(4294967295:Int)from rfl]at this;rw[this,show (4294967295:Nat)=2 ^ 32-1 from rfl,Nat.and_two_pow_sub_one_eq_mod];rw[show (2:Nat) ^ 32=4294967296 from rfl];have b:n % 4294967296<4294967296:=Nat.mod_lt _ (by omega);rw[ZhT (by omega) (by omega)];simp only[IntKind.wrap,IntKind.bits,IntKind.signed];simp
theorem ZRr(n:Nat)(h:n<4294967296):ZqE ((n:Nat):Int)=some ⟨false,0,n⟩:=by
 unfold ZqE;rw[ZhT (by omega) (by omega)]
theorem Zlg(a:Zaf)(h:a.ok):Zfz a=some (ZcN a):=by
 obtain⟨v,j,lo⟩:=a;obtain⟨_,d,b,_⟩:=h;have d:=Zkn d;have b:=Zkn b;simp only at d b;obtain⟨n,rfl⟩:=Zks b.1;have g:=ZRE n (by omega);have hlt:n % 4294967296<4294967296:=Nat.mod_lt _ (by omega);have hd:Int.fdiv (n:Int) (2 ^ (min (32:Int).toNat (IntKind.bits .u64)))=(n:Int) / 4294967296:=by
  rw[show (2:Int) ^ (min (32:Int).toNat (IntKind.bits .u64))=4294967296 from rfl,Int.fdiv_eq_ediv_of_nonneg _ (by omega)]
 cases v with
 |true=>
  simp only[Zfz,ZvZ,ZcN,cond_true,hd,g];have hb:∀(p q:Int),(p==q)=decide (p=q):=fun p q=>by rw[Bool.eq_iff_iff];simp
  have o:=ZRr _ hlt;by_cases e:j=0
  .by_cases i:(n:Int) / 4294967296=65535
   .rw[hb,hb,decide_eq_true e,decide_eq_true i,cond_true,cond_true,o];simp
   .rw[hb,hb,decide_eq_true e,decide_eq_false i,cond_true,cond_false];simp
  .rw[hb,decide_eq_false e,cond_false];simp
 |false=>
  simp only[Zfz,ZcN,cond_false,g,ZRr _ hlt,Option.bind_some];congr 1;rw[Bool.eq_iff_iff];simp;constructor
  .rintro ⟨f,r⟩;exact⟨f.symm,by omega⟩
  .rintro ⟨f,r⟩;exact⟨f.symm,by omega⟩
theorem Zkq(a:Zaf)(h:a.ok):Zby a=some (ZcN a):=by
 obtain⟨v,e,lo⟩:=a;obtain⟨_,d,b,_⟩:=h;have d:=Zkn d;have b:=Zkn b;simp only at d b;have hd:IntKind.u64.wrap (Int.tdiv lo 4294967296)=lo / 4294967296:=by
  rw[Int.tdiv_eq_ediv_of_nonneg b.1];exact ZhT (by omega) (by omega)
 cases v with
 |true=>
  simp only[Zby,ZcN,hd,Bool.not_true,cond_false,if_true];generalize lo / 4294967296=q;simp only[Bool.cond_eq_ite,beq_iff_eq,bne_iff_ne,ne_eq,decide_eq_true_eq,Bool.not_eq_true',Bool.not_eq_false',decide_eq_false_iff_not]
  repeat' split
  all_goals first|rfl | (rw[Option.some.injEq,Bool.eq_iff_iff];simp only[Bool.and_eq_true,Bool.not_eq_true',Bool.not_eq_false',Bool.and_eq_false_iff,decide_eq_true_eq,decide_eq_false_iff_not,beq_iff_eq,bne_iff_ne,ne_eq,iff_true,iff_false,true_iff,false_iff,Bool.false_eq_true,Bool.true_eq_false,not_true_eq_false,not_false_eq_true];omega)
 |false=>
  simp only[Zby,ZcN,Bool.not_false,cond_true,Bool.false_eq_true,if_false];simp only[Bool.cond_eq_ite,beq_iff_eq,bne_iff_ne,ne_eq,decide_eq_true_eq,Bool.not_eq_true',Bool.not_eq_false',decide_eq_false_iff_not]
  repeat' split
  all_goals first|rfl | (rw[Option.some.injEq,Bool.eq_iff_iff];simp only[Bool.and_eq_true,Bool.not_eq_true',Bool.not_eq_false',Bool.and_eq_false_iff,decide_eq_true_eq,decide_eq_false_iff_not,beq_iff_eq,bne_iff_ne,ne_eq,iff_true,iff_false,true_iff,false_iff,Bool.false_eq_true,Bool.true_eq_false,not_true_eq_false,not_false_eq_true];omega)
theorem ZGk(a b:Zaf):ZeS a b=some (cmpA a b):=by
 obtain⟨v,d,lo⟩:=a;obtain⟨v',c4,k5⟩:=b;simp only[ZeS,Zfl,Zfk,cmpA,famA,cmpI,orI,Zaf.mk.injEq];simp only[Bool.cond_eq_ite,bne_iff_ne,ne_eq,ite_not,decide_eq_true_eq,Bool.not_eq_true',beq_eq_false_iff_ne];cases v<;>cases v'<;>simp only[true_and,Bool.false_eq_true,Bool.true_eq_false,false_and,not_true_eq_false,not_false_eq_true,if_true,if_false,ite_true,ite_false,Bool.not_true,Bool.not_false]
 all_goals (repeat' split)<;>first|rfl|omega | (congr 1;omega)|simp_all
theorem ZNZ(a b:Zae):Zha a b=some (cmpN a b):=by
 simp only[Zha,ZGk,Option.bind_some,cmpN,orI,cmpI];simp only[Bool.cond_eq_ite,bne_iff_ne,ne_eq,ite_not,decide_eq_true_eq,beq_iff_eq];generalize cmpA a.fAddr b.fAddr=c
 (repeat' split)<;>first|rfl|omega | (congr 1;omega)|simp_all
def Zgq(a:Zag):Bool:=ZcN a.fAddr&&decide (1<=a.fPort)&&decide (a.fPort<=65535)
theorem Zpe(a:Zag)(h:a.ok):ZjL a=some (Zgq a):=by
 simp only[ZjL,Zlg _ h.1,Zgq,Option.bind_some];generalize ZcN a.fAddr=b;cases b<;>simp only[cond_true,cond_false,Bool.true_and,Bool.false_and];simp only[Bool.cond_eq_ite,beq_iff_eq,bne_iff_ne,ne_eq,decide_eq_true_eq,Bool.not_eq_true',Bool.not_eq_false',decide_eq_false_iff_not]
 repeat' split
 all_goals first|rfl | (rw[Option.some.injEq,Bool.eq_iff_iff];simp only[Bool.and_eq_true,Bool.not_eq_true',Bool.not_eq_false',Bool.and_eq_false_iff,decide_eq_true_eq,decide_eq_false_iff_not,beq_iff_eq,bne_iff_ne,ne_eq,iff_true,iff_false,true_iff,false_iff,Bool.false_eq_true,Bool.true_eq_false,not_true_eq_false,not_false_eq_true];omega)
theorem Zua(a:Zag)(h:a.ok):Zgj a=some (Zgq a):=by
 simp only[Zgj,Zkq _ h.1,Zgq,Option.bind_some];generalize ZcN a.fAddr=b;cases b<;>simp only[cond_true,cond_false,Bool.true_and,Bool.false_and];simp only[Bool.cond_eq_ite,beq_iff_eq,bne_iff_ne,ne_eq,decide_eq_true_eq,Bool.not_eq_true',Bool.not_eq_false',decide_eq_false_iff_not]
 repeat' split
 all_goals first|rfl | (rw[Option.some.injEq,Bool.eq_iff_iff];simp only[Bool.and_eq_true,Bool.not_eq_true',Bool.not_eq_false',Bool.and_eq_false_iff,decide_eq_true_eq,decide_eq_false_iff_not,beq_iff_eq,bne_iff_ne,ne_eq,iff_true,iff_false,true_iff,false_iff,Bool.false_eq_true,Bool.true_eq_false,not_true_eq_false,not_false_eq_true];omega)
def ZhP(e:Zab):Bool:=Zgq e.fEnd&&decide (1<=e.fState)&&decide (e.fState<=3)&&decide (0<=e.fFails)&&decide (e.fFails<=1000)&&decide (0<=e.fNext)&&decide (e.fNext<=1099511627776)
theorem ZRK(n:Int):(n==(if(1099511627776:Int)<(if(0:Int)>n then(0:Int)else n)then(1099511627776:Int)else(if(0:Int)>n then(0:Int)else n)))=(decide (0<=n)&&decide (n<=1099511627776)):=by
 rw[Bool.eq_iff_iff];simp only[beq_iff_eq,Bool.and_eq_true,decide_eq_true_eq];constructor
 .intro h;(repeat' split at h)<;>omega
 .intro h;(repeat' split)<;>omega
theorem ZpU(e:Zab)(h:e.ok):ZiN e=some (ZhP e):=by
 simp only[ZiN,Zpe _ h.1,Zeg,ZRK,ZhP,Option.bind_some];generalize Zgq e.fEnd=b;cases b<;>simp only[cond_true,cond_false,Bool.true_and,Bool.false_and]
 all_goals
  simp only[Bool.cond_eq_ite,beq_iff_eq,bne_iff_ne,ne_eq,decide_eq_true_eq,Bool.not_eq_true',Bool.not_eq_false',decide_eq_false_iff_not]
  repeat' split
  all_goals first|rfl | (rw[Option.some.injEq,Bool.eq_iff_iff];simp only[Bool.and_eq_true,Bool.not_eq_true',Bool.not_eq_false',Bool.and_eq_false_iff,decide_eq_true_eq,decide_eq_false_iff_not,beq_iff_eq,bne_iff_ne,ne_eq,iff_true,iff_false,true_iff,false_iff,Bool.false_eq_true,Bool.true_eq_false,not_true_eq_false,not_false_eq_true];omega)
theorem Zok(e:Zab)(h:e.ok):ZeF e=some (ZhP e):=by
 simp only[ZeF,Zua _ h.1,ZhP,Option.bind_some];generalize Zgq e.fEnd=b;cases b<;>simp only[cond_true,cond_false,Bool.true_and,Bool.false_and];simp only[Bool.cond_eq_ite,beq_iff_eq,bne_iff_ne,ne_eq,decide_eq_true_eq,Bool.not_eq_true',Bool.not_eq_false',decide_eq_false_iff_not]
 repeat' split
 all_goals first|rfl | (rw[Option.some.injEq,Bool.eq_iff_iff];simp only[Bool.and_eq_true,Bool.not_eq_true',Bool.not_eq_false',Bool.and_eq_false_iff,decide_eq_true_eq,decide_eq_false_iff_not,beq_iff_eq,bne_iff_ne,ne_eq,iff_true,iff_false,true_iff,false_iff,Bool.false_eq_true,Bool.true_eq_false,not_true_eq_false,not_false_eq_true];omega)
def cmpE(a b:Zag):Int:=orI (cmpA a.fAddr b.fAddr) (cmpI a.fPort b.fPort)
theorem Zog(a b:Zag):Zfi a b=some (cmpE a b):=by
 simp only[Zfi,ZHq,Zsg,or2,Option.bind_some,cmpE]
theorem Zsw(a b:Zag):ZcG a b=some (cmpE a b):=by
 simp only[ZcG,ZGk,Option.bind_some,cmpE,orI,cmpI];simp only[Bool.cond_eq_ite,bne_iff_ne,ne_eq,ite_not,decide_eq_true_eq,beq_iff_eq];generalize cmpA a.fAddr b.fAddr=c
 (repeat' split)<;>first|rfl|omega | (congr 1;omega)|simp_all
theorem ZMz{a b:Zag}:cmpE a b<0↔cmpA a.fAddr b.fAddr<0\/(a.fAddr=b.fAddr/\a.fPort<b.fPort):=by simp only[cmpE,Zxq,ZtR,Zpg]
theorem ZRg{a b:Zag}:0<cmpE a b↔0<cmpA a.fAddr b.fAddr\/(a.fAddr=b.fAddr/\b.fPort<a.fPort):=by simp only[cmpE,Zxr,ZtS,Zpg]
theorem ZgT{a b:Zag}:cmpE a b=0↔a=b:=by
 simp only[cmpE,ZuC,ZjS,Zpg];obtain⟨x,p⟩:=a;obtain⟨y,q⟩:=b;simp
theorem Zgl{a b:Zag}:0<cmpE a b↔cmpE b a<0:=by
 rw[ZRg,ZMz,ZCJ];constructor<;>rintro (h|⟨d,e⟩)<;>first|exact .inl h|exact .inr ⟨d.symm,e⟩
theorem ZlS{a b c:Zag}(d:cmpE a b<0)(e:cmpE b c<0):cmpE a c<0:=by
 rw[ZMz]at *
 rcases d with d|⟨d,f⟩<;>rcases e with e|⟨e,g⟩
 .exact .inl (ZxW d e)
 .exact .inl (e ▸ d)
 .exact .inl (d ▸ e)
 .exact .inr ⟨d.trans e,by omega⟩
def Zer(l:List Zab)(e:Zag):Int:=ixOf (fun x=>decide (x.fEnd=e)) l 0
def Zya(l:List Zab)(e:Zag):Int:=ixOf (fun x=>decide (0<cmpE x.fEnd e)) l 0
theorem ZqN(l:List Zab)(e:Zag)(hl:l.length<=maxLen):ZjO l e=some (Zer l e):=by
 simp only[ZjO,Zdb];rw[show ((0:Int))=((0:Nat):Int)from rfl];rw[Zmx l Zab.d (fun x=>decide (x.fEnd=e)) hl (fun fu i=>Zba l e fu (l.length:Int) i) (fun i=>i) ?_ ?_ _ 0 (by omega) (by omega)]
 .rfl
 .intro fu i b;simp only[Zba,ZpM,Zad,Option.bind_some];rw[iNb,Zaj ⟨by omega,by omega⟩];simp
 .intro fu;simp only[Zba,Zad];rw[iNa]
theorem ZqW(l:List Zab)(e:Zag)(hl:l.length<=maxLen):Zeb l e=some (Zer l e):=by
 simp only[Zeb];rw[show ((0:Int))=((0:Nat):Int)from rfl];rw[Zmx l Zab.d (fun x=>decide (x.fEnd=e)) hl (fun fu i=>ZdQ l fu i e) (fun i=>i) ?_ ?_ _ 0 (by omega) (by omega)]
 .rfl
 .intro fu i b;simp only[ZdQ,Zad];rw[iNb,Zaj ⟨by omega,by omega⟩];simp
 .intro fu;simp only[ZdQ,Zad];rw[iNa]
theorem ZIV(l:List Zab)(e:Zab)(hl:l.length<=maxLen):Zck l e=some (Zya l e.fEnd):=by
 simp only[Zck];rw[show ((0:Int))=((0:Nat):Int)from rfl];rw[Zmx l Zab.d (fun x=>decide (0<cmpE x.fEnd e.fEnd)) hl (fun fu i=>ZaZ l e fu (l.length:Int) i) (fun i=>i) ?_ ?_ _ 0 (by omega) (by omega)]
 .rfl
 .intro fu i b;simp only[ZaZ,ZqB,Zog,Zad,Option.bind_some];rw[iNb,Zaj ⟨by omega,by omega⟩];simp
 .intro fu;simp only[ZaZ,Zad];rw[iNa]
def putS(l:List Zab)(e:Zab):List Zab:=l.takeWhile (fun x=>!decide (0<cmpE x.fEnd e.fEnd))++[e]++l.dropWhile (fun x=>!decide (0<cmpE x.fEnd e.fEnd))
def addS(l:List Zab)(e:Zab)(most:Int):List Zab×Int:=if ZhP e then if 0<=Zer l e.fEnd then([],7)else if(l.length:Int)>=most then([],5)else(putS l e,0)else([],1)
theorem Zzy(l:List Zab)(h:l.length<=10000):ZaA l=some l:=by
 unfold ZaA;rw[Zaj ⟨by omega,ZjD (by omega)⟩]
theorem ZBv(l:List Zab)(i:Int)(e:Zab)(h:l.length<=10000)(h0:0<=i)(b:i.toNat<=l.length):ZaN l i [e]=some (l.take i.toNat++[e]++l.drop i.toNat):=by
 unfold ZaN;rw[Zaj ⟨h0,b,by simp,by simp only[List.length_cons,List.length_nil];omega,ZjD (by simp only[List.length_cons,List.length_nil];omega)⟩]
theorem ZPi(l:List Zab)(e:Zab)(most:Int)(h:l.length<=10000)(o:e.ok):Zre l e most=some (addS l e most):=by
 have g:l.length<=maxLen:=ZjD (by omega);have i:=Zrc (fun x:Zab=>decide (0<cmpE x.fEnd e.fEnd)) l 0;have hle:=ZvL (fun x:Zab=>decide (0<cmpE x.fEnd e.fEnd)) l 0;simp only[Zre,ZpU e o,ZqN l _ g,ZIV l e g,Zzy l h,Option.bind_some,addS];cases ZhP e
 .rfl
 .simp only[Bool.not_true,cond_false,if_true,Zad,ge_iff_le];by_cases j:0<=Zer l e.fEnd
  .simp only[j,if_true]
  .simp only[j,if_false];by_cases n:most<=(l.length:Int)
   .simp only[n,if_true]
   .simp only[n,if_false];by_cases b:Zya l e.fEnd<0
    .rw[if_pos b,ZBv l _ e h (by omega) (by simp)];simp only[Option.bind_some];obtain⟨d,f⟩:=i.1 b;unfold putS;rw[d,f];simp
    .rw[if_neg b];have iL:0<=Zya l e.fEnd:=by omega
     unfold Zya at iL;rw[ZBv l _ e h (by omega) (by unfold Zya;omega)];simp only[Option.bind_some];obtain⟨_,d,f⟩:=i.2 iL;unfold putS Zya;rw[d,f];rfl
theorem ZQr(l:List Zab)(e:Zab)(h:l.length<=10000):∀fu (i:Nat),i<=l.length->l.length-i<fu ->
  Zft l fu (i:Int) e=some (l.take i++putS (l.drop i) e,0):=by
 have j:l.length<=maxLen:=ZjD (by omega);have bh:∀i:Nat,i<=l.length->(need (0<=(i:Int)/\(i:Int)<=((l.length:Nat):Int)) <|
   need ((([]:List Zab)++(l.take (i:Int).toNat)).length * 56<=140737488355328/\(([]:List Zab)++(l.take (i:Int).toNat)).length<=maxLen) <|
   need (((([]:List Zab)++(l.take (i:Int).toNat))++([e]:List Zab)).length * 56<=140737488355328/\((([]:List Zab)++(l.take (i:Int).toNat))++([e]:List Zab)).length<=maxLen) <|
   need ((((([]:List Zab)++(l.take (i:Int).toNat))++([e]:List Zab))++(l.drop (i:Int).toNat)).length * 56<=140737488355328/\(((([]:List Zab)++(l.take (i:Int).toNat))++([e]:List Zab))++(l.drop (i:Int).toNat)).length<=maxLen) <|
   some ((((([]:List Zab)++(l.take (i:Int).toNat))++([e]:List Zab))++(l.drop (i:Int).toNat)),(0:Int)))=some (l.take i++[e]++l.drop i,0):=by
  intro i g;have b:∀n:Nat,n<=10001->n * 56<=140737488355328/\n<=maxLen:=fun n o=>⟨by omega,ZjD (by omega)⟩;rw[Zaj ⟨by omega,by omega⟩,Zaj (b _ (by simp;omega)),Zaj (b _ (by simp;omega)),Zaj (b _ (by simp;omega))];simp
 intro fu;induction fu with
 |zero=>intro i _ h;omega
 |succ fu ih=>
  intro i g p;simp only[Zft,Zsw,Option.bind_some,Zad];by_cases hlt:i<l.length
  .rw[iNb,Zaj ⟨by omega,by omega⟩];have hd:=Zdc l Zab.d i hlt;by_cases f:cmpE (l.getD i Zab.d).fEnd e.fEnd<=0
   .rw[if_pos (by simpa using f),add1 hlt j,ih (i+1) (by omega) (by omega)];congr 2;unfold putS;rw[hd,List.takeWhile_cons,List.dropWhile_cons,if_pos (by simp;simpa using f),if_pos (by simp;simpa using f),List.take_succ_eq_append_getElem hlt];rw[ZbA l Zab.d i hlt];simp only[List.append_assoc,List.cons_append,List.nil_append]
   .rw[if_neg (by simpa using f),bh i g];congr 2;unfold putS;rw[hd,List.takeWhile_cons,List.dropWhile_cons,if_neg (by simp;simpa using f),if_neg (by simp;simpa using f)];simp
  .rw[iNa,bh i g];have:l.drop i=[]:=List.drop_eq_nil_of_le (by omega);rw[this];simp[putS]
theorem ZKh(l:List Zab)(e:Zab)(most:Int)(h:l.length<=10000)(f:e.ok):Zjv l e most=some (addS l e most):=by
 have g:l.length<=maxLen:=ZjD (by omega);simp only[Zjv,Zok e f,ZqW l _ g,Option.bind_some,addS];cases ZhP e
 .rfl
 .simp only[Bool.not_true,cond_false,if_true,Zad,ge_iff_le];by_cases b:0<=Zer l e.fEnd
  .simp only[b,if_true]
  .simp only[b,if_false];by_cases d:most<=(l.length:Int)
   .simp only[d,if_true]
   .simp only[d,if_false];have:=ZQr l e h ((((l.length:Nat):Int)-(0:Int)).toNat+2) 0 (by omega) (by omega);rw[show ((0:Nat):Int)=0 from rfl]at this;rw[this];rfl
def ZeA(l:List Zab)(state:Int):Int:=((l.countP fun x=>decide (x.fState=state):Nat):Int)
theorem ZtU(l:List Zab)(state:Int)(hl:l.length<=maxLen):Zmr l state=some (ZeA l state):=by
 simp only[Zmr];have:=Zra l Zab.d (fun x=>decide (x.fState=state)) hl (fun fu n i=>ZgQ state fu n l (l.length:Int) i) (fun fu i n b=>by
   simp only[ZgQ,Zad];rw[iNb,Zaj ⟨by omega,by omega⟩];simp only[Bool.cond_eq_ite,beq_iff_eq,Int.toNat_natCast,decide_eq_true_eq]) (fun fu n=>by
   simp only[ZgQ,Zad];rw[iNa]) ((((l.length:Nat):Int)-(0:Int)).toNat+2) 0 0 (by omega) (by omega) (by omega)
 simpa[ZeA]using this
theorem ZKe(l:List Zab)(state:Int)(hl:l.length<=maxLen):ZhX l state=some (ZeA l state):=by
 simp only[ZhX];have:=Zra l Zab.d (fun x=>decide (x.fState=state)) hl (fun fu n i=>ZcW l state fu n i) (fun fu i n b=>by
   simp only[ZcW,Zad];rw[iNb,Zaj ⟨by omega,by omega⟩];simp only[Bool.cond_eq_ite,beq_iff_eq,Int.toNat_natCast,decide_eq_true_eq]) (fun fu n=>by
   simp only[ZcW,Zad];rw[iNa]) ((((l.length:Nat):Int)-(0:Int)).toNat+2) 0 0 (by omega) (by omega) (by omega)
 simpa[ZeA]using this
def setS(l:List Zab)(e:Zab):List Zab:=if 0<=Zer l e.fEnd then l.set (Zer l e.fEnd).toNat e else l
theorem ZoC(l:List Zab)(e:Zag):Zer l e<(l.length:Int):=by
 have:=ZvL (fun x:Zab=>decide (x.fEnd=e)) l 0;simpa[Zer]using this
theorem ZuU(l:List Zab)(e:Zab)(h:l.length<=10000):Zlf l e=some (setS l e):=by
 have b:l.length<=maxLen:=ZjD (by omega);have:=ZoC l e.fEnd;simp only[Zlf,Zzy l h,ZqN l _ b,Option.bind_some,Zad,setS,ge_iff_le];split
 .rename_i d;rw[Zaj ⟨d,this⟩]
 .rfl
theorem Zoj(l:List Zab)(e:Zab)(h:l.length<=10000):ZdN l e=some (setS l e):=by
 have b:l.length<=maxLen:=ZjD (by omega);have:=ZoC l e.fEnd;simp only[ZdN,ZqW l _ b,Option.bind_some,Zad,setS,List.nil_append];split
 .rename_i d;rw[iNa]
 .rename_i d;rw[Zaj ⟨by omega,b⟩,Zaj ⟨by omega,this⟩,iNb]
def ZHo:Option Zab->Zab->Bool|none,_=>true|some p,x=>decide (cmpE p.fEnd x.fEnd<0)
def Zxh:Option Zab->List Zab->Bool|_,[]=>true|p,x :: r=>ZhP x&&ZHo p x&&Zxh (some x) r
def ZPt(l:List Zab):Bool:=Zxh none l
theorem ZIU(l:List Zab)(h:l.length<=maxLen)(aJ:∀x∈l,x.ok):Zod l=some (ZPt l):=by
 simp only[Zod];have key:∀fu (i:Nat),i<=l.length->l.length-i<fu->Zio l fu l (l.length:Int) (i:Int)=some (Zxh (if i=0 then none else some (l.getD (i-1) Zab.d)) (l.drop i)):=by
  intro fu;induction fu with
  |zero=>intro i _ h;omega
  |succ fu ih=>
   intro i f g;simp only[Zio,Zad,Zog,Option.bind_some];by_cases hlt:i<l.length
   .rw[iNb,Zaj ⟨by omega,by omega⟩,ZpU _ (aJ _ (by rw[Int.toNat_natCast];exact Zcw l _ i hlt))];simp only[Int.toNat_natCast,Option.bind_some];have mE:=ih (i+1) (by omega) (by omega);rw[iNa,Nat.add_sub_cancel]at mE;rw[Zdc l Zab.d i hlt];simp only[Zxh];cases ZhP (l.getD i Zab.d)
    .rfl
    .simp only[Bool.not_true,cond_false,Bool.true_and];by_cases h0:i=0
     .subst h0;rw[iNa,if_pos rfl,add1 hlt h,mE];rfl
     .have e:Zay (i:Int) 1=((i-1:Nat):Int):=by
       unfold maxLen at h;rw[Zbi (by omega) (by omega)];omega
      rw[iNb,e,Zaj ⟨by omega,by omega⟩,if_neg h0];simp only[Int.toNat_natCast,ZHo];by_cases b:cmpE (l.getD (i-1) Zab.d).fEnd (l.getD i Zab.d).fEnd>=0
      .rw[if_pos b,decide_eq_false (by omega)];rfl
      .rw[if_neg b,decide_eq_true (by omega),add1 hlt h,mE];rfl
   .rw[iNa,List.drop_eq_nil_of_le (by omega)];rfl
 have:=key ((((l.length:Nat):Int)-(0:Int)).toNat+2) 0 (by omega) (by omega);rw[show ((0:Nat):Int)=0 from rfl]at this;rw[this];rfl
theorem ZOc(l:List Zab)(e:Zab):(putS l e).length=l.length+1:=by
 unfold putS;have:=congrArg List.length (List.takeWhile_append_dropWhile (p:=fun x:Zab=>!decide (0<cmpE x.fEnd e.fEnd)) (l:=l));simp only[List.length_append,List.length_cons,List.length_nil]at this ⊢;omega
theorem ZPq(l:List Zab)(e:Zab)(most:Int):(addS l e most).1.length<=l.length+1:=by
 unfold addS
 repeat' split
 all_goals simp[ZOc]
theorem Zyp(l:List Zab)(e:Zab):(setS l e).length=l.length:=by
 unfold setS;split<;>simp
theorem ZFJ(l:List Zag)(e:Zag)(hl:l.length<=maxLen):Zdl l e=some (l.contains e):=by
 simp only[Zdl,Zfq];have:=Zmx l Zag.d (fun x=>decide (e=x)) hl (fun fu i=>Zcd l fu (l.length:Int) i e) (fun i=>i) (fun fu i n=>by
   simp only[Zcd,Zad];rw[iNb,Zaj ⟨by omega,by omega⟩];simp) (fun fu=>by
   simp only[Zcd,Zad];rw[iNa]) ((((l.length:Nat):Int)-(0:Int)).toNat+2) 0 (by omega) (by omega)
 simp only[Int.natCast_zero,List.drop_zero]at this;rw[this];simp only[Option.bind_some,Option.some.injEq];rw[Bool.eq_iff_iff,decide_eq_true_eq,List.contains_iff_mem];have f:=ZmH (fun x=>decide (e=x)) l 0;constructor
 .intro h;obtain⟨k,b,_,⟨x,g,j⟩,_⟩:=ZmG _ l 0 h;rw[of_decide_eq_true j];exact List.mem_of_getElem? g
 .intro h;apply Int.not_lt.1;intro b;have:=f.1 b e h;simp at this
theorem ZRl(l:List Zag)(e:Zag)(hl:l.length<=maxLen):Zju l e=some (l.contains e):=by
 simp only[Zju];have:=Zmx l Zag.d (fun x=>decide (x=e)) hl (fun fu i=>Zel l fu i e) (fun i=>decide (0<=i)) (fun fu i n=>by
   simp only[Zel,Zad];rw[iNb,Zaj ⟨by omega,by omega⟩];simp) (fun fu=>by
   simp only[Zel,Zad];rw[iNa];rfl) ((((l.length:Nat):Int)-(0:Int)).toNat+2) 0 (by omega) (by omega)
 simp only[Int.natCast_zero,List.drop_zero]at this;rw[this];congr 1;rw[Bool.eq_iff_iff,decide_eq_true_eq,List.contains_iff_mem];have f:=ZmH (fun x=>decide (x=e)) l 0;constructor
 .intro h;obtain⟨k,b,_,⟨x,g,j⟩,_⟩:=ZmG _ l 0 h;rw[<-of_decide_eq_true j];exact List.mem_of_getElem? g
 .intro h;apply Int.not_lt.1;intro b;have:=f.1 b e h;simp at this
def Zmz(ends:List Zag)(x:Zab):Zab:=if x.fState=3 then(if ends.contains x.fEnd then⟨x.fEnd,1,x.fFails,x.fNext⟩else x)else x
theorem Zut{α:Type}(l:List α)(d:α)(i:Nat)(h:i<l.length):l.set i (l.getD i d)=l:=by
 apply List.ext_getElem?;intro k;rw[List.getElem?_set];split
 .rename_i e;subst e;rw[ZbA l d i h,List.getElem?_eq_getElem h]
 .rfl
theorem ZCV(l:List Zab)(ends:List Zag)(h:l.length<=10000)(b:ends.length<=maxLen):ZlQ l ends=some (l.map (Zmz ends)):=by
 simp only[ZlQ,Zzy l h,Option.bind_some];have:=ZGx (Zmz ends) Zab.d l.length (ZjD (by omega)) (fun fu i w=>Zgr ends fu (l.length:Int) i w) some (fun fu i w e f=>by
   simp only[Zgr,Zad,ZFJ ends _ b,Zmo,Option.bind_some];rw[iNb,Zaj ⟨by omega,by omega⟩];simp only[Int.toNat_natCast,Zmz,Bool.cond_eq_ite,beq_iff_eq];split
   .split
    .rfl
    .rw[Zut w _ i (by omega)]
   .rw[Zut w _ i (by omega)]) (fun fu w e=>by
   simp only[Zgr,Zad];rw[iNa]) ((((l.length:Nat):Int)-(0:Int)).toNat+2) 0 l rfl (by omega) (by omega)
 simpa using this
theorem Zuw(l:List Zab)(ends:List Zag)(h:l.length<=10000)(b:ends.length<=maxLen):Zfb l ends=some (l.map (Zmz ends)):=by
 simp only[Zfb,List.nil_append];rw[Zaj ⟨by omega,ZjD (by omega)⟩];have:=ZGx (Zmz ends) Zab.d l.length (ZjD (by omega)) (fun fu i w=>ZcE ends fu i w) some (fun fu i w e f=>by
   simp only[ZcE,Zad,ZRl ends _ b,Option.bind_some];rw[iNb,Zaj ⟨by omega,by omega⟩];simp only[Int.toNat_natCast,Zmz,Bool.cond_eq_ite,beq_iff_eq];split
   .split
    .rfl
    .rw[Zut w _ i (by omega)]
   .rw[Zut w _ i (by omega)]) (fun fu w e=>by
   simp only[ZcE,Zad];rw[iNa]) ((((l.length:Nat):Int)-(0:Int)).toNat+2) 0 l rfl (by omega) (by omega)
 simpa using this
theorem ZqH{l:List Zab}{e:Zag}:Zer l e<0↔∀x∈l,x.fEnd≠e:=by
 unfold Zer;rw[ZmH];simp
theorem Zsp{α:Type}(p:α->Bool):∀(l:List α){x:α},x∈l.takeWhile p->p x=true
 | [],x,h=>by simp at h
 |y :: r,x,h=>by
  rw[List.takeWhile_cons]at h
  split at h
  .rename_i b
   rcases List.mem_cons.1 h with rfl|h
   .exact b
   .exact Zsp p r h
  .cases h
theorem ZQk{l:List Zab}{e:Zab}(h:∀x∈l,x.ok)(b:e.ok):∀x∈setS l e,x.ok:=by
 unfold setS;split
 .intro x hx;rcases List.mem_or_eq_of_mem_set hx with hx|rfl
  .exact h x hx
  .exact b
 .exact h
def fitI(n:Int):Int:=if n<0 then 0 else if n>1099511627776 then 1099511627776 else n
theorem ZiX(n:Int):Zeg n=some (fitI n):=by
 unfold Zeg fitI;congr 1
 repeat' split
 all_goals omega
theorem ZjE(n:Int):Zbl n=some (fitI n):=by
 unfold Zbl fitI;simp only[Zad]
 repeat' split
 all_goals first|rfl|omega
theorem ZfA(n:Int):0<=fitI n/\fitI n<=1099511627776:=by
 unfold fitI
 repeat' split
 all_goals omega
theorem ZJy(p:Zaa)(n:Int):∃q,Zhv p n=some q/\Zfv p n=some q:=by
 unfold Zhv Zfv;simp only[ZiX,ZjE,Option.bind_some,Zad];refine⟨_,rfl,?_⟩;split
 .rfl
 .rfl
theorem ZQv(p:Zaa)(n:Int):∃q,ZjK p n=some q/\ZgM p n=some q:=by
 unfold ZjK ZgM;simp only[Zad];by_cases f:n<1
 .rw[iNa,if_pos f];exact⟨_,rfl,rfl⟩
 .rw[iNb,if_neg f];by_cases g:n>1048576
  .rw[iNa,if_pos g];exact⟨_,rfl,rfl⟩
  .rw[iNb,if_neg g];by_cases b:p.fPing=0
   .have d:(p.fPing==0)=true:=by simp[b]
    have e:(p.fPing != 0)=false:=by simp[b]
    rw[d,e];exact⟨_,rfl,rfl⟩
   .have d:(p.fPing==0)=false:=by simp[b]
    have e:(p.fPing != 0)=true:=by simp[b]
    rw[d,e];simp only[cond_false,cond_true];by_cases h:n<p.fPing
    .rw[if_pos h,iNa];exact⟨_,rfl,rfl⟩
    .rw[if_neg h,iNb];exact⟨_,rfl,rfl⟩
theorem ZHQ(k:Int):∃q,Zii k=some q/\ZeR k=some q/\0<=q/\q<=100:=by
 unfold Zii ZeR;simp only[Zad];by_cases i:k<0
 .rw[if_pos i];have b:(k==1)=false:=by simp;omega
  have d:(k==2)=false:=by simp;omega
  have e:(k==3)=false:=by simp;omega
  have f:(k==4)=false:=by simp;omega
  have g:(k==5)=false:=by simp;omega
  rw[b,d,e,f,g];exact⟨0,rfl,rfl,by omega,by omega⟩
 .rw[if_neg i];by_cases j:k>=6
  .rw[if_pos j];have b:(k==1)=false:=by simp;omega
   have d:(k==2)=false:=by simp;omega
   have e:(k==3)=false:=by simp;omega
   have f:(k==4)=false:=by simp;omega
   have g:(k==5)=false:=by simp;omega
   rw[b,d,e,f,g];exact⟨0,rfl,rfl,by omega,by omega⟩
  .rw[if_neg j];obtain h|h|h|h|h|h:k=0\/k=1\/k=2\/k=3\/k=4\/k=5:=by omega
   all_goals subst h;exact⟨_,rfl,rfl,by decide,by decide⟩
def ZgR(l:List Zaa)(e:Zag):Int:=ixOf (fun x=>decide (x.fEnd=e)) l 0
theorem ZjT(l:List Zaa)(e:Zag)(hl:l.length<=maxLen):Zfn l e=some (ZgR l e):=by
 simp only[Zfn,Zdo];have:=Zmx l Zaa.d (fun x=>decide (x.fEnd=e)) hl (fun fu i=>Zbf l e fu (l.length:Int) i) (fun i=>i) (fun fu i b=>by
   simp only[Zbf,Zoo,Zad,Option.bind_some];rw[iNb,Zaj ⟨by omega,by omega⟩];simp) (fun fu=>by
   simp only[Zbf,Zad];rw[iNa]) ((((l.length:Nat):Int)-(0:Int)).toNat+2) 0 (by omega) (by omega)
 simp only[Int.natCast_zero,List.drop_zero]at this;rw[this];rfl
theorem ZiY(l:List Zaa)(e:Zag)(hl:l.length<=maxLen):Zcr l e=some (ZgR l e):=by
 simp only[Zcr];have:=Zmx l Zaa.d (fun x=>decide (x.fEnd=e)) hl (fun fu i=>ZdA l fu i e) (fun i=>i) (fun fu i b=>by
   simp only[ZdA,Zad];rw[iNb,Zaj ⟨by omega,by omega⟩];simp) (fun fu=>by
   simp only[ZdA,Zad];rw[iNa]) ((((l.length:Nat):Int)-(0:Int)).toNat+2) 0 (by omega) (by omega)
 simp only[Int.natCast_zero,List.drop_zero]at this;rw[this];rfl
def wid(a:Zaf):Nat:=if a.fV6 then 128 else 32
def num(a:Zaf):Nat:=if a.fV6 then 2 ^ 64*a.fHi.toNat+a.fLo.toNat else a.fLo.toNat
def bitN(a:Zaf)(i:Nat):Bool:=(num a).testBit (wid a-1-i)
structure Fits (a:Zaf):Prop where
 hi0:0<=a.fHi
 hi1:a.fHi<=18446744073709551615
 lo0:0<=a.fLo
 lo1:a.fLo<=18446744073709551615
 v4:a.fV6=false->a.fHi=0/\a.fLo<4294967296
theorem ZpQ{a:Zaf}(h:a.ok)(b:ZcN a=true):Fits a:=by
 have d:=Zkn h.2.1;have e:=Zkn h.2.2.1;refine⟨d.1,d.2,e.1,e.2,fun f=>?_⟩;unfold ZcN at b;rw[f]at b;simpa using b
theorem Fits.ok{a:Zaf}(h:Fits a):a.ok:=by
 refine⟨trivial,?_,?_,trivial⟩
 .have:=h.hi0;have:=h.hi1;simp only[okI,Lit.wf,IntKind.min,IntKind.max,IntKind.bits,IntKind.signed];simp;omega
 .have:=h.lo0;have:=h.lo1;simp only[okI,Lit.wf,IntKind.min,IntKind.max,IntKind.bits,IntKind.signed];simp;omega
theorem ZPw{a:Zaf}(h:Fits a):num a<2 ^ wid a:=by
 have:=h.hi0;have:=h.hi1;have:=h.lo0;have:=h.lo1;unfold num wid;cases b:a.fV6
 .have:=h.v4 b;simp only[Bool.false_eq_true,if_false];omega
 .simp only[if_true];omega
theorem Ztk{a b:Zaf}(d:Fits a)(hb:Fits b)(e:a.fV6=b.fV6)(h:∀i,i<wid a->bitN a i=bitN b i):a=b:=by
 have f:num a=num b:=by
  apply Nat.eq_of_testBit_eq;intro j;have g:wid a=wid b:=by unfold wid;rw[e]
  by_cases n:j<wid a
  .have:=h (wid a-1-j) (by omega);unfold bitN at this;rw[<-g]at this;rw[show wid a-1-(wid a-1-j)=j by omega]at this;exact this
  .rw[Nat.testBit_lt_two_pow (Nat.lt_of_lt_of_le (ZPw d) (Nat.pow_le_pow_right (by omega) (by omega))),Nat.testBit_lt_two_pow (Nat.lt_of_lt_of_le (ZPw hb) (Nat.pow_le_pow_right (by omega) (by omega)))]
 have:=d.hi0;have:=d.hi1;have:=d.lo0;have:=d.lo1;have:=hb.hi0;have:=hb.hi1;have:=hb.lo0;have:=hb.lo1;obtain⟨v,o,lo⟩:=a;obtain⟨v',c4,k5⟩:=b;simp only at e;subst e;simp only[num]at f;simp only[Zaf.mk.injEq,true_and];cases v
 .have:=d.v4 rfl;have:=hb.v4 rfl;simp only[Bool.false_eq_true,if_false]at *
  omega
 .simp only[if_true]at *
  omega
theorem ZzG(n k T:Nat)(f:k<=T)(h:n<2 ^ T):n &&& (2 ^ T-2 ^ k)=n-n % 2 ^ k:=by
 have d:n-n % 2 ^ k=2 ^ k*(n / 2 ^ k):=by have:=Nat.div_add_mod n (2 ^ k);omega
 rw[d];apply Nat.eq_of_testBit_eq;intro i;have e:2 ^ T-2 ^ k=2 ^ k*(2 ^ (T-k)-1):=by
  rw[Nat.mul_sub,<-Nat.pow_add,Nat.mul_one];congr 2;omega
 rw[Nat.testBit_and,e,Nat.testBit_two_pow_mul,Nat.testBit_two_pow_mul,Nat.testBit_two_pow_sub_one,Nat.testBit_div_two_pow];by_cases b:k<=i
 .by_cases g:i<T
  .simp[b,show i-k<T-k by omega,show i-k+k=i by omega]
  .have:n.testBit i=false:=Nat.testBit_lt_two_pow (Nat.lt_of_lt_of_le h (Nat.pow_le_pow_right (by omega) (by omega)));simp[b,this,show i-k+k=i by omega]
 .simp[b]
theorem ZFG(n k j:Nat):(n-n % 2 ^ k).testBit j=(decide (k<=j)&&n.testBit j):=by
 have b:n-n % 2 ^ k=2 ^ k*(n / 2 ^ k):=by have:=Nat.div_add_mod n (2 ^ k);omega
 rw[b,Nat.testBit_two_pow_mul,Nat.testBit_div_two_pow];by_cases h:k<=j
 .simp[h,show j-k+k=j by omega]
 .simp[h]
theorem Zrj(a b:Nat)(d:a<2 ^ 64)(hb:b<2 ^ 64):IntKind.u64.wrap (((BitVec.ofInt (IntKind.bits .u64) (a:Int)) &&& (BitVec.ofInt (IntKind.bits .u64) (b:Int))).toNat:Int)=((a &&& b:Nat):Int):=by
 rw[ZFR a b d hb];have:a &&& b<2 ^ 64:=Nat.and_lt_two_pow _ hb;exact ZhT (by omega) (by omega)
theorem ZRv:∀n:Fin 65,ZfM ((n.val:Nat):Int)=some (((2 ^ 64-2 ^ (64-n.val):Nat)):Int):=by decide +kernel
theorem ZAu(n:Nat)(h:n<=64):ZfM ((n:Nat):Int)=some (((2 ^ 64-2 ^ (64-n):Nat)):Int):=ZRv ⟨n,by omega⟩
theorem ZAv(n:Int):ZfM n=ZfM (if(64:Int)<(if(0:Int)>n then(0:Int)else n)then(64:Int)else(if(0:Int)>n then(0:Int)else n)):=by
 unfold ZfM;have e:∀m:Int,0<=m->m<=64->(if(64:Int)<(if(0:Int)>m then(0:Int)else m)then(64:Int)else(if(0:Int)>m then(0:Int)else m))=m:=fun m b d=>by
  repeat' split
  all_goals omega
 rw[e (if(64:Int)<(if(0:Int)>n then(0:Int)else n)then(64:Int)else(if(0:Int)>n then(0:Int)else n)) (by repeat' split<;>omega) (by repeat' split<;>omega)]
theorem ZQf(n:Int)(h:n<=0):ZfM n=some 0:=by
 rw[ZAv,show (if(64:Int)<(if(0:Int)>n then(0:Int)else n)then(64:Int)else(if(0:Int)>n then(0:Int)else n))=((0:Nat):Int)by repeat' split<;>omega,ZAu 0 (by omega)]
 rfl
theorem ZNF(n:Int)(h:64<=n):ZfM n=some 18446744073709551615:=by
 rw[ZAv,show (if(64:Int)<(if(0:Int)>n then(0:Int)else n)then(64:Int)else(if(0:Int)>n then(0:Int)else n))=((64:Nat):Int)by repeat' split<;>omega,ZAu 64 (by omega)]
 rfl
def ZkR(a:Zaf)(n:Nat):Zaf:=if a.fV6 then(if n<=64 then⟨true,((a.fHi.toNat-a.fHi.toNat % 2 ^ (64-n):Nat):Int),0⟩else⟨true,a.fHi,((a.fLo.toNat-a.fLo.toNat % 2 ^ (128-n):Nat):Int)⟩)else⟨false,a.fHi,((a.fLo.toNat-a.fLo.toNat % 2 ^ (32-n):Nat):Int)⟩
theorem ZKF{a:Zaf}(h:a.ok)(f:ZcN a=true)(n:Nat)(d:n<=wid a):ZjN a (n:Int)=some (ZkR a n):=by
 have b:=ZpQ h f;have gG:=Zlg a h;have o:=b.hi0;have r:=b.hi1;have t:=b.lo0;have u:=b.lo1;obtain⟨v,C,lo⟩:=a;obtain⟨p,e⟩:=Zks b.hi0;obtain⟨q,g⟩:=Zks b.lo0;simp only at e g o r t u;subst e g;cases v with
 |false=>
  have y:=b.v4 rfl;simp only at y;have d:n<=32:=d;have dL:(if(32:Int)<(if(0:Int)>(n:Int)then(0:Int)else(n:Int))then(32:Int)else(if(0:Int)>(n:Int)then(0:Int)else(n:Int)))=(n:Int):=by repeat' split<;>omega
  simp only[ZjN,gG,f,Option.bind_some,Bool.not_true,cond_false,Zed,Bool.not_false,cond_true,dL,ZAu n (by omega)];have e:(2:Nat) ^ (64-n)=2 ^ 32 * 2 ^ (32-n):=by rw[<-Nat.pow_add];congr 1;omega
  have bg:(2:Nat) ^ (32-n)<=2 ^ 32:=Nat.pow_le_pow_right (by omega) (by omega);have hQ:0<(2:Nat) ^ (32-n):=Nat.pow_pos (by omega);have hd:(2 ^ 64-2 ^ (64-n):Nat) / 4294967296=2 ^ 32-2 ^ (32-n):=by
   rw[e];generalize (2:Nat) ^ (32-n)=z at *
   omega
  have A:Int.fdiv ((2 ^ 64-2 ^ (64-n):Nat):Int) (2 ^ (min (32:Int).toNat (IntKind.bits .u64)))=((2 ^ 32-2 ^ (32-n):Nat):Int):=by
   rw[show (2:Int) ^ (min (32:Int).toNat (IntKind.bits .u64))=4294967296 from rfl,Int.fdiv_eq_ediv_of_nonneg _ (by omega),<-hd];rfl
  rw[A,Zrj q _ (by omega) (by generalize (2:Nat) ^ (32-n)=z at *;omega),ZzG q (32-n) 32 (by omega) (by omega)];simp[ZkR]
 |true=>
  have d:n<=128:=d;have dL:(if(128:Int)<(if(0:Int)>(n:Int)then(0:Int)else(n:Int))then(128:Int)else(if(0:Int)>(n:Int)then(0:Int)else(n:Int)))=(n:Int):=by repeat' split<;>omega
  simp only[ZjN,gG,f,Option.bind_some,Bool.not_true,cond_false,Zed,cond_true,dL,ZmS];have B:Zay (n:Int) 64=(n:Int)-64:=Zbi (by omega) (by omega);rw[B];by_cases h64:n<=64
  .rw[ZAu n h64,ZQf _ (by omega)];simp only[Option.bind_some];rw[Zrj p _ (by omega) (by have:=Nat.pow_pos (a:=2) (n:=64-n) (by omega);omega),ZzG p (64-n) 64 (by omega) (by omega)];have:=Zrj q 0 (by omega) (by omega);rw[Nat.and_zero]at this;rw[show (0:Int)=((0:Nat):Int)from rfl,this];simp[ZkR,h64]
  .rw[ZNF _ (by omega),show (n:Int)-64=((n-64:Nat):Int)by omega,ZAu (n-64) (by omega)];simp only[Option.bind_some];have i:=Zrj p 18446744073709551615 (by omega) (by omega);have j:=ZzG p 0 64 (by omega) (by omega);rw[show (2:Nat) ^ 64-2 ^ 0=18446744073709551615 from rfl,Nat.pow_zero,Nat.mod_one,Nat.sub_zero]at j;rw[j]at i;rw[show (18446744073709551615:Int)=((18446744073709551615:Nat):Int)from rfl,i];rw[show 64-(n-64)=128-n by omega,Zrj q _ (by omega) (by have:=Nat.pow_pos (a:=2) (n:=128-n) (by omega);omega),ZzG q (128-n) 64 (by omega) (by omega)];simp[ZkR,h64]
theorem ZjV(a:Zaf)(n:Nat):(ZkR a n).fV6=a.fV6:=by
 unfold ZkR;cases h:a.fV6
 .rfl
 .simp only[if_true];split<;>rfl
theorem Zld{a:Zaf}(h:Fits a)(n:Nat):Fits (ZkR a n):=by
 have:=h.hi0;have:=h.hi1;have:=h.lo0;have:=h.lo1;have l:∀x y:Nat,x-x % y<=x:=fun x y=>Nat.sub_le _ _;have l1:=l a.fHi.toNat (2 ^ (64-n));have l2:=l a.fLo.toNat (2 ^ (128-n));have l3:=l a.fLo.toNat (2 ^ (32-n));unfold ZkR;cases b:a.fV6
 .have:=h.v4 b;simp only[Bool.false_eq_true,if_false];exact⟨by simp only;omega,by simp only;omega,by simp only;omega,by simp only;omega,fun _=>⟨this.1,by simp only;omega⟩⟩
 .simp only[if_true];split
  .exact⟨by simp only;omega,by simp only;omega,by simp only;omega,by simp only;omega,fun h=>by simp at h⟩
  .exact⟨by simp only;omega,by simp only;omega,by simp only;omega,by simp only;omega,fun h=>by simp at h⟩
theorem Zps{b lo j:Nat}(hl:lo<2 ^ 64):(2 ^ 64*b+lo).testBit j=if j<64 then lo.testBit j else b.testBit (j-64):=Nat.testBit_two_pow_mul_add b hl j
theorem Zmb{a:Zaf}(h:Fits a)(n i:Nat)(e:n<=wid a)(f:i<wid a):bitN (ZkR a n) i=(decide (i<n)&&bitN a i):=by
 have j:=h.hi0;have o:=h.hi1;have p:=h.lo0;have r:=h.lo1;unfold bitN;have g:wid (ZkR a n)=wid a:=by unfold wid;rw[ZjV]
 rw[g];unfold wid at e f ⊢;unfold num ZkR;cases d:a.fV6
 .simp only[d,Bool.false_eq_true,if_false]at *
  rw[Int.toNat_natCast,ZFG];congr 1;rw[decide_eq_decide];omega
 .simp only[d,if_true]at *
  have jj:a.fLo.toNat<2 ^ 64:=by omega
  by_cases h64:n<=64
  .simp only[h64,if_true,Int.toNat_natCast];rw[Zps (by simp),Zps jj];by_cases b:128-1-i<64
   .simp only[b,if_true];rw[show (decide (i<n))=false by rw[decide_eq_false_iff_not];omega];simp
   .simp only[b,if_false];rw[ZFG];congr 1;rw[decide_eq_decide];omega
  .simp only[h64,if_false,if_true,Int.toNat_natCast];rw[Zps (Nat.lt_of_le_of_lt (Nat.sub_le _ _) jj),Zps jj];by_cases b:128-1-i<64
   .simp only[b,if_true];rw[ZFG];congr 1;rw[decide_eq_decide];omega
   .simp only[b,if_false];rw[show (decide (i<n))=true by rw[decide_eq_true_eq];omega];simp
theorem ZHZ{a:Zaf}(h:Fits a)(hr:ZcN a=true)(n:Nat):ZcN (ZkR a n)=true:=by
 have f:=h.hi0;have g:=h.hi1;have i:=h.lo0;have j:=h.lo1;unfold ZkR;cases d:a.fV6
 .have:=h.v4 d;have l3:a.fLo.toNat-a.fLo.toNat % 2 ^ (32-n)<=a.fLo.toNat:=Nat.sub_le _ _;simp[ZcN,this.1];omega
 .simp only[if_true];split
  .simp[ZcN]
  .rename_i h64;unfold ZcN at hr ⊢;rw[d]at hr;simp only[if_true,Bool.not_eq_true',Bool.and_eq_false_iff,decide_eq_false_iff_not]at hr ⊢;rcases hr with hr|hr
   .exact .inl hr
   .refine .inr fun e=>hr ?_;have e':(a.fLo.toNat-a.fLo.toNat % 2 ^ (128-n)) / 4294967296=65535:=by omega
    have hx:a.fLo.toNat-a.fLo.toNat % 2 ^ (128-n)=2 ^ (128-n)*(a.fLo.toNat / 2 ^ (128-n)):=by have:=Nat.div_add_mod a.fLo.toNat (2 ^ (128-n));omega
    rw[hx]at e';by_cases o:128-n<=32
    .have b:(4294967296:Nat)=2 ^ (128-n) * 2 ^ (32-(128-n)):=by
      rw[<-Nat.pow_add,show 128-n+(32-(128-n))=32 by omega]
     rw[b,Nat.mul_div_mul_left _ _ (Nat.pow_pos (by omega)),Nat.div_div_eq_div_mul,<-b]at e';omega
    .have b:(2:Nat) ^ (128-n)=4294967296*(2 * 2 ^ (128-n-33)):=by
      rw[show (4294967296:Nat)*(2 * 2 ^ (128-n-33))=2 ^ 33 * 2 ^ (128-n-33)by omega,<-Nat.pow_add];congr 1;omega
     rw[b,Nat.mul_assoc,Nat.mul_div_cancel_left _ (by omega),Nat.mul_assoc]at e';omega
def ZhQ(p:Zae):Bool:=ZcN p.fAddr&&decide (0<=p.fBits)&&decide (p.fBits<=(wid p.fAddr:Int))&&decide (ZkR p.fAddr p.fBits.toNat=p.fAddr)
structure RN (p:Zae):Prop where
 ok:p.fAddr.ok
 right:ZcN p.fAddr=true
 nn:0<=p.fBits
 le:p.fBits<=(wid p.fAddr:Int)
 cut:ZkR p.fAddr p.fBits.toNat=p.fAddr
theorem RN.fits{p:Zae}(h:RN p):Fits p.fAddr:=ZpQ h.ok h.right
theorem Zvh{p:Zae}(h:p.fAddr.ok):ZhQ p=true↔RN p:=by
 unfold ZhQ;simp only[Bool.and_eq_true,decide_eq_true_eq];exact⟨fun⟨⟨⟨a,b⟩,c⟩,d⟩=>⟨h,a,b,c,d⟩,fun⟨_,a,b,c,d⟩=>⟨⟨⟨a,b⟩,c⟩,d⟩⟩
theorem ZFQ(a:Zaf):Zed a=some (wid a:Int):=by
 unfold Zed wid;cases a.fV6<;>rfl
theorem ZEB(a:Zaf)(h:a.ok)(n:Int):ZgO a n=some (if ZcN a=true/\0<=n/\n<=(wid a:Int)then(⟨ZkR a n.toNat,n⟩,true)else(⟨⟨false,0,0⟩,0⟩,false)):=by
 simp only[ZgO,Zlg a h,ZFQ,Option.bind_some,Zad];cases d:ZcN a
 .simp
 .simp only[Bool.not_true,cond_false,true_and];by_cases h0:n<0
  .rw[if_pos h0,iNa]
  .rw[if_neg h0];by_cases b:n>(wid a:Int)
   .rw[if_pos b,iNa]
   .rw[if_neg b,iNb];have:=ZKF h d n.toNat (by omega);rw[Int.toNat_of_nonneg (by omega)]at this;rw[this];rfl
theorem ZlT(p:Zae)(h:p.fAddr.ok):Ziv p=some (ZhQ p):=by
 simp only[Ziv,ZEB _ h,Option.bind_some];unfold ZhQ;split
 .rename_i b;simp only[cond_true,b.1,b.2.1,b.2.2,decide_true,Bool.true_and,Option.some.injEq];rw[decide_eq_decide];obtain⟨x,n⟩:=p;simp
 .rename_i b;simp only[cond_false,Option.some.injEq];rw[eq_comm,Bool.eq_false_iff];intro d;simp only[Bool.and_eq_true,decide_eq_true_eq]at d;exact b ⟨d.1.1.1,d.1.1.2,d.1.2⟩
def bs(p:Zae):List Bool:=(List.range p.fBits.toNat).map (bitN p.fAddr)
theorem ZQa(p:Zae):(bs p).length=p.fBits.toNat:=by simp[bs]
theorem ZQb(p:Zae)(i:Nat)(h:i<p.fBits.toNat):(bs p)[i]?=some (bitN p.fAddr i):=by simp[bs,h]
theorem ZJT{p:Zae}(h:RN p)(i:Nat)(d:i<wid p.fAddr)(e:p.fBits.toNat<=i):bitN p.fAddr i=false:=by
 have b:=Zmb h.fits p.fBits.toNat i (by have:=h.le;omega) d;rw[h.cut]at b;rw[b];rw[show decide (i<p.fBits.toNat)=false by rw[decide_eq_false_iff_not];omega];rfl
theorem ZRB{p q:Zae}(b:RN p)(d:RN q)(e:p.fAddr.fV6=q.fAddr.fV6)(hb:bs p=bs q):p=q:=by
 have r:wid p.fAddr=wid q.fAddr:=by unfold wid;rw[e]
 have f:p.fBits=q.fBits:=by
  have:=congrArg List.length hb;rw[ZQa,ZQa]at this;have:=b.nn;have:=d.nn;omega
 have g:p.fAddr=q.fAddr:=by
  refine Ztk b.fits d.fits e fun i o=>?_;by_cases h:i<p.fBits.toNat
  .have j:=ZQb p i h;rw[hb,ZQb q i (by omega)]at j;exact(Option.some.inj j).symm
  .rw[ZJT b i o (by omega),ZJT d i (by omega) (by omega)]
 obtain⟨x,n⟩:=p;obtain⟨y,m⟩:=q;simp only at f g;rw[f,g]
theorem ZQo{a:Zaf}(h:a.ok)(e:ZcN a=true)(n:Nat)(f:n<=wid a):RN ⟨ZkR a n,(n:Int)⟩/\bs ⟨ZkR a n,(n:Int)⟩=(List.range n).map (bitN a):=by
 have d:=ZpQ h e;have g:wid (ZkR a n)=wid a:=by unfold wid;rw[ZjV]
 refine⟨⟨(Zld d n).ok,ZHZ d e n,by simp only;omega,by simp only;omega,?_⟩,?_⟩
 .simp only[Int.toNat_natCast];refine Ztk (Zld (Zld d n) n) (Zld d n) (ZjV _ _) fun i b=>?_;have b:i<wid a:=by unfold wid at b ⊢;rwa [ZjV,ZjV]at b
  rw[Zmb (Zld d n) n i (by omega) (by omega),Zmb d n i f b];cases decide (i<n)<;>simp
 .unfold bs;simp only[Int.toNat_natCast];apply List.map_congr_left;intro i b;have b:i<n:=by simpa using b
  rw[Zmb d n i f (by omega),show decide (i<n)=true by rw[decide_eq_true_eq];exact b];rfl
theorem ZPR(p:Zae)(a:Zaf)(b:RN p)(g:a.ok):ZlP p a=some (ZcN a&&decide (p.fAddr.fV6=a.fV6)&&decide (∀i,i<p.fBits.toNat->bitN a i=bitN p.fAddr i)):=by
 have hrc:=(Zvh b.ok).2 b;simp only[ZlP,ZlT p b.ok,hrc,Zlg a g,Option.bind_some,cond_true];cases n:ZcN a
 .rfl
 .simp only[cond_true,Bool.true_and];by_cases d:p.fAddr.fV6=a.fV6
  .have t:wid p.fAddr=wid a:=by unfold wid;rw[d]
   have o:=ZKF g n p.fBits.toNat (by have:=b.le;omega);rw[Int.toNat_of_nonneg b.nn]at o;have j:=ZpQ g n;rw[show (p.fAddr.fV6==a.fV6)=true by simp[d],cond_true,o,decide_eq_true d];simp only[Option.bind_some,Bool.true_and,Option.some.injEq];rw[decide_eq_decide];have hle:p.fBits.toNat<=wid a:=by have:=b.le;omega
   constructor
   .intro e i f;have r:=Zmb j p.fBits.toNat i hle (by omega);rw[e,decide_eq_true f]at r;simpa using r.symm
   .intro h;refine Ztk (Zld j _) b.fits (by rw[ZjV];exact d.symm) fun i f=>?_;have f:i<wid a:=by unfold wid at f ⊢;rwa [ZjV]at f
    rw[Zmb j p.fBits.toNat i hle f];by_cases hb:i<p.fBits.toNat
    .rw[decide_eq_true hb,h i hb];rfl
    .rw[decide_eq_false hb,ZJT b i (by omega) (by omega)];rfl
  .rw[show (p.fAddr.fV6==a.fV6)=false by simp[d],cond_false,decide_eq_false d];rfl
theorem ZtV(n k:Nat)(g:k<64)(b:n<2 ^ 64):IntKind.i64.wrap (IntKind.u64.wrap (((BitVec.ofInt (IntKind.bits .u64) (Int.fdiv (n:Int) (2 ^ (min ((k:Nat):Int).toNat (IntKind.bits .u64))))) &&& (BitVec.ofInt (IntKind.bits .u64) (1:Int))).toNat:Int))=if n.testBit k then 1 else 0:=by
 rw[Int.toNat_natCast,show min k (IntKind.bits .u64)=k from Nat.min_eq_left (by simp[IntKind.bits];omega)];have e:Int.fdiv (n:Int) (2 ^ k)=((n / 2 ^ k:Nat):Int):=by
  rw[Int.fdiv_eq_ediv_of_nonneg _ (by have:(0:Int)<2 ^ k:=Int.pow_pos (by omega);omega)];simp
 have d:n / 2 ^ k<2 ^ 64:=Nat.lt_of_le_of_lt (Nat.div_le_self _ _) b;rw[e,show (1:Int)=((1:Nat):Int)from rfl,Zrj _ 1 d (by omega),Nat.and_one_is_mod,Nat.testBit_eq_decide_div_mod_eq];have h:n / 2 ^ k % 2<2:=Nat.mod_lt _ (by omega);have f:IntKind.i64.wrap ((n / 2 ^ k % 2:Nat):Int)=((n / 2 ^ k % 2:Nat):Int):=by
  simp only[IntKind.wrap,IntKind.bits,IntKind.signed];simp;omega
 rw[f];simp only[decide_eq_true_eq];split<;>omega
theorem ZMU{a:Zaf}(h:Fits a)(i:Nat)(b:i<wid a):Zji a (i:Int)=some (if bitN a i then 1 else 0):=by
 have g:=h.hi0;have j:=h.hi1;have n:=h.lo0;have o:=h.lo1;obtain⟨v,c4,lo⟩:=a;obtain⟨p,d⟩:=Zks h.hi0;obtain⟨q,f⟩:=Zks h.lo0;simp only at d f g j n o;subst d f;cases v with
 |false=>
  have b:i<32:=b;have r:=h.v4 rfl;simp only at r;have e:Zay (Zay (32:Int) 1) (i:Int)=((31-i:Nat):Int):=by rw[show Zay (32:Int) 1=31 from rfl,Zbi (by omega) (by omega)];omega
  simp only[Zji,Zed,cond_false,Option.bind_some,Zad,e];rw[iNa,iNa,iNa,Zaj (by omega),ZtV q _ (by omega) (by omega)];rfl
 |true=>
  have b:i<128:=b;have e:Zay (Zay (128:Int) 1) (i:Int)=((127-i:Nat):Int):=by rw[show Zay (128:Int) 1=127 from rfl,Zbi (by omega) (by omega)];omega
  simp only[Zji,Zed,cond_true,Option.bind_some,Zad,e];rw[iNa,iNa];have hb:bitN ⟨true,(p:Int),(q:Int)⟩ i=if 127-i<64 then q.testBit (127-i)else p.testBit (127-i-64):=by
   unfold bitN num wid;simp only[if_true,Int.toNat_natCast];rw[Zps (by omega)]
  rw[hb];by_cases h64:i<64
  .have t:Zay ((127-i:Nat):Int) 64=((127-i-64:Nat):Int):=by rw[Zbi (by omega) (by omega)];omega
   rw[iNb,t,Zaj (by omega),ZtV p _ (by omega) (by omega),if_neg (show ¬127-i<64 by omega)]
  .rw[iNa,Zaj (by omega),ZtV q _ (by omega) (by omega),if_pos (show 127-i<64 by omega)]
theorem Zyk{p:Zae}(h:RN p)(i:Nat)(b:i<wid p.fAddr):ZjW p (i:Int)=some (if bitN p.fAddr i then 1 else 0):=by
 simp only[ZjW,ZMU h.fits i b,Option.bind_some]
def Len(z r:Nat):Prop:=z<2 ^ r/\(0<r->2 ^ (r-1)<=z)
theorem ZvI{z r:Nat}(k:Nat)(f:2 ^ k<=z)(h:Len (z / 2 ^ k) r):Len z (r+k)/\0<r:=by
 have b:0<2 ^ k:=Nat.pow_pos (by omega);have g:1<=z / 2 ^ k:=(Nat.le_div_iff_mul_le b).2 (by omega);have d:0<r:=by
  rcases Nat.eq_zero_or_pos r with e|e
  .subst e;have:=h.1;simp at this;omega
  .exact e
 refine⟨⟨?_,fun _=>?_⟩,d⟩
 .rw[Nat.pow_add];exact(Nat.div_lt_iff_lt_mul b).1 h.1
 .have:=(Nat.le_div_iff_mul_le b).1 (h.2 d);rw[<-Nat.pow_add]at this;rwa [show r+k-1=r-1+k by omega]
set_option maxRecDepth 100000 in
theorem ZRG:∃T:ByteArray,T.size=256/\(∀i:Fin 256,i.val<2 ^ ZlF T i.val/\(0<ZlF T i.val->2 ^ (ZlF T i.val-1)<=i.val)/\ZlF T i.val<=8)/\∀v0 v2:Int,Zgc v0 v2 =
  bif(decide (v0>=(256:Int)))then
   need (0<=(IntKind.wrap .u8 (Int.fdiv v0 (2 ^ (min (8:Int).toNat (IntKind.bits .u64)))))/\(IntKind.wrap .u8 (Int.fdiv v0 (2 ^ (min (8:Int).toNat (IntKind.bits .u64)))))<((T.size:Nat):Int)) <|
   some (Zam (Zam v2 (8:Int)) (IntKind.wrap .i64 ((ZlF T (IntKind.wrap .u8 (Int.fdiv v0 (2 ^ (min (8:Int).toNat (IntKind.bits .u64))))).toNat:Nat):Int)))
  else
   need (0<=(IntKind.wrap .u8 v0)/\(IntKind.wrap .u8 v0)<((T.size:Nat):Int)) <|
   some (Zam v2 (IntKind.wrap .i64 ((ZlF T (IntKind.wrap .u8 v0).toNat:Nat):Int))):=by
 refine⟨_,?_,?_,fun v0 v2=>rfl⟩
 .rfl
 .decide +kernel
theorem ZJw{a:Int}(h:0<=a)(h':a<256):IntKind.u8.wrap a=a:=by
 simp only[IntKind.wrap,IntKind.bits,IntKind.signed];simp;omega
theorem ZAo{a:Int}(h:0<=a)(h':a<256):IntKind.i64.wrap a=a:=by
 simp only[IntKind.wrap,IntKind.bits,IntKind.signed];simp;omega
theorem ZRI(z v:Nat)(o:z<65536)(p:v<=1000):∃r,Len z r/\r<=16/\Zgc (z:Int) (v:Int)=some ((v+r:Nat):Int):=by
 obtain⟨T,i,g,j⟩:=ZRG;rw[j,Zad,i];by_cases h:256<=z
 .rw[iNb];have e:Int.fdiv (z:Int) (2 ^ (min (8:Int).toNat (IntKind.bits .u64)))=((z / 256:Nat):Int):=by
   rw[show (2:Int) ^ (min (8:Int).toNat (IntKind.bits .u64))=256 from rfl,Int.fdiv_eq_ediv_of_nonneg _ (by omega)];rfl
  obtain⟨b,d,f⟩:=g ⟨z / 256,by omega⟩;simp only at b d f;rw[e,ZJw (by omega) (by omega),Zaj (by omega),Int.toNat_natCast,ZAo (by omega) (by omega)];obtain⟨n,t⟩:=ZvI (z:=z) (r:=ZlF T (z / 256)) 8 (by omega) ⟨by rw[show (2:Nat) ^ 8=256 from rfl];exact b,by rw[show (2:Nat) ^ 8=256 from rfl];exact d⟩;refine⟨_,n,by omega,?_⟩;rw[Zbb (a:=(v:Int)) (by omega) (by omega),Zbb (by omega) (by omega)];congr 1;omega
 .rw[iNa];obtain⟨b,d,f⟩:=g ⟨z,by omega⟩;simp only at b d f;rw[ZJw (by omega) (by omega),Zaj (by omega),Int.toNat_natCast,ZAo (by omega) (by omega)];refine⟨_,⟨b,d⟩,by omega,?_⟩;rw[Zbb (by omega) (by omega)];congr 1
theorem ZRH(z v:Nat)(i:z<4294967296)(j:v<=900):∃r,Len z r/\r<=32/\Zgd (z:Int) (v:Int)=some ((v+r:Nat):Int):=by
 simp only[Zgd,Zad];by_cases h:65536<=z
 .rw[iNb];have e:Int.fdiv (z:Int) (2 ^ (min (16:Int).toNat (IntKind.bits .u64)))=((z / 65536:Nat):Int):=by
   rw[show (2:Int) ^ (min (16:Int).toNat (IntKind.bits .u64))=65536 from rfl,Int.fdiv_eq_ediv_of_nonneg _ (by omega)];rfl
  rw[e,show Zam (v:Int) 16=((v+16:Nat):Int)by rw[Zbb (by omega) (by omega)];omega];obtain⟨r,b,f,d⟩:=ZRI (z / 65536) (v+16) (by omega) (by omega);obtain⟨g,_⟩:=ZvI (z:=z) 16 (by omega) (by rw[show (2:Nat) ^ 16=65536 from rfl];exact b);exact⟨r+16,g,by omega,by rw[d];congr 2;omega⟩
 .rw[iNa];obtain⟨r,b,f,d⟩:=ZRI z v (by omega) (by omega);exact⟨r,b,by omega,d⟩
theorem len64(z:Nat)(i:z<2 ^ 64):∃r,Len z r/\r<=64/\Zkh (z:Int)=some ((r:Nat):Int):=by
 simp only[Zkh,Zad];by_cases h:4294967296<=z
 .rw[iNb];have e:Int.fdiv (z:Int) (2 ^ (min (32:Int).toNat (IntKind.bits .u64)))=((z / 4294967296:Nat):Int):=by
   rw[show (2:Int) ^ (min (32:Int).toNat (IntKind.bits .u64))=4294967296 from rfl,Int.fdiv_eq_ediv_of_nonneg _ (by omega)];rfl
  rw[e];obtain⟨r,b,f,d⟩:=ZRH (z / 4294967296) 32 (by omega) (by omega);obtain⟨g,_⟩:=ZvI (z:=z) 32 (by omega) (by rw[show (2:Nat) ^ 32=4294967296 from rfl];exact b);exact⟨r+32,g,by omega,by rw[show (32:Int)=((32:Nat):Int)from rfl,d];congr 2;omega⟩
 .rw[iNa];obtain⟨r,b,f,d⟩:=ZRH z 0 (by omega) (by omega);exact⟨r,b,by omega,by rw[show (0:Int)=((0:Nat):Int)from rfl,d];congr 2;omega⟩
theorem ZJv(a b:Nat)(d:a<2 ^ 64)(hb:b<2 ^ 64):IntKind.u64.wrap (((BitVec.ofInt (IntKind.bits .u64) (a:Int)) ^^^ (BitVec.ofInt (IntKind.bits .u64) (b:Int))).toNat:Int)=((a ^^^ b:Nat):Int):=by
 have e:∀c:Nat,c<2 ^ 64->(BitVec.ofInt 64 (c:Int)).toNat=c:=fun c f=>by
  rw[BitVec.ofInt_natCast,BitVec.toNat_ofNat];exact Nat.mod_eq_of_lt f
 have g:((BitVec.ofInt (IntKind.bits .u64) (a:Int)) ^^^ (BitVec.ofInt (IntKind.bits .u64) (b:Int))).toNat=a ^^^ b:=by
  show (BitVec.ofInt 64 (a:Int) ^^^ BitVec.ofInt 64 (b:Int)).toNat=a ^^^ b;rw[BitVec.toNat_xor,e a d,e b hb]
 rw[g];have:a ^^^ b<2 ^ 64:=Nat.xor_lt_two_pow d hb;exact ZhT (by omega) (by omega)
theorem lead(a b:Nat)(i:a<2 ^ 64)(hb:b<2 ^ 64):∃k,k<=64/\ZdG ((a ^^^ b:Nat):Int)=some ((k:Nat):Int)/\(∀j,64-k<=j->a.testBit j=b.testBit j)/\(k<64->a.testBit (63-k)≠b.testBit (63-k))/\(k=64↔a ^^^ b=0):=by
 have hx:a ^^^ b<2 ^ 64:=Nat.xor_lt_two_pow i hb;obtain⟨r,d,p,n⟩:=len64 (a ^^^ b) hx;refine⟨64-r,by omega,?_,fun j t=>?_,fun u=>?_,?_⟩
 .simp only[ZdG,n,Option.bind_some];rw[Zbi (by omega) (by omega)];congr 1;omega
 .have f:(a ^^^ b).testBit j=false:=Nat.testBit_lt_two_pow (Nat.lt_of_lt_of_le d.1 (Nat.pow_le_pow_right (by omega) (by omega)));rw[Nat.testBit_xor]at f
  revert f
  cases a.testBit j<;>cases b.testBit j<;>simp
 .have f:(a ^^^ b).testBit (r-1)=true:=by
   have v:=d.2 (by omega);have y:a ^^^ b<2 ^ (r-1) * 2:=by rw[<-Nat.pow_succ,show (r-1).succ=r by omega];exact d.1
   rw[Nat.testBit_eq_decide_div_mod_eq,decide_eq_true_eq];have o:(a ^^^ b) / 2 ^ (r-1)=1:=by
    have g:0<2 ^ (r-1):=Nat.pow_pos (by omega);have:=(Nat.le_div_iff_mul_le g).2 (show 1 * 2 ^ (r-1)<=a ^^^ b by omega);have:=(Nat.div_lt_iff_lt_mul g).2 (show a ^^^ b<2 * 2 ^ (r-1)by omega);omega
   rw[o]
  rw[show 63-(64-r)=r-1 by omega];rw[Nat.testBit_xor]at f
  revert f
  cases a.testBit (r-1)<;>cases b.testBit (r-1)<;>simp
 .constructor
  .intro e;have:r=0:=by omega
   subst this;have:=d.1;simpa using this
  .intro e;rw[e]at d;rcases Nat.eq_zero_or_pos r with h|h
   .omega
   .have:=d.2 h;have:0<2 ^ (r-1):=Nat.pow_pos (by omega);omega
theorem ZMt{p q:Zae}(g:RN p)(o:RN q)(u:p.fAddr.fV6=q.fAddr.fV6) :
  ∃k:Nat,ZmK p q=some (k:Int)/\k<=p.fBits.toNat/\k<=q.fBits.toNat/\(∀i,i<k->bitN p.fAddr i=bitN q.fAddr i)/\(k<p.fBits.toNat->k<q.fBits.toNat->bitN p.fAddr k≠bitN q.fAddr k):=by
 have fp:=g.fits;have fq:=o.fits;have A:=fp.hi0;have E:=fp.hi1;have B:=fp.lo0;have F:=fp.lo1;have b1:=fq.hi0;have b2:=fq.hi1;have b3:=fq.lo0;have b4:=fq.lo1;have n1:=g.nn;have n2:=o.nn;have l1:=g.le;have l2:=o.le;have mF:=fp.v4;have mG:=fq.v4;clear g o fp fq;obtain⟨⟨v,G,lo⟩,n⟩:=p;obtain⟨⟨v',c4,k5⟩,n'⟩:=q;simp only at u A E B F b1 b2 b3 b4 n1 n2 mF mG;subst u;obtain⟨x,rfl⟩:=Zks A;obtain⟨y,rfl⟩:=Zks B;obtain⟨x',rfl⟩:=Zks b1;obtain⟨y',rfl⟩:=Zks b3;obtain⟨n,rfl⟩:=Zks n1;obtain⟨n',rfl⟩:=Zks n2;have dL:(if(n':Int)<(n:Int)then(n':Int)else(n:Int))=((min n n':Nat):Int):=by split<;>omega
 have mH:∀k:Nat,(if((min n n':Nat):Int)<(k:Int)then((min n n':Nat):Int)else(k:Int))=((min k (min n n'):Nat):Int):=fun k=>by split<;>omega
 obtain⟨f,L,H,C,I,D⟩:=lead x x' (by omega) (by omega);obtain⟨b,d1,d2,d3,d4,d5⟩:=lead y y' (by omega) (by omega);simp only[ZmK,ZJv x x' (by omega) (by omega),ZJv y y' (by omega) (by omega),H,d2,Option.bind_some,dL]
 -- what is to be shown of a number
 have fin:∀k:Nat,(∀i,i<k->i<wid ⟨v,x,y⟩->bitN ⟨v,x,y⟩ i=bitN ⟨v,x',y'⟩ i)->(k<wid ⟨v,x,y⟩->bitN ⟨v,x,y⟩ k≠bitN ⟨v,x',y'⟩ k) ->
   (min k (min n n'))<=n/\(min k (min n n'))<=n'/\(∀i,i<min k (min n n')->bitN ⟨v,x,y⟩ i=bitN ⟨v,x',y'⟩ i)/\((min k (min n n'))<n->(min k (min n n'))<n'->bitN ⟨v,x,y⟩ (min k (min n n'))≠bitN ⟨v,x',y'⟩ (min k (min n n'))):=by
  intro k r d;simp only at l1 l2;refine⟨by omega,by omega,fun i G=>r i (by omega) (by omega),fun M O=>?_⟩;have e:min k (min n n')=k:=by omega
  rw[e];exact d (by omega)
 cases v with
 |false=>
  have U:=(mF rfl).1;have V:=(mG rfl).1;have W:=(mF rfl).2;have Z:=(mG rfl).2;have gV:x ^^^ x'=0:=by rw[show x=x' by omega,Nat.xor_self]
  have hk2:32<=b:=by
   rcases Nat.lt_or_ge b 32 with h|h
   .exfalso;apply d4 (by omega);rw[Nat.testBit_lt_two_pow (Nat.lt_of_lt_of_le (show y<2 ^ 32 by omega) (Nat.pow_le_pow_right (by omega) (by omega))),Nat.testBit_lt_two_pow (Nat.lt_of_lt_of_le (show y'<2 ^ 32 by omega) (Nat.pow_le_pow_right (by omega) (by omega)))]
   .exact h
  rw[gV,show (((0:Nat):Int)==0)=true from rfl,cond_true];have t:Zay (Zam 64 (b:Int)) (Zay 128 32)=((b-32:Nat):Int):=by
   rw[Zbb (by omega) (by omega),show Zay (128:Int) 32=96 from rfl,Zbi (by omega) (by omega)];omega
  simp only[Zhi,Bool.not_false,cond_true,Zed,cond_false,Option.bind_some,t,mH];refine⟨_,rfl,?_⟩;refine fin (b-32) (fun i r d=>?_) (fun h=>?_)
  .have d:i<32:=d;show (y.testBit (32-1-i))=(y'.testBit (32-1-i));exact d3 _ (by omega)
  .have h:b-32<32:=h;show (y.testBit (32-1-(b-32)))≠(y'.testBit (32-1-(b-32)));rw[show 32-1-(b-32)=63-b by omega];exact d4 (by omega)
 |true=>
  have hb:∀(x y:Nat),y<2 ^ 64->∀i,bitN ⟨true,(x:Int),(y:Int)⟩ i=if 127-i<64 then y.testBit (127-i)else x.testBit (127-i-64):=fun x y hy i=>by
   unfold bitN num wid;simp only[if_true,Int.toNat_natCast];rw[Zps (by omega)]
  by_cases hx:x ^^^ x'=0
  .rw[hx,show (((0:Nat):Int)==0)=true from rfl,cond_true];have hxx:x=x':=by
    apply Nat.eq_of_testBit_eq;intro j;exact C j (by have:=D.2 hx;omega)
   have t:Zam 64 (b:Int)=((64+b:Nat):Int):=by rw[Zbb (by omega) (by omega)];omega
   simp only[Zhi,Bool.not_true,cond_false,t,mH];refine⟨_,rfl,?_⟩;refine fin (64+b) (fun i r d=>?_) (fun h=>?_)
   .have d:i<128:=d;rw[hb x y (by omega),hb x' y' (by omega),hxx];split
    .exact d3 _ (by omega)
    .rfl
   .have h:64+b<128:=h;rw[hb x y (by omega),hb x' y' (by omega),iNb,iNb];rw[show 127-(64+b)=63-b by omega];exact d4 (by omega)
  .have J:f<64:=by
    rcases Nat.lt_or_ge f 64 with h|h
    .exact h
    .exact absurd (D.1 (by omega)) hx
   have hne:(((x ^^^ x':Nat):Int)==0)=false:=by
    rw[beq_eq_false_iff_ne];intro e;exact hx (by omega)
   rw[hne,cond_false];simp only[Zhi,Bool.not_true,cond_false,mH];refine⟨_,rfl,?_⟩;refine fin f (fun i r d=>?_) (fun h=>?_)
   .rw[hb x y (by omega),hb x' y' (by omega),iNa,iNa];exact C _ (by omega)
   .rw[hb x y (by omega),hb x' y' (by omega),iNa,iNa];rw[show 127-f-64=63-f by omega];exact I J
def Bel'(n:Nat)(f:Nat->Bool)(p:Zae):Prop:=n<=p.fBits.toNat/\∀i,i<n->bitN p.fAddr i=f i
def ext'(p:Zae)(b:Bool):Nat->Bool:=fun i=>if i<p.fBits.toNat then bitN p.fAddr i else b
theorem Zla{p q:Zae}{b:Bool}:Bel' (p.fBits.toNat+1) (ext' p b) q↔p.fBits.toNat<q.fBits.toNat/\(∀i,i<p.fBits.toNat->bitN q.fAddr i=bitN p.fAddr i)/\bitN q.fAddr p.fBits.toNat=b:=by
 unfold Bel' ext';constructor
 .rintro ⟨f,d⟩;refine⟨by omega,fun i e=>?_,?_⟩
  .have:=d i (by omega);rwa [if_pos e]at this
  .have:=d p.fBits.toNat (by omega);rwa [iNa]at this
 .rintro ⟨f,d,g⟩;refine⟨by omega,fun i e=>?_⟩;by_cases h:i<p.fBits.toNat
  .rw[if_pos h];exact d i h
  .rw[if_neg h,show i=p.fBits.toNat by omega];exact g
def Zpk(v:Bool):Zap->Nat->(Nat->Bool)->Prop | .nil,_,_=>True | .mk h has k0 k1,n,f=>RN h.fNet/\h.fNet.fAddr.fV6=v/\Bel' n f h.fNet/\Zpk v k0 (h.fNet.fBits.toNat+1) (ext' h.fNet false)/\Zpk v k1 (h.fNet.fBits.toNat+1) (ext' h.fNet true)
def ZaJ:Zap->List Zat | .nil=>[] | .mk h has k0 k1=>(if has then[h]else[])++ZaJ k0++ZaJ k1
theorem ZbL{v:Bool}:∀{nd:Zap}{n:Nat}{f:Nat->Bool},Zpk v nd n f->∀x∈ZaJ nd,RN x.fNet/\x.fNet.fAddr.fV6=v/\Bel' n f x.fNet
 | .nil,_,_,_,x,hx=>by simp[ZaJ]at hx
 | .mk h has A B,n,f,o,x,hx=>by
  obtain⟨p,r,d,t,u⟩:=o
  have jm:∀b,Bel' (h.fNet.fBits.toNat+1) (ext' h.fNet b) x.fNet->Bel' n f x.fNet:=fun b hb=>by
   obtain⟨b1,b2,_⟩:=Zla.1 hb
   have:=d.1
   exact⟨by omega,fun i y=>by rw[b2 i (by omega)];exact d.2 i y⟩
  simp only[ZaJ,List.mem_append]at hx
  rcases hx with (hx|hx)|hx
  .split at hx
   .rw[List.mem_singleton]at hx;rw[hx];exact⟨p,r,d⟩
   .simp at hx
  .obtain⟨e,g,j⟩:=ZbL t x hx
   exact⟨e,g,jm _ j⟩
  .obtain⟨e,g,j⟩:=ZbL u x hx
   exact⟨e,g,jm _ j⟩
theorem Zpk.rebase{v:Bool}{nd:Zap}{n m:Nat}{f g:Nat->Bool}(h:Zpk v nd n f)(hb:∀x has b d,nd=.mk x has b d->Bel' m g x.fNet):Zpk v nd m g:=by
 cases nd with
 |nil=>trivial
 |mk x has b d=>exact⟨h.1,h.2.1,hb x has b d rfl,h.2.2.2⟩
def ZmI(l:List Zat)(n:Zae):Int×Bool:=match l.find? (fun x=>decide (x.fNet=n))with
 |some x=>(x.fV,true)
 |none=>(0,false)
theorem Zms{l:List Zat}{n:Zae}(h:∀x∈l,x.fNet≠n):l.find? (fun x=>decide (x.fNet=n))=none:=by
 rw[List.find?_eq_none];intro x hx;simpa using h x hx
theorem ZGQ{v:Bool}{n:Zae}(i:RN n)(t:n.fAddr.fV6=v):∀fu (nd:Zap) (m:Nat) (f:Nat->Bool),Zpk v nd m f->n.fBits.toNat+1<fu+m ->
  Zdi fu nd n=some (ZmI (ZaJ nd) n)\/(n.fBits.toNat<m/\fu=0):=by
 intro fu;induction fu with
 |zero=>intro nd m f _ h;exact .inr ⟨by omega,rfl⟩
 |succ fu ih=>
  intro nd m f u C;refine .inl ?_;cases nd with
  |nil=>rfl
  |mk h has b d=>
   obtain⟨y,A,B,j,o⟩:=u;have D:wid h.fNet.fAddr=wid n.fAddr:=by unfold wid;rw[A,t]
   have b0:=fun x hx=>Zla.1 (ZbL j x hx).2.2;have b1:=fun x hx=>Zla.1 (ZbL o x hx).2.2;have hnn:=y.nn;have hnn':=i.nn;simp only[Zdi,Zad];by_cases hlt:h.fNet.fBits<n.fBits
   .rw[if_pos hlt];have p:=Zyk i h.fNet.fBits.toNat (by have:=i.le;omega);rw[Int.toNat_of_nonneg hnn]at p;rw[p];have r:∀x∈(if has then[h]else[]),x.fNet≠n:=fun x hx e=>by
     split at hx
     .rw[List.mem_singleton]at hx;subst hx;rw[e]at hlt;omega
     .simp at hx
    have gm:=B.1;cases hb:bitN n.fAddr h.fNet.fBits.toNat with
    |false=>
     simp only[Bool.false_eq_true,if_false,Option.bind_some];rw[Zaj (by omega)];have g:ZmI (ZaJ (.mk h has b d)) n=ZmI (ZaJ b) n:=by
      unfold ZmI;simp only[ZaJ];rw[List.find?_append,List.find?_append,Zms r,Zms (l:=ZaJ d) fun x hx e=>by have:=(b1 x hx).2.2;rw[e,hb]at this;cases this];simp
     rw[g];rcases ih b _ _ j (by omega)with h|h
     .exact h
     .omega
    |true=>
     simp only[if_true,Option.bind_some];rw[Zaj (by omega)];have g:ZmI (ZaJ (.mk h has b d)) n=ZmI (ZaJ d) n:=by
      unfold ZmI;simp only[ZaJ];rw[List.find?_append,List.find?_append,Zms r,Zms (l:=ZaJ b) fun x hx e=>by have:=(b0 x hx).2.2;rw[e,hb]at this;cases this];simp
     rw[g];rcases ih d _ _ o (by omega)with h|h
     .exact h
     .omega
   .rw[if_neg hlt];have g:ZmI (ZaJ (.mk h has b d)) n=ZmI (if has then[h]else[]) n:=by
     unfold ZmI;simp only[ZaJ];rw[List.find?_append,List.find?_append,Zms (l:=ZaJ b) fun x hx e=>by have:=(b0 x hx).1;rw[e]at this;omega,Zms (l:=ZaJ d) fun x hx e=>by have:=(b1 x hx).1;rw[e]at this;omega];simp
    rw[g];cases has with
    |false=>rfl
    |true=>
     by_cases e:h.fNet=n
     .simp[ZmI,e]
     .simp[ZmI,e]
theorem ZAs{v:Bool}{hit:Zat}(b:RN hit.fNet)(n:hit.fNet.fAddr.fV6=v):∀fu (nd:Zap) (m:Nat) (f:Nat->Bool),Zpk v nd m f->Bel' m f hit.fNet->hit.fNet.fBits.toNat+1<fu+m ->
  ∃ko,ZgD fu nd hit=some ko/\Zpk v ko m f/\∀x,x∈ZaJ ko↔x=hit\/(x∈ZaJ nd/\x.fNet≠hit.fNet):=by
 intro fu;induction fu with
 |zero=>intro nd m f _ hb h;have:=hb.1;omega
 |succ fu ih=>
  intro nd m f J bB W;cases nd with
  |nil=>exact⟨_,rfl,⟨b,n,bB,trivial,trivial⟩,fun x=>by simp[ZaJ]⟩
  |mk h has d g=>
   have jX:=J;obtain⟨o,r,y,C,D⟩:=J;have hwd:wid h.fNet.fAddr=wid hit.fNet.fAddr:=by unfold wid;rw[r,n]
   have b0:=fun x hx=>Zla.1 (ZbL C x hx).2.2;have b1:=fun x hx=>Zla.1 (ZbL D x hx).2.2;have kp:∀x∈ZaJ (.mk h has d g),h.fNet.fBits.toNat<=x.fNet.fBits.toNat/\∀i,i<h.fNet.fBits.toNat->bitN x.fNet.fAddr i=bitN h.fNet.fAddr i:=fun x hx=>by
    simp only[ZaJ,List.mem_append]at hx;rcases hx with (hx|hx)|hx
    .split at hx
     .rw[List.mem_singleton]at hx;rw[hx];exact⟨Nat.le_refl _,fun _ _=>rfl⟩
     .simp at hx
    .obtain⟨x1,x2,_⟩:=b0 x hx;exact⟨by omega,x2⟩
    .obtain⟨x1,x2,_⟩:=b1 x hx;exact⟨by omega,x2⟩
   have n1:=o.nn;have n2:=b.nn;have l1:=o.le;have l2:=b.le;obtain⟨k,O,Z,c3,E,U⟩:=ZMt o b (r.trans n.symm);simp only[ZgD,O,Option.bind_some,Zad];by_cases H:k<h.fNet.fBits.toNat
   .rw[iNb];have hbit:=Zyk o k (by omega);by_cases jn:k=hit.fNet.fBits.toNat
    .-- the new one stands above
     have e:((k:Int)==hit.fNet.fBits)=true:=by rw[beq_iff_eq];omega
     have hne:∀x∈ZaJ (.mk h has d g),x.fNet≠hit.fNet:=fun x hx e=>by have:=(kp x hx).1;rw[e]at this;omega
     have p:Bel' (hit.fNet.fBits.toNat+1) (ext' hit.fNet (bitN h.fNet.fAddr k)) h.fNet:=Zla.2 ⟨by omega,fun i j=>E i (by omega),by rw[<-jn]⟩;have F:Zpk v (.mk h has d g) (hit.fNet.fBits.toNat+1) (ext' hit.fNet (bitN h.fNet.fAddr k)):=jX.rebase fun x _ _ _ e=>by cases e;exact p
     simp only[Zlm,e,cond_true,hbit,Option.bind_some];cases hb:bitN h.fNet.fAddr k with
     |false=>
      rw[hb]at F;simp only[Bool.false_eq_true,if_false];rw[Zaj (by omega)];refine⟨_,rfl,⟨b,n,bB,F,trivial⟩,fun x=>?_⟩;have:ZaJ (.mk hit true (.mk h has d g) .nil)=[hit]++ZaJ (.mk h has d g):=by simp[ZaJ]
      rw[this,List.mem_append,List.mem_singleton];exact or_congr Iff.rfl ⟨fun hx=>⟨hx,hne x hx⟩,fun hx=>hx.1⟩
     |true=>
      rw[hb]at F;simp only[if_true];rw[Zaj (by omega)];refine⟨_,rfl,⟨b,n,bB,trivial,F⟩,fun x=>?_⟩;have:ZaJ (.mk hit true .nil (.mk h has d g))=[hit]++ZaJ (.mk h has d g):=by simp[ZaJ]
      rw[this,List.mem_append,List.mem_singleton];exact or_congr Iff.rfl ⟨fun hx=>⟨hx,hne x hx⟩,fun hx=>hx.1⟩
    .-- they part
     have hk2:k<hit.fNet.fBits.toNat:=by omega
     have e:((k:Int)==hit.fNet.fBits)=false:=by rw[beq_eq_false_iff_ne];omega
     have dH:=U H hk2;have hne:∀x∈ZaJ (.mk h has d g),x.fNet≠hit.fNet:=fun x hx e=>dH (by rw[<-(kp x hx).2 k H,e]);obtain⟨L,r2⟩:=ZQo b.ok b.right k (by omega);have hmk:ZgO hit.fNet.fAddr (k:Int)=some (⟨ZkR hit.fNet.fAddr k,(k:Int)⟩,true):=by
      rw[ZEB _ b.ok,if_pos ⟨b.right,by omega,by omega⟩,Int.toNat_natCast]
     have jo:(⟨ZkR hit.fNet.fAddr k,(k:Int)⟩ : Zae).fBits.toNat=k:=Int.toNat_natCast k;have bF:∀i,i<k->bitN (ZkR hit.fNet.fAddr k) i=bitN hit.fNet.fAddr i:=fun i j=>by
      rw[Zmb b.fits k i (by omega) (by omega),decide_eq_true j];rfl
     have V:m<=k:=by
      rcases Nat.lt_or_ge k m with hh|hh
      .exact absurd ((y.2 k hh).trans (bB.2 k hh).symm) dH
      .exact hh
     have M:Bel' m f ⟨ZkR hit.fNet.fAddr k,(k:Int)⟩:=⟨by rw[jo];exact V,fun i j=>by rw[bF i (by omega)];exact bB.2 i j⟩;have G:Zpk v (.mk h has d g) ((⟨ZkR hit.fNet.fAddr k,(k:Int)⟩ : Zae).fBits.toNat+1) (ext' ⟨ZkR hit.fNet.fAddr k,(k:Int)⟩ (bitN h.fNet.fAddr k)):=jX.rebase fun x _ _ _ e=>by
      cases e;exact Zla.2 ⟨by rw[jo];exact H,fun i j=>by rw[jo]at j;rw[bF i j];exact E i j,by rw[jo]⟩
     have hL:Zpk v (.mk hit true .nil .nil) ((⟨ZkR hit.fNet.fAddr k,(k:Int)⟩ : Zae).fBits.toNat+1) (ext' ⟨ZkR hit.fNet.fAddr k,(k:Int)⟩ (bitN hit.fNet.fAddr k)):=
      ⟨b,n,Zla.2 ⟨by rw[jo];exact hk2,fun i j=>by rw[jo]at j;rw[bF i j],by rw[jo]⟩,trivial,trivial⟩
     have bG:=Zyk b k (by omega);simp only[Zlm,e,cond_false,hmk,hbit,bG,Option.bind_some];cases hb:bitN h.fNet.fAddr k with
     |false=>
      have aQ:bitN hit.fNet.fAddr k=true:=by
       cases I:bitN hit.fNet.fAddr k
       .rw[hb,I]at dH;exact absurd rfl dH
       .rfl
      rw[hb]at G;rw[aQ]at hL;simp only[aQ,Bool.false_eq_true,if_false,if_true];rw[Zaj (by omega)];have t:∀(A B:Option Zap),ix2 0 A B=A:=fun _ _=>rfl;have u:∀(A B:Option Zap),ix2 1 A B=B:=fun _ _=>rfl;rw[t,Zaj (by omega),u];refine⟨_,rfl,⟨L,by simp only[ZjV];exact n,M,G,hL⟩,fun x=>?_⟩;have:ZaJ (.mk ⟨⟨ZkR hit.fNet.fAddr k,(k:Int)⟩,0⟩ false (.mk h has d g) (.mk hit true .nil .nil))=ZaJ (.mk h has d g)++[hit]:=by simp[ZaJ]
      rw[this,List.mem_append,List.mem_singleton,or_comm];exact or_congr Iff.rfl ⟨fun hx=>⟨hx,hne x hx⟩,fun hx=>hx.1⟩
     |true=>
      have aQ:bitN hit.fNet.fAddr k=false:=by
       cases I:bitN hit.fNet.fAddr k
       .rfl
       .rw[hb,I]at dH;exact absurd rfl dH
      rw[hb]at G;rw[aQ]at hL;simp only[aQ,Bool.false_eq_true,if_false,if_true];rw[Zaj (by omega)];have t:∀(A B:Option Zap),ix2 0 A B=A:=fun _ _=>rfl;have u:∀(A B:Option Zap),ix2 1 A B=B:=fun _ _=>rfl;rw[u,Zaj (by omega),t];refine⟨_,rfl,⟨L,by simp only[ZjV];exact n,M,hL,G⟩,fun x=>?_⟩;have:ZaJ (.mk ⟨⟨ZkR hit.fNet.fAddr k,(k:Int)⟩,0⟩ false (.mk hit true .nil .nil) (.mk h has d g))=[hit]++ZaJ (.mk h has d g):=by simp[ZaJ]
      rw[this,List.mem_append,List.mem_singleton];exact or_congr Iff.rfl ⟨fun hx=>⟨hx,hne x hx⟩,fun hx=>hx.1⟩
   .rw[iNa];have jn:k=h.fNet.fBits.toNat:=by omega
    by_cases hke:k=hit.fNet.fBits.toNat
    .-- it is there
     have e:((k:Int)==hit.fNet.fBits)=true:=by rw[beq_iff_eq];omega
     have ki:h.fNet=hit.fNet:=ZRB o b (r.trans n.symm) (by
      unfold bs;rw[<-jn,<-hke];apply List.map_congr_left;intro i j;exact E i (by simpa using j))
     rw[e,cond_true];refine⟨_,rfl,⟨b,n,bB,by rw[<-ki];exact C,by rw[<-ki];exact D⟩,fun x=>?_⟩;have n0:x∈ZaJ d->x.fNet≠hit.fNet:=fun hx e=>by have:=(b0 x hx).1;rw[e]at this;omega
     have n1:x∈ZaJ g->x.fNet≠hit.fNet:=fun hx e=>by have:=(b1 x hx).1;rw[e]at this;omega
     simp only[ZaJ,List.mem_append,if_true,List.mem_singleton];constructor
     .rintro ((hx|hx)|hx)
      .exact .inl hx
      .exact .inr ⟨.inl (.inr hx),n0 hx⟩
      .exact .inr ⟨.inr hx,n1 hx⟩
     .rintro (hx|⟨(hx|hx)|hx,hne⟩)
      .exact .inl (.inl hx)
      .split at hx
       .rw[List.mem_singleton]at hx;rw[hx]at hne;exact absurd ki hne
       .simp at hx
      .exact .inl (.inr hx)
      .exact .inr hx
    .have e:((k:Int)==hit.fNet.fBits)=false:=by rw[beq_eq_false_iff_ne];omega
     have hbit:=Zyk b k (by omega);have p:Bel' (h.fNet.fBits.toNat+1) (ext' h.fNet (bitN hit.fNet.fAddr k)) hit.fNet:=Zla.2 ⟨by omega,fun i j=>(E i (by omega)).symm,by rw[<-jn]⟩;have nh:∀x∈(if has then[h]else[]),x.fNet≠hit.fNet:=fun x hx e=>by
      split at hx
      .rw[List.mem_singleton]at hx;rw[hx]at e;rw[e]at jn;omega
      .simp at hx
     have gm:=y.1;simp only[e,cond_false,hbit,Option.bind_some];cases hb:bitN hit.fNet.fAddr k with
     |false=>
      rw[hb]at p;simp only[Bool.false_eq_true,if_false];rw[Zaj (by omega)];obtain⟨ko,w1,w2,w3⟩:=ih d _ _ C p (by omega);have t:∀(A B:Option Zap),ix2 0 A B=A:=fun _ _=>rfl;rw[t,w1];refine⟨_,rfl,⟨o,r,y,w2,D⟩,fun x=>?_⟩;have n1:x∈ZaJ g->x.fNet≠hit.fNet:=fun hx e=>by have:=(b1 x hx).2.2;rw[e,<-jn,hb]at this;cases this
      simp only[ZaJ,List.mem_append,w3];constructor
      .rintro ((hx|hx|hx)|hx)
       .exact .inr ⟨.inl (.inl hx),nh x hx⟩
       .exact .inl hx
       .exact .inr ⟨.inl (.inr hx.1),hx.2⟩
       .exact .inr ⟨.inr hx,n1 hx⟩
      .rintro (hx|⟨(hx|hx)|hx,hne⟩)
       .exact .inl (.inr (.inl hx))
       .exact .inl (.inl hx)
       .exact .inl (.inr (.inr ⟨hx,hne⟩))
       .exact .inr hx
     |true=>
      rw[hb]at p;simp only[if_true];rw[Zaj (by omega)];obtain⟨ko,w1,w2,w3⟩:=ih g _ _ D p (by omega);have u:∀(A B:Option Zap),ix2 1 A B=B:=fun _ _=>rfl;rw[u,w1];refine⟨_,rfl,⟨o,r,y,C,w2⟩,fun x=>?_⟩;have n1:x∈ZaJ d->x.fNet≠hit.fNet:=fun hx e=>by have:=(b0 x hx).2.2;rw[e,<-jn,hb]at this;cases this
      simp only[ZaJ,List.mem_append,w3];constructor
      .rintro ((hx|hx)|hx|hx)
       .exact .inr ⟨.inl (.inl hx),nh x hx⟩
       .exact .inr ⟨.inl (.inr hx),n1 hx⟩
       .exact .inl hx
       .exact .inr ⟨.inr hx.1,hx.2⟩
      .rintro (hx|⟨(hx|hx)|hx,hne⟩)
       .exact .inr (.inl hx)
       .exact .inl (.inl hx)
       .exact .inl (.inr hx)
       .exact .inr (.inr ⟨hx,hne⟩)
def cov(a:Zaf)(x:Zat):Bool:=decide (∀i,i<x.fNet.fBits.toNat->bitN a i=bitN x.fNet.fAddr i)
theorem Znt{α:Type}{p:α->Bool}{l:List α}(h:∀x∈l,p x=false):l.filter p=[]:=by
 rw[List.filter_eq_nil_iff];intro x hx;rw[h x hx];simp
theorem ZxU{v:Bool}{a:Zaf}(y:a.ok)(C:ZcN a=true)(t:a.fV6=v):∀fu (nd:Zap) (m:Nat) (f:Nat->Bool) (w:List Zat),Zpk v nd m f->(∀i,i<m->i<wid a->bitN a i=f i)->m<=wid a+1->wid a+1<fu+m->w.length<=m ->
  Zbx fu nd w a=some (w++(ZaJ nd).filter (cov a)):=by
 have hwa:wid a<=128:=by unfold wid;split<;>omega
 intro fu;induction fu with
 |zero=>intro nd m f w _ _ _ h;omega
 |succ fu ih=>
  intro nd m f w F H hmw I hl;cases nd with
  |nil=>simp[Zbx,ZaJ]
  |mk h has n o=>
   obtain⟨u,D,G,p,r⟩:=F;have hwd:wid h.fNet.fAddr=wid a:=by unfold wid;rw[D,t]
   have b0:=fun x hx=>Zla.1 (ZbL p x hx).2.2;have b1:=fun x hx=>Zla.1 (ZbL r x hx).2.2;have w0:=fun x hx=>(ZbL p x hx);have w1:=fun x hx=>(ZbL r x hx);have n1:=u.nn;have l1:=u.le;have gm:=G.1;simp only[Zbx,ZPR _ a u y,C,decide_eq_true (D.trans t.symm),Bool.true_and,Option.bind_some,Zad];by_cases g:∀i,i<h.fNet.fBits.toNat->bitN a i=bitN h.fNet.fAddr i
   .rw[if_pos g];have mI:cov a h=true:=by unfold cov;rw[decide_eq_true_eq];exact g
    -- what lies below
    have kq:∀w':List Zat,w'.length<=h.fNet.fBits.toNat+1->((Zji a h.fNet.fBits).bind fun x6=>need (0<=x6/\x6<((2:Nat):Int))<|ix2 x6 (Zbx fu n w' a) (Zbx fu o w' a))=some (w'++((ZaJ n).filter (cov a)++(ZaJ o).filter (cov a))):=by
     intro w' hP;by_cases hb:h.fNet.fBits.toNat<wid a
     .have E:=ZMU (ZpQ y C) h.fNet.fBits.toNat hb;rw[Int.toNat_of_nonneg n1]at E;rw[E];cases hbit:bitN a h.fNet.fBits.toNat with
      |false=>
       simp only[Bool.false_eq_true,if_false,Option.bind_some];rw[Zaj (by omega),show ∀(A B:Option (List Zat)),ix2 0 A B=A from fun _ _=>rfl];rw[ih n _ _ w' p (fun i j c4=>by
        unfold ext';by_cases d:i<h.fNet.fBits.toNat
        .rw[if_pos d];exact g i d
        .rw[if_neg d,show i=h.fNet.fBits.toNat by omega];exact hbit) (by omega) (by omega) hP]
       rw[Znt (l:=ZaJ o) fun x hx=>?_]
       .simp
       .unfold cov;rw[decide_eq_false_iff_not];intro e;obtain⟨x1,x2,x3⟩:=b1 x hx;have:=e _ x1;rw[hbit,x3]at this;cases this
      |true=>
       simp only[if_true,Option.bind_some];rw[Zaj (by omega),show ∀(A B:Option (List Zat)),ix2 1 A B=B from fun _ _=>rfl];rw[ih o _ _ w' r (fun i j c4=>by
        unfold ext';by_cases d:i<h.fNet.fBits.toNat
        .rw[if_pos d];exact g i d
        .rw[if_neg d,show i=h.fNet.fBits.toNat by omega];exact hbit) (by omega) (by omega) hP]
       rw[Znt (l:=ZaJ n) fun x hx=>?_]
       .simp
       .unfold cov;rw[decide_eq_false_iff_not];intro e;obtain⟨x1,x2,x3⟩:=b0 x hx;have:=e _ x1;rw[hbit,x3]at this;cases this
     .-- a whole address: nothing lies below
      have bu:∀(jm:Zap)(b:Bool),Zpk v jm (h.fNet.fBits.toNat+1) (ext' h.fNet b)->jm=.nil:=fun jm b eE=>by
       cases jm with
       |nil=>rfl
       |mk x J L M=>
        have O:=eE.2.2.1.1;have U:=eE.1.le;have d:wid x.fNet.fAddr=wid a:=by unfold wid;rw[eE.2.1,t]
        omega
      rw[bu n _ p,bu o _ r];have kr:Zji a h.fNet.fBits=some 0:=by
       simp only[Zji,ZFQ,Option.bind_some,Zad];rw[iNa,iNb]
      rw[kr];simp only[Option.bind_some];rw[Zaj (by omega),show ∀(A B:Option (List Zat)),ix2 0 A B=A from fun _ _=>rfl];have:=ih .nil (h.fNet.fBits.toNat+1) (ext' h.fNet false) w' trivial (fun i j c4=>by
        unfold ext';rw[iNb];exact g i (by omega)) (by omega) (by omega) hP
      rw[this];simp[ZaJ]
    cases has with
    |true=>
     simp only[cond_true,ZaJ,if_true];rw[Zaj ⟨by simp;omega,by unfold maxLen;simp;omega⟩,kq _ (by simp;omega)];simp[mI]
    |false=>
     simp only[cond_false,ZaJ,Bool.false_eq_true,if_false];rw[kq _ (by omega)];simp
   .rw[if_neg g];rw[Znt]
    .simp
    .intro x hx;unfold cov;rw[decide_eq_false_iff_not];intro e;apply g;intro i j;simp only[ZaJ,List.mem_append]at hx;rcases hx with (hx|hx)|hx
     .split at hx
      .rw[List.mem_singleton]at hx;rw[hx]at e;exact e i j
      .simp at hx
     .obtain⟨x1,x2,_⟩:=b0 x hx;rw[e i (by omega)];exact x2 i j
     .obtain⟨x1,x2,_⟩:=b1 x hx;rw[e i (by omega)];exact x2 i j
theorem ZEm{a:Zaf}(h:Fits a)(i:Nat)(b:i<wid a):Zbz a (i:Int)=some (if bitN a i then 1 else 0):=by
 have j:=h.hi0;have n:=h.hi1;have o:=h.lo0;have r:=h.lo1;obtain⟨v,c4,lo⟩:=a;obtain⟨p,d⟩:=Zks h.hi0;obtain⟨q,f⟩:=Zks h.lo0;simp only at d f j n o r;subst d f;have g:∀k:Nat,k<64->(IntKind.u64.wrap ((k:Nat):Int))=((k:Nat):Int):=fun k t=>ZhT (by omega) (by omega);cases v with
 |false=>
  have b:i<32:=b;have e:Zay (31:Int) (i:Int)=((31-i:Nat):Int):=by rw[Zbi (by omega) (by omega)];omega
  simp only[Zbz,ZbV,ZcQ,Zad,Option.bind_some,cond_false,Bool.not_false,cond_true,e,g (31-i) (by omega)];rw[iNa,iNa,Zaj (by omega),ZtV q _ (by omega) (by omega)];rfl
 |true=>
  have b:i<128:=b;have hb:bitN ⟨true,(p:Int),(q:Int)⟩ i=if 127-i<64 then q.testBit (127-i)else p.testBit (127-i-64):=by
   unfold bitN num wid;simp only[if_true,Int.toNat_natCast];rw[Zps (by omega)]
  rw[hb];have et:Int.tmod (i:Int) 64=((i % 64:Nat):Int):=by rw[Int.tmod_eq_emod_of_nonneg (by omega)];rfl
  have u:i % 64<64:=Nat.mod_lt _ (by omega);have e:Zay (63:Int) ((i % 64:Nat):Int)=((63-i % 64:Nat):Int):=by rw[Zbi (by omega) (by omega)];omega
  simp only[Zbz,ZbV,ZcQ,Zad,Option.bind_some,cond_false,Bool.not_true,cond_true,et,e,g (63-i % 64) (by omega)];rw[iNa,iNa];by_cases h64:i<64
  .rw[iNb,Zaj (by omega),ZtV p _ (by omega) (by omega),if_neg (show ¬127-i<64 by omega),show 63-i % 64=127-i-64 by omega]
  .rw[iNa,Zaj (by omega),ZtV q _ (by omega) (by omega),if_pos (show 127-i<64 by omega),show 63-i % 64=127-i by omega]
theorem Zuz(a:Zaf):ZbV a=some (wid a:Int):=by
 unfold ZbV wid;cases a.fV6<;>rfl
theorem ZtX(a:Zaf):wid a<=128:=by unfold wid;split<;>omega
theorem ZRV{i:Nat}(h:i<=1000000):Zam (i:Int) 1=((i+1:Nat):Int):=by rw[Zbb (by omega) (by omega)];omega
theorem ZKi{p:Zae}(e:Fits p.fAddr):∀fu (i:Nat),i<=wid p.fAddr->wid p.fAddr-i<fu->∃r,Zew fu (i:Int) p=some r/\(r=true↔∀j,i<=j->j<wid p.fAddr->bitN p.fAddr j=false):=by
 have t:=ZtX p.fAddr;intro fu;induction fu with
 |zero=>intro _ _ h;omega
 |succ fu ih=>
  intro i u hfu;simp only[Zew,Zuz,Option.bind_some,Zad];by_cases h:i<wid p.fAddr
  .rw[iNb,ZEm e i h,ZRV (by omega)];simp only[Option.bind_some];obtain⟨r,f,g⟩:=ih (i+1) (by omega) (by omega);cases hb:bitN p.fAddr i with
   |true=>
    simp only[if_true,beq_self_eq_true,cond_true];refine⟨false,rfl,?_⟩;simp only[Bool.false_eq_true,false_iff];intro n;have:=n i (Nat.le_refl _) h;rw[hb]at this;cases this
   |false=>
    simp only[Bool.false_eq_true,if_false];rw[show ((0:Int)==1)=false from rfl,cond_false];refine⟨r,f,g.trans ⟨fun q j d b=>?_,fun q j d b=>q j (by omega) b⟩⟩;by_cases o:j=i
    .subst o;exact hb
    .exact q j (by omega) b
  .rw[iNa];exact⟨true,rfl,by simp;intro j d b;omega⟩
theorem Zts(p:Zae)(h:p.fAddr.ok):ZeG p=some (ZhQ p):=by
 simp only[ZeG,Zkq p.fAddr h,Zuz,Option.bind_some,Zad];unfold ZhQ;cases g:ZcN p.fAddr
 .simp
 .have b:=ZpQ h g;simp only[Bool.not_true,cond_false,Bool.true_and];by_cases h0:p.fBits<0
  .rw[if_pos h0,show decide (0<=p.fBits)=false by rw[decide_eq_false_iff_not];omega];simp
  .rw[if_neg h0];by_cases e:p.fBits>(wid p.fAddr:Int)
   .rw[if_pos e,show decide (p.fBits<=(wid p.fAddr:Int))=false by rw[decide_eq_false_iff_not];omega];simp
   .rw[if_neg e,show decide (0<=p.fBits)=true by rw[decide_eq_true_eq];omega,show decide (p.fBits<=(wid p.fAddr:Int))=true by rw[decide_eq_true_eq];omega];have t:=ZtX p.fAddr;obtain⟨r,f,n⟩:=ZKi b 1000000 p.fBits.toNat (by omega) (by omega);rw[Int.toNat_of_nonneg (by omega)]at f;rw[f,Option.some.injEq,Bool.true_and,Bool.true_and,Bool.eq_iff_iff,n,decide_eq_true_eq];constructor
    .intro q;refine Ztk (Zld b _) b (ZjV _ _) fun i d=>?_;have d:i<wid p.fAddr:=by unfold wid at d ⊢;rwa [ZjV]at d
     rw[Zmb b p.fBits.toNat i (by omega) d];by_cases hb:i<p.fBits.toNat
     .rw[decide_eq_true hb];rfl
     .rw[decide_eq_false hb,q i (by omega) d];rfl
    .intro q j u o;have:=Zmb b p.fBits.toNat j (by omega) o;rw[q,decide_eq_false (by omega)]at this;exact this
def hasS(p:Zae)(a:Zaf):Bool:=ZhQ p&&(ZcN a&&decide (p.fAddr.fV6=a.fV6)&&decide (∀i,i<p.fBits.toNat->bitN a i=bitN p.fAddr i))
theorem ZAW{p:Zae}{a:Zaf}(d:RN p)(f:Fits a)(g:p.fAddr.fV6=a.fV6):∀fu (i:Nat),i<=p.fBits.toNat->p.fBits.toNat-i<fu->∃r,Zem fu (i:Int) p a=some r/\(r=true↔∀j,i<=j->j<p.fBits.toNat->bitN a j=bitN p.fAddr j):=by
 have v:=ZtX p.fAddr;have hwa:wid p.fAddr=wid a:=by unfold wid;rw[g]
 have n1:=d.nn;have l1:=d.le;intro fu;induction fu with
 |zero=>intro _ _ h;omega
 |succ fu ih=>
  intro i y hfu;simp only[Zem,Zad];by_cases h:i<p.fBits.toNat
  .rw[iNb,ZEm d.fits i (by omega),ZEm f i (by omega),ZRV (by omega)];simp only[Option.bind_some];obtain⟨r,n,o⟩:=ih (i+1) (by omega) (by omega);by_cases hb:bitN a i=bitN p.fAddr i
   .rw[hb];simp only[bne_self_eq_false,cond_false];refine⟨r,n,o.trans ⟨fun q j e b=>?_,fun q j e b=>q j (by omega) b⟩⟩;by_cases t:j=i
    .subst t;exact hb
    .exact q j (by omega) b
   .have hne:((if bitN p.fAddr i=true then(1:Int)else 0) != if bitN a i=true then 1 else 0)=true:=by
     revert hb
     cases bitN a i<;>cases bitN p.fAddr i<;>simp
    rw[hne,cond_true];refine⟨false,rfl,?_⟩;simp only[Bool.false_eq_true,false_iff];intro u;exact hb (u i (Nat.le_refl _) h)
  .rw[iNa];exact⟨true,rfl,by simp;intro j e b;omega⟩
theorem ZGl(p:Zae)(a:Zaf)(f:p.fAddr.ok)(g:a.ok):ZhE p a=some (hasS p a):=by
 simp only[ZhE,Zts p f,Zkq a g,Option.bind_some];unfold hasS;cases h:ZhQ p
 .rfl
 .have fe:=(Zvh f).1 h;simp only[Bool.not_true,cond_false,Bool.true_and];cases i:ZcN a
  .rfl
  .simp only[Bool.not_true,cond_false,Bool.true_and];by_cases b:p.fAddr.fV6=a.fV6
   .rw[show (!(p.fAddr.fV6==a.fV6))=false by simp[b],cond_false,decide_eq_true b,Bool.true_and];have o:=ZtX p.fAddr;have n1:=fe.nn;have l1:=fe.le;obtain⟨r,d,n⟩:=ZAW fe (ZpQ g i) b 1000000 0 (by omega) (by omega);have d:Zem 1000000 0 p a=some r:=d;rw[d,Option.some.injEq,Bool.eq_iff_iff,n,decide_eq_true_eq];exact⟨fun q j e=>q j (by omega) e,fun q j _ e=>q j e⟩
   .rw[show (!(p.fAddr.fV6==a.fV6))=true by simp[b],cond_true,decide_eq_false b];rfl
def f0:Nat->Bool:=fun _=>false
def GT:ZaF->Prop | .nil=>False | .mk r4 r6 _=>Zpk false r4 0 f0/\Zpk true r6 0 f0
def ZjG:ZaF->List Zat | .nil=>[] | .mk r4 r6 _=>ZaJ r4++ZaJ r6
theorem bel0(p:Zae):Bel' 0 f0 p:=⟨Nat.zero_le _,fun i b=>by omega⟩
theorem ZBr{t:ZaF}(h:GT t):∀x∈ZjG t,RN x.fNet:=by
 cases t with
 |nil=>exact h.elim
 |mk b d n=>
  intro x hx;simp only[ZjG,List.mem_append]at hx;rcases hx with hx|hx
  .exact(ZbL h.1 x hx).1
  .exact(ZbL h.2 x hx).1
theorem ZLM(a:Zaf):ZiC a=some (if a.fV6 then 1 else 0):=by
 unfold ZiC;cases a.fV6<;>rfl
theorem ZFZ{t:ZaF}(h:GT t)(n:Zae)(d:n.fAddr.ok):Zih t n=some (if ZhQ n then ZmI (ZjG t) n else(0,false)):=by
 cases t with
 |nil=>exact h.elim
 |mk f g k=>
  simp only[Zih,ZlT n d,Option.bind_some,ZLM];cases i:ZhQ n
  .rfl
  .have fe:=(Zvh d).1 i;have hb:n.fBits.toNat<=128:=by have:=fe.le;have:=fe.nn;have:=ZtX n.fAddr;omega
   simp only[Bool.not_true,cond_false,if_true];cases b:n.fAddr.fV6 with
   |false=>
    simp only[Bool.false_eq_true,if_false];rw[Zaj (by omega),show ∀(A B:Option (Int×Bool)),ix2 0 A B=A from fun _ _=>rfl];rcases ZGQ fe b 1000000 f 0 f0 h.1 (by omega)with e|e
    .rw[e];unfold ZmI;simp only[ZjG];rw[List.find?_append,Zms (l:=ZaJ g) fun x hx e=>by have:=(ZbL h.2 x hx).2.1;rw[e,b]at this;cases this];simp
    .omega
   |true=>
    simp only[if_true];rw[Zaj (by omega),show ∀(A B:Option (Int×Bool)),ix2 1 A B=B from fun _ _=>rfl];rcases ZGQ fe b 1000000 g 0 f0 h.2 (by omega)with e|e
    .rw[e];unfold ZmI;simp only[ZjG];rw[List.find?_append,Zms (l:=ZaJ f) fun x hx e=>by have:=(ZbL h.1 x hx).2.1;rw[e,b]at this;cases this];simp
    .omega
theorem ZJC{t:ZaF}(h:GT t)(n:Zae)(g:n.fAddr.ok)(val:Int)(i:ZhQ n=true):∃t',ZeI t n val=some t'/\GT t'/\∀x,x∈ZjG t'↔x=⟨n,val⟩\/(x∈ZjG t/\x.fNet≠n):=by
 cases t with
 |nil=>exact h.elim
 |mk b d k=>
  have fe:=(Zvh g).1 i;have hb:n.fBits.toNat<=128:=by have:=fe.le;have:=fe.nn;have:=ZtX n.fAddr;omega
  have j:=ZFZ h n g;simp only[ZeI,ZeW,ZlT n g,i,j,if_true,Option.bind_some,Bool.not_true,cond_false,ZLM];have ku:n.fAddr.fV6=false->∃r,ZgD 1000 b ⟨n,val⟩=some r/\Zpk false r 0 f0/\∀x,(x∈ZaJ r\/x∈ZaJ d)↔x=⟨n,val⟩\/((x∈ZaJ b\/x∈ZaJ d)/\x.fNet≠n):=fun f=>by
   obtain⟨r,w1,w2,w3⟩:=ZAs (hit:=⟨n,val⟩) fe f 1000 b 0 f0 h.1 (bel0 _) (by simp only;omega);refine⟨r,w1,w2,fun x=>?_⟩;rw[w3 x];have o:x∈ZaJ d->x.fNet≠n:=fun hx e=>by have:=(ZbL h.2 x hx).2.1;rw[e,f]at this;cases this
   constructor
   .rintro ((hx|hx)|hx)
    .exact .inl hx
    .exact .inr ⟨.inl hx.1,hx.2⟩
    .exact .inr ⟨.inr hx,o hx⟩
   .rintro (hx|⟨hx|hx,hne⟩)
    .exact .inl (.inl hx)
    .exact .inl (.inr ⟨hx,hne⟩)
    .exact .inr hx
  have kw:n.fAddr.fV6=true->∃r,ZgD 1000 d ⟨n,val⟩=some r/\Zpk true r 0 f0/\∀x,(x∈ZaJ b\/x∈ZaJ r)↔x=⟨n,val⟩\/((x∈ZaJ b\/x∈ZaJ d)/\x.fNet≠n):=fun f=>by
   obtain⟨r,w1,w2,w3⟩:=ZAs (hit:=⟨n,val⟩) fe f 1000 d 0 f0 h.2 (bel0 _) (by simp only;omega);refine⟨r,w1,w2,fun x=>?_⟩;rw[w3 x];have p:x∈ZaJ b->x.fNet≠n:=fun hx e=>by have:=(ZbL h.1 x hx).2.1;rw[e,f]at this;cases this
   constructor
   .rintro (hx|hx|hx)
    .exact .inr ⟨.inl hx,p hx⟩
    .exact .inl hx
    .exact .inr ⟨.inr hx.1,hx.2⟩
   .rintro (hx|⟨hx|hx,hne⟩)
    .exact .inr (.inl hx)
    .exact .inl hx
    .exact .inr (.inr ⟨hx,hne⟩)
  have u:∀(A B:Option ZaF),ix2 0 A B=A:=fun _ _=>rfl;have v:∀(A B:Option ZaF),ix2 1 A B=B:=fun _ _=>rfl;cases f:n.fAddr.fV6 with
  |false=>
   obtain⟨r,w1,w2,w3⟩:=ku f;cases(ZmI (ZjG (.mk b d k)) n).2 <;>
   .simp only[Bool.not_false,Bool.not_true,cond_true,cond_false,Bool.false_eq_true,if_false];rw[Zaj (by omega),u,w1];exact⟨_,rfl,⟨w2,h.2⟩,fun x=>by simp only[ZjG,List.mem_append];exact w3 x⟩
  |true=>
   obtain⟨r,w1,w2,w3⟩:=kw f;cases(ZmI (ZjG (.mk b d k)) n).2 <;>
   .simp only[Bool.not_false,Bool.not_true,cond_true,cond_false,if_true];rw[Zaj (by omega),v,w1];exact⟨_,rfl,⟨h.1,w2⟩,fun x=>by simp only[ZjG,List.mem_append];exact w3 x⟩
theorem Zpw{v:Bool}:∀{nd:Zap}{n:Nat}{f:Nat->Bool},Zpk v nd n f->(ZaJ nd).Pairwise fun x y=>x.fNet≠y.fNet
 | .nil,_,_,_=>List.Pairwise.nil
 | .mk h has r t,n,f,o=>by
  obtain⟨u,A,B,d,g⟩:=o
  have b0:=fun x hx=>Zla.1 (ZbL d x hx).2.2
  have b1:=fun x hx=>Zla.1 (ZbL g x hx).2.2
  have i:∀x∈(if has then[h]else[]),x.fNet=h.fNet:=fun x hx=>by
   split at hx
   .rw[List.mem_singleton]at hx;rw[hx]
   .simp at hx
  simp only[ZaJ]
  rw[List.pairwise_append,List.pairwise_append]
  refine⟨⟨?_,Zpw d,fun x hx y b e=>?_⟩,Zpw g,fun x hx y b e=>?_⟩
  .split
   .exact List.pairwise_singleton _ _
   .exact List.Pairwise.nil
  .have:=(b0 y b).1
   rw[<-e,i x hx]at this;omega
  .rcases List.mem_append.1 hx with hx|hx
   .have:=(b1 y b).1
    rw[<-e,i x hx]at this;omega
   .have j:=(b0 x hx).2.2
    have p:=(b1 y b).2.2
    rw[e,p]at j;cases j
theorem ZBs{t:ZaF}(h:GT t):(ZjG t).Pairwise fun x y=>x.fNet≠y.fNet:=by
 cases t with
 |nil=>exact h.elim
 |mk g i k=>
  simp only[ZjG];rw[List.pairwise_append];refine⟨Zpw h.1,Zpw h.2,fun x hx y d e=>?_⟩;have b:=(ZbL h.1 x hx).2.1;have f:=(ZbL h.2 y d).2.1;rw[e,f]at b;cases b
theorem ZLr{l:List Zat}{n:Zae}(h:(ZmI l n).2=true):∃x∈l,x.fNet=n/\x.fV=(ZmI l n).1:=by
 unfold ZmI at h ⊢;cases b:l.find? (fun x=>decide (x.fNet=n))with
 |none=>rw[b]at h;cases h
 |some x=>
  have:=List.find?_some b;exact⟨x,List.mem_of_find?_eq_some b,by simpa using this,rfl⟩
theorem ZOO{l:List Zat}{n:Zae}(h:(ZmI l n).2=false):∀x∈l,x.fNet≠n:=by
 unfold ZmI at h;cases b:l.find? (fun x=>decide (x.fNet=n))with
 |none=>rw[List.find?_eq_none]at b;intro x hx;simpa using b x hx
 |some x=>rw[b]at h;cases h
theorem ZPl{l:List Zat}(h:l.Pairwise fun x y=>x.fNet≠y.fNet){x y:Zat}(hx:x∈l)(g:y∈l)(e:x.fNet=y.fNet):x=y:=by
 obtain⟨i,b,rfl⟩:=List.getElem_of_mem hx;obtain⟨j,d,rfl⟩:=List.getElem_of_mem g;have f:=List.pairwise_iff_getElem.1 h;rcases Nat.lt_trichotomy i j with h1|h1|h1
 .exact absurd e (f i j b d h1)
 .subst h1;rfl
 .exact absurd e.symm (f j i d b h1)
theorem Ztg{v:Bool}{a:Zaf}(b:a.fV6=v):∀{nd:Zap}{m:Nat}{f:Nat->Bool},Zpk v nd m f->m<=wid a+1->((ZaJ nd).filter (cov a)).length+m<=wid a+1
 | .nil,m,f,_,h=>by simp[ZaJ];exact h
 | .mk h has j n,m,f,o,t=>by
  obtain⟨e,p,r,g,i⟩:=o
  have b0:=fun x hx=>Zla.1 (ZbL g x hx).2.2
  have b1:=fun x hx=>Zla.1 (ZbL i x hx).2.2
  have u:wid h.fNet.fAddr=wid a:=by unfold wid;rw[p,b]
  have n1:=e.nn;have l1:=e.le;have gm:=r.1
  have i0:=Ztg b g (by omega)
  have i1:=Ztg b i (by omega)
  have y:((if has then[h]else[]).filter (cov a)).length<=1:=by
   split
   .exact List.length_filter_le _ _
   .simp
  have A:((ZaJ j).filter (cov a)).length=0\/((ZaJ n).filter (cov a)).length=0:=by
   cases hb:bitN a h.fNet.fBits.toNat with
   |false=>
    refine .inr ?_;rw[Znt]
    .rfl
    .intro x hx;unfold cov;rw[decide_eq_false_iff_not];intro d;obtain⟨x1,x2,x3⟩:=b1 x hx;have:=d _ x1;rw[hb,x3]at this;cases this
   |true=>
    refine .inl ?_;rw[Znt]
    .rfl
    .intro x hx;unfold cov;rw[decide_eq_false_iff_not];intro d;obtain⟨x1,x2,x3⟩:=b0 x hx;have:=d _ x1;rw[hb,x3]at this;cases this
  simp only[ZaJ,List.filter_append,List.length_append];omega
theorem ZHx{t:ZaF}(h:GT t)(a:Zaf)(g:a.ok):∃L,Zgt t a=some L/\L.length<=maxLen/\∀x,x∈L↔x∈ZjG t/\hasS x.fNet a=true:=by
 cases t with
 |nil=>exact h.elim
 |mk j n k=>
  simp only[Zgt,Zlg a g,Option.bind_some,ZLM];cases f:ZcN a
  .exact⟨[],rfl,by simp,fun x=>by simp[hasS,f]⟩
  .simp only[Bool.not_true,cond_false];have u:=ZtX a;have o:∀(A B:Option (List Zat)),ix2 0 A B=A:=fun _ _=>rfl;have p:∀(A B:Option (List Zat)),ix2 1 A B=B:=fun _ _=>rfl;have e:∀x:Zat,RN x.fNet->hasS x.fNet a=(decide (x.fNet.fAddr.fV6=a.fV6)&&cov a x):=fun x hx=>by
    unfold hasS cov;rw[(Zvh hx.ok).2 hx,f,Bool.true_and,Bool.true_and]
   cases d:a.fV6 with
   |false=>
    simp only[Bool.false_eq_true,if_false];rw[Zaj (by omega),o,ZxU g f d 1000000 j 0 f0 [] h.1 (fun i r=>by omega) (by omega) (by omega) (by simp)];refine⟨_,rfl,by have:=Ztg d h.1 (by omega);unfold maxLen;simp only[List.nil_append];omega,fun x=>?_⟩;simp only[List.nil_append,List.mem_filter,ZjG,List.mem_append];constructor
    .rintro ⟨hx,b⟩;have:=ZbL h.1 x hx;rw[e x this.1,this.2.1,d,b];exact⟨.inl hx,rfl⟩
    .rintro ⟨hx|hx,b⟩
     .have:=ZbL h.1 x hx;rw[e x this.1,Bool.and_eq_true]at b;exact⟨hx,b.2⟩
     .have:=ZbL h.2 x hx;rw[e x this.1,this.2.1,d]at b;simp at b
   |true=>
    simp only[if_true];rw[Zaj (by omega),p,ZxU g f d 1000000 n 0 f0 [] h.2 (fun i r=>by omega) (by omega) (by omega) (by simp)];refine⟨_,rfl,by have:=Ztg d h.2 (by omega);unfold maxLen;simp only[List.nil_append];omega,fun x=>?_⟩;simp only[List.nil_append,List.mem_filter,ZjG,List.mem_append];constructor
    .rintro ⟨hx,b⟩;have:=ZbL h.2 x hx;rw[e x this.1,this.2.1,d,b];exact⟨.inr hx,rfl⟩
    .rintro ⟨hx|hx,b⟩
     .have:=ZbL h.1 x hx;rw[e x this.1,this.2.1,d]at b;simp at b
     .have:=ZbL h.2 x hx;rw[e x this.1,Bool.and_eq_true]at b;exact⟨hx,b.2⟩
structure Idx (ah:Int) (t:ZaF) (l:List Zac):Prop where
 gt:GT t
 from_:∀x∈ZjG t,∃b∈l,ah<b.fUntil/\b.fNet=x.fNet/\b.fUntil=x.fV
 has:∀b∈l,ah<b.fUntil->ZhQ b.fNet=true->∃x∈ZjG t,x.fNet=b.fNet/\b.fUntil<=x.fV
theorem ZyU{ah:Int}{t:ZaF}{l:List Zac}{b:Zac}(h:Idx ah t l)(hb:ah<b.fUntil->ZhQ b.fNet=true->∃x∈ZjG t,x.fNet=b.fNet/\b.fUntil<=x.fV):Idx ah t (l++[b]):=
 ⟨h.gt,fun x hx=>by obtain⟨c,d,e⟩:=h.from_ x hx;exact⟨c,by simp[d],e⟩,fun c hc d e=>by
  rcases List.mem_append.1 hc with hc|hc
  .exact h.has c hc d e
  .rw[List.mem_singleton]at hc;subst hc;exact hb d e⟩
theorem ZyT{ah:Int}{t:ZaF}{l:List Zac}{b:Zac}(h:Idx ah t l)(hb:b.fNet.fAddr.ok)(hl:ah<b.fUntil)(bT:∀x∈ZjG t,x.fNet=b.fNet->x.fV<=b.fUntil):∃t',ZeI t b.fNet b.fUntil=some t'/\Idx ah t' (l++[b]):=by
 cases g:ZhQ b.fNet with
 |true=>
  obtain⟨t',w1,w2,w3⟩:=ZJC h.gt b.fNet hb b.fUntil g;refine⟨t',w1,w2,fun x hx=>?_,fun c hc d f=>?_⟩
  .rcases(w3 x).1 hx with e|⟨hx,hne⟩
   .subst e;exact⟨b,by simp,hl,rfl,rfl⟩
   .obtain⟨c,d,f⟩:=h.from_ x hx;exact⟨c,by simp[d],f⟩
  .by_cases e:c.fNet=b.fNet
   .refine⟨⟨b.fNet,b.fUntil⟩,(w3 _).2 (.inl rfl),e.symm,?_⟩;rcases List.mem_append.1 hc with hc|hc
    .obtain⟨x,x1,x2,x3⟩:=h.has c hc d f;have:=bT x x1 (x2.trans e);simp only;omega
    .rw[List.mem_singleton]at hc;subst hc;exact Int.le_refl _
   .rcases List.mem_append.1 hc with hc|hc
    .obtain⟨x,x1,x2,x3⟩:=h.has c hc d f;exact⟨x,(w3 x).2 (.inr ⟨x1,fun q=>e (x2.symm.trans q)⟩),x2,x3⟩
    .rw[List.mem_singleton]at hc;subst hc;exact absurd rfl e
 |false=>
  refine⟨t,?_,ZyU h fun _ q=>by rw[g]at q;cases q⟩;cases t with
  |nil=>exact h.gt.elim
  |mk i j k=>
   simp only[ZeI,ZeW,ZlT b.fNet hb,g,Option.bind_some,Bool.not_false,cond_true]
theorem ZDa(b:Zac)(ah:Int):ZpP b ah=some (decide (ah<b.fUntil)):=rfl
theorem ZIk(l:List Zac)(ah:Int)(hl:l.length<=maxLen)(aJ:∀b∈l,b.ok):∀fu (i:Nat) (t:ZaF),i<=l.length->l.length-i<fu->Idx ah t (l.take i)->∃t',Zez ah fu t l (l.length:Int) (i:Int)=some t'/\Idx ah t' l:=by
 intro fu;induction fu with
 |zero=>intro _ _ _ h;omega
 |succ fu ih=>
  intro i t j n h;simp only[Zez,Zad];by_cases hlt:i<l.length
  .rw[iNb,Zaj ⟨by omega,by omega⟩];simp only[Int.toNat_natCast];have dx:=aJ _ (Zcw l Zac.d i hlt);have dW:l.take (i+1)=l.take i++[l.getD i Zac.d]:=by rw[List.take_succ_eq_append_getElem hlt,ZbA l _ i hlt]
   generalize l.getD i Zac.d=b at dx dW ⊢;rw[ZFZ h.gt b.fNet dx.1.1,ZDa];simp only[Option.bind_some];rw[add1 hlt hl];have next:∀t',Idx ah t' (l.take i++[b])->∃t'',Zez ah fu t' l (l.length:Int) ((i+1:Nat):Int)=some t''/\Idx ah t'' l:=fun t' ht'=>ih (i+1) t' (by omega) (by omega) (by rw[dW];exact ht')
   by_cases hlv:ah<b.fUntil
   .rw[decide_eq_true hlv,cond_true];cases g:ZhQ b.fNet with
    |false=>
     simp only[Bool.false_eq_true,if_false,Bool.not_false,cond_true];obtain⟨t',s1,s2⟩:=ZyT h dx.1.1 hlv (fun x hx e=>by
      have:=(Zvh dx.1.1).2 (e ▸ ZBr h.gt x hx);rw[g]at this;cases this)
     rw[s1];exact next t' s2
    |true=>
     simp only[if_true];cases f:(ZmI (ZjG t) b.fNet).2 with
     |false=>
      simp only[Bool.not_false,cond_true];obtain⟨t',s1,s2⟩:=ZyT h dx.1.1 hlv (fun x hx e=>absurd e (ZOO f x hx));rw[s1];exact next t' s2
     |true=>
      simp only[Bool.not_true,cond_false];obtain⟨y,y1,y2,y3⟩:=ZLr f;by_cases hlt2:(ZmI (ZjG t) b.fNet).1<b.fUntil
      .rw[if_pos hlt2];obtain⟨t',s1,s2⟩:=ZyT h dx.1.1 hlv (fun x hx e=>by
        have:=ZPl (ZBs h.gt) hx y1 (e.trans y2.symm);rw[this];omega)
       rw[s1];exact next t' s2
      .rw[if_neg hlt2];exact next t (ZyU h fun _ _=>⟨y,y1,y2,by omega⟩)
   .rw[decide_eq_false hlv,cond_false];exact next t (ZyU h fun q=>absurd q hlv)
  .rw[iNa];refine⟨t,rfl,?_⟩;rw[List.take_of_length_le (by omega)]at h;exact h
theorem ZOo(l:List Zac)(ah:Int)(hl:l.length<=maxLen)(aJ:∀b∈l,b.ok):∃t,Zoe l ah=some t/\Idx ah t l:=by
 have:=ZIk l ah hl aJ ((((l.length:Nat):Int)-(0:Int)).toNat+2) 0 (.mk .nil .nil 0) (by omega) (by omega) ⟨⟨trivial,trivial⟩,fun x hx=>by simp[ZjG,ZaJ]at hx,fun b hb=>by simp at hb⟩;simpa[Zoe,Zrd]using this
def ZnB(l:List Zac)(a:Zaf)(ah:Int)(b:Zac):Prop:=b∈l/\ah<b.fUntil/\hasS b.fNet a=true
def ZwH(l:List Zac)(a:Zaf)(ah r:Int):Prop:=(r=0/\∀b,¬ZnB l a ah b)\/∃b,ZnB l a ah b/\r=b.fUntil/\∀c,ZnB l a ah c->c.fUntil<=r
theorem Zxy{l l':List Zac}{a:Zaf}{ah r s:Int}(h:ZwH l a ah r)(h':ZwH l' a ah s)(e:∀b,ZnB l a ah b↔ZnB l' a ah b):r=s:=by
 rcases h with⟨g,i⟩|⟨b,g,i,n⟩
 .rcases h' with⟨d,f⟩|⟨c,d,f,j⟩
  .omega
  .exact absurd ((e c).2 d) (i c)
 .rcases h' with⟨d,f⟩|⟨c,d,f,j⟩
  .exact absurd ((e b).1 g) (f b)
  .have:=n c ((e c).2 d);have:=j b ((e b).1 g);omega
theorem ZOi(L:List Zat)(hL:L.length<=maxLen):∀fu (i:Nat) (v:Int),i<=L.length->L.length-i<fu->∃r,ZjP fu v L (L.length:Int) (i:Int)=some r/\v<=r/\(∀x∈L.drop i,x.fV<=r)/\(r=v\/∃x∈L.drop i,r=x.fV):=by
 intro fu;induction fu with
 |zero=>intro _ _ _ h;omega
 |succ fu ih=>
  intro i v n o;simp only[ZjP,Zad];by_cases h:i<L.length
  .rw[iNb,Zaj ⟨by omega,by omega⟩];simp only[Int.toNat_natCast];rw[add1 h hL,Zdc L Zat.d i h];generalize L.getD i Zat.d=x;obtain⟨r,f,b,g,j⟩:=ih (i+1) (if x.fV>v then x.fV else v) (by omega) (by omega);refine⟨r,f,by split at b<;>omega,fun y hy=>?_,?_⟩
   .rcases List.mem_cons.1 hy with e|hy
    .subst e;split at b<;>omega
    .exact g y hy
   .rcases j with e|⟨y,y1,y2⟩
    .split at e
     .exact .inr ⟨x,by simp,e⟩
     .exact .inl e
    .exact .inr ⟨y,by simp[y1],y2⟩
  .rw[iNa];have:L.drop i=[]:=List.drop_eq_nil_of_le (by omega);exact⟨v,rfl,Int.le_refl _,by simp[this],.inl rfl⟩
theorem Zyi(l:List Zac)(a:Zaf)(ah:Int)(hl:l.length<=maxLen)(aJ:∀b∈l,b.ok)(j:a.ok):∃r,ZjQ l a ah=some r/\ZwH l a ah r:=by
 obtain⟨t,t1,t2⟩:=ZOo l ah hl aJ;obtain⟨L,n,hL,f⟩:=ZHx t2.gt a j;simp only[ZjQ,t1,n,Option.bind_some];have one:∀x∈L,∃b,ZnB l a ah b/\b.fUntil=x.fV:=fun x hx=>by
  obtain⟨x1,x2⟩:=(f x).1 hx;obtain⟨b,b1,b2,b3,b4⟩:=t2.from_ x x1;exact⟨b,⟨b1,b2,by rw[b3];exact x2⟩,b4⟩
 have gQ:∀b,ZnB l a ah b->∃x∈L,b.fUntil<=x.fV:=fun b hb=>by
  have o:ZhQ b.fNet=true:=by have:=hb.2.2;unfold hasS at this;rw[Bool.and_eq_true]at this;exact this.1
  obtain⟨x,x1,x2,x3⟩:=t2.has b hb.1 hb.2.1 o;exact⟨x,(f x).2 ⟨x1,by rw[x2];exact hb.2.2⟩,x3⟩
 by_cases h0:L=[]
 .subst h0;refine⟨0,rfl,.inl ⟨rfl,fun b hb=>?_⟩⟩;obtain⟨x,hx,_⟩:=gQ b hb;simp at hx
 .have jh:0<L.length:=List.length_pos_iff.2 h0;rw[show (((L.length:Nat):Int)==0)=false by rw[beq_eq_false_iff_ne];omega,cond_false,Zaj ⟨by omega,by omega⟩];obtain⟨r,g,u,h,i⟩:=ZOi L hL ((((L.length:Nat):Int)-(0:Int)).toNat+2) 0 (L.getD (0:Int).toNat Zat.d).fV (by omega) (by omega);simp only[Int.natCast_zero,List.drop_zero]at g h i;refine⟨r,g,.inr ?_⟩;have dJ:∃x∈L,r=x.fV:=by
   rcases i with e|e
   .exact⟨_,Zcw L Zat.d 0 jh,e⟩
   .exact e
  obtain⟨x,x1,x2⟩:=dJ;obtain⟨b,b1,b2⟩:=one x x1;refine⟨b,b1,by omega,fun c p=>?_⟩;obtain⟨y,y1,y2⟩:=gQ c p;have:=h y y1;omega
theorem ZyA(l:List Zac)(a:Zaf)(ah:Int)(hl:l.length<=maxLen)(aJ:∀b∈l,b.ok)(E:a.ok):∀fu (i:Nat) (v:Int) (q:Bool),i<=l.length->l.length-i<fu ->
  ∃r,Zch l ah fu v q (i:Int) a=some r/\(∀b,ZnB (l.drop i) a ah b->b.fUntil<=r)/\(q=true->v<=r)/\(r=v\/∃b,ZnB (l.drop i) a ah b/\r=b.fUntil)/\(q=false->(∃b,ZnB (l.drop i) a ah b)->∃b,ZnB (l.drop i) a ah b/\r=b.fUntil):=by
 intro fu;induction fu with
 |zero=>intro _ _ _ _ h;omega
 |succ fu ih=>
  intro i v q G n;simp only[Zch,Zad];by_cases h:i<l.length
  .rw[iNb,Zaj ⟨by omega,by omega⟩];simp only[Int.toNat_natCast];have dx:=aJ _ (Zcw l Zac.d i h);rw[add1 h hl,Zdc l Zac.d i h];generalize l.getD i Zac.d=b at dx ⊢;have mJ:ZiU b a ah=some (decide (ah<b.fUntil)&&hasS b.fNet a):=by
    simp only[ZiU,ZGl _ _ dx.1.1 E,Zad,gt_iff_lt,Option.bind_some];by_cases h:ah<b.fUntil
    .rw[if_pos h,decide_eq_true h];rfl
    .rw[if_neg h,decide_eq_false h];rfl
   rw[mJ];simp only[Option.bind_some];have bU:∀c,ZnB (l.drop (i+1)) a ah c->ZnB (b :: l.drop (i+1)) a ah c:=fun c f=>⟨by simp[f.1],f.2⟩;cases o:(decide (ah<b.fUntil)&&hasS b.fNet a)with
   |false=>
    simp only[cond_false];have bu:∀c,ZnB (b :: l.drop (i+1)) a ah c↔ZnB (l.drop (i+1)) a ah c:=fun c=>by
     refine⟨fun f=>⟨?_,f.2⟩,bU c⟩;rcases List.mem_cons.1 f.1 with e|hm
     .subst e;rw[decide_eq_true f.2.1,f.2.2]at o;cases o
     .exact hm
    obtain⟨r,t,u,y,p,A⟩:=ih (i+1) v q (by omega) (by omega);refine⟨r,t,fun c f=>u c ((bu c).1 f),y,?_,fun n hx=>?_⟩
    .rcases p with e|⟨c,g,j⟩
     .exact .inl e
     .exact .inr ⟨c,bU c g,j⟩
    .obtain⟨c,f⟩:=hx;obtain⟨d,d1,d2⟩:=A n ⟨c,(bu c).1 f⟩;exact⟨d,bU d d1,d2⟩
   |true=>
    simp only[cond_true];rw[Bool.and_eq_true,decide_eq_true_eq]at o;have hb:ZnB (b :: l.drop (i+1)) a ah b:=⟨by simp,o⟩
    -- what follows from a step that took b's,or something longer
    have step:∀v',b.fUntil<=v'->(q=true->v<=v')->(v'=b.fUntil\/(q=true/\v'=v))->∃r,Zch l ah fu v' true ((i+1:Nat):Int) a=some r/\(∀c,ZnB (b :: l.drop (i+1)) a ah c->c.fUntil<=r)/\(q=true->v<=r)/\(r=v\/∃c,ZnB (b :: l.drop (i+1)) a ah c/\r=c.fUntil)/\(q=false->(∃c,ZnB (b :: l.drop (i+1)) a ah c)->∃c,ZnB (b :: l.drop (i+1)) a ah c/\r=c.fUntil):=by
     intro v' H F B;obtain⟨r,t,u,y,p,A⟩:=ih (i+1) v' true (by omega) (by omega);have r3':=y rfl;refine⟨r,t,fun c f=>?_,fun eG=>by have:=F eG;omega,?_,fun n _=>?_⟩
     .rcases List.mem_cons.1 f.1 with e|hm
      .subst e;omega
      .exact u c ⟨hm,f.2⟩
     .rcases p with e|⟨c,g,j⟩
      .rcases B with C|⟨_,C⟩
       .exact .inr ⟨b,hb,by omega⟩
       .exact .inl (by omega)
      .exact .inr ⟨c,bU c g,j⟩
     .rcases p with e|⟨c,g,j⟩
      .rcases B with C|⟨D,_⟩
       .exact⟨b,hb,by omega⟩
       .rw[n]at D;cases D
      .exact⟨c,bU c g,j⟩
    cases q with
    |false=>
     rw[Bool.not_false,cond_true];exact step b.fUntil (Int.le_refl _) (fun h=>by cases h) (.inl rfl)
    |true=>
     rw[Bool.not_true,cond_false];by_cases hgt:b.fUntil>v
     .rw[if_pos hgt];exact step b.fUntil (Int.le_refl _) (fun _=>by omega) (.inl rfl)
     .rw[if_neg hgt];exact step v (by omega) (fun _=>Int.le_refl _) (.inr ⟨rfl,rfl⟩)
  .rw[iNa];have:l.drop i=[]:=List.drop_eq_nil_of_le (by omega);rw[this];exact⟨v,rfl,fun b hb=>by simp[ZnB]at hb,fun _=>Int.le_refl _,.inl rfl,fun _ ⟨b,hb⟩=>by simp[ZnB]at hb⟩
theorem Zvm(l:List Zac)(a:Zaf)(ah:Int)(hl:l.length<=maxLen)(aJ:∀b∈l,b.ok)(j:a.ok):∃r,ZdK l a ah=some r/\ZwH l a ah r:=by
 obtain⟨r,d,f,n,g,i⟩:=ZyA l a ah hl aJ j ((((l.length:Nat):Int)-(0:Int)).toNat+2) 0 0 false (by omega) (by omega);simp only[Int.natCast_zero,List.drop_zero]at d f g i;refine⟨r,d,?_⟩;by_cases h:∃b,ZnB l a ah b
 .obtain⟨b,b1,b2⟩:=i trivial h;exact .inr ⟨b,b1,b2,f⟩
 .refine .inl ⟨?_,fun b hb=>h ⟨b,hb⟩⟩;rcases g with e|⟨b,b1,_⟩
  .exact e
  .exact absurd ⟨b,b1⟩ h
set_option maxRecDepth 100000 in
def ZlC(l:List Zac)(ah:Int):List Zac:=l.filter fun b=>decide (ah<b.fUntil)
theorem Zxa{b:Zac}{r:List Zac}{ah:Int}(h:ah<b.fUntil):ZlC (b :: r) ah=b :: ZlC r ah:=by simp[ZlC,h]
theorem ZAy{b:Zac}{r:List Zac}{ah:Int}(h:¬ah<b.fUntil):ZlC (b :: r) ah=ZlC r ah:=by simp[ZlC,h]
theorem Zpp{n:Nat}(h:n<=100000):n * 40<=140737488355328/\n<=maxLen:=⟨by omega,by unfold maxLen;omega⟩
theorem ZHz(l:List Zac)(ah:Int)(hl:l.length<=10000):∀fu (i:Nat) (w:List Zac),i<=l.length->l.length-i<fu->w.length<=i ->
  Zip l ah fu l (l.length:Int) (i:Int) w=some (w++ZlC (l.drop i) ah,((l.length:Int)-((w++ZlC (l.drop i) ah).length:Int))):=by
 have f:l.length<=maxLen:=by unfold maxLen;omega
 intro fu;induction fu with
 |zero=>intro _ _ _ h;omega
 |succ fu ih=>
  intro i w g j n;simp only[Zip,Zad,ZDa,Option.bind_some];by_cases h:i<l.length
  .rw[iNb,Zaj ⟨by omega,by omega⟩];simp only[Int.toNat_natCast];rw[add1 h f,Zdc l Zac.d i h];by_cases hb:ah<(l.getD i Zac.d).fUntil
   .have b:=Zxa (r:=l.drop (i+1)) hb;rw[if_pos hb,Zaj (Zpp (by simp;omega)),ih (i+1) _ (by omega) (by omega) (by simp;omega),b];simp
   .have b:=ZAy (r:=l.drop (i+1)) hb;rw[if_neg hb,ih (i+1) w (by omega) (by omega) (by omega),b]
  .have e:i=l.length:=by omega
   rw[iNa,e,List.drop_length];simp only[ZlC,List.filter_nil,List.append_nil];rw[Zbi (by omega) (by omega)]
theorem ZIX(l:List Zac)(ah:Int)(hl:l.length<=10000):Zof l ah=some (ZlC l ah,((l.length:Int)-((ZlC l ah).length:Int))):=by
 have:=ZHz l ah hl ((((l.length:Nat):Int)-(0:Int)).toNat+2) 0 [] (by omega) (by omega) (by simp);simpa[Zof]using this
theorem Zyz(l:List Zac)(ah:Int)(hl:l.length<=10000):∀fu (i:Nat) (w:List Zac),i<=l.length->l.length-i<fu->w.length<=i ->
  ZdC l ah fu (i:Int) w=some (w++ZlC (l.drop i) ah,((l.length:Int)-((w++ZlC (l.drop i) ah).length:Int))):=by
 have f:l.length<=maxLen:=by unfold maxLen;omega
 intro fu;induction fu with
 |zero=>intro _ _ _ h;omega
 |succ fu ih=>
  intro i w g j n;simp only[ZdC,Zad,gt_iff_lt];by_cases h:i<l.length
  .rw[iNb,Zaj ⟨by omega,by omega⟩];simp only[Int.toNat_natCast];rw[add1 h f,Zdc l Zac.d i h];by_cases hb:ah<(l.getD i Zac.d).fUntil
   .have b:=Zxa (r:=l.drop (i+1)) hb;rw[if_pos hb,Zaj (Zpp (by simp;omega)),ih (i+1) _ (by omega) (by omega) (by simp;omega),b];simp
   .have b:=ZAy (r:=l.drop (i+1)) hb;rw[if_neg hb,ih (i+1) w (by omega) (by omega) (by omega),b]
  .have e:i=l.length:=by omega
   rw[iNa,e,List.drop_length];simp only[ZlC,List.filter_nil,List.append_nil];rw[Zbi (by omega) (by omega)]
theorem ZAT(l:List Zac)(ah:Int)(hl:l.length<=10000):Zib l ah=some (ZlC l ah,((l.length:Int)-((ZlC l ah).length:Int))):=by
 have:=Zyz l ah hl ((((l.length:Nat):Int)-(0:Int)).toNat+2) 0 [] (by omega) (by omega) (by simp);simpa[Zib]using this
theorem ZHA(l:List Zac)(ah:Int):(ZlC l ah).length<=l.length:=List.length_filter_le _ _
def Zgm(b:Zac):Bool:=ZhQ b.fNet&&decide (1<=b.fUntil)&&decide (b.fUntil<=1099511627776)
theorem ZCZ(b:Zac)(h:b.ok):Zns b=some (Zgm b):=by
 simp only[Zns,ZlT _ h.1.1,Zgm,Option.bind_some,Zad];cases ZhQ b.fNet
 .rfl
 .simp only[cond_true,Bool.true_and];by_cases d:1<=b.fUntil
  .rw[if_pos d,decide_eq_true d];rfl
  .rw[if_neg d,decide_eq_false d];rfl
theorem ZEl(b:Zac)(h:b.ok):Zic b=some (Zgm b):=by
 simp only[Zic,Zts _ h.1.1,Zgm,Option.bind_some,Zad];cases ZhQ b.fNet
 .rfl
 .simp only[cond_true,Bool.true_and];by_cases d:1<=b.fUntil
  .rw[iNb,decide_eq_true d];rfl
  .rw[iNa,decide_eq_false d];rfl
def Zvi(l:List Zac):Prop:=(∀b∈l,Zgm b=true)/\l.Pairwise fun a b=>cmpN a.fNet b.fNet<0
theorem ZHK{l l':List Zac}(h:Zvi l)(d:l'.Sublist l):Zvi l':=⟨fun b hb=>h.1 b (d.subset hb),h.2.sublist d⟩
theorem ZHJ(l:List Zac)(hl:l.length<=maxLen)(aJ:∀b∈l,b.ok):∀fu (i:Nat),i<=l.length->l.length-i<fu ->
  ∃r,Ziq l fu l (l.length:Int) (i:Int)=some r/\(r=true↔∀j,i<=j->j<l.length->Zgm (l.getD j Zac.d)=true/\(0<j->cmpN (l.getD (j-1) Zac.d).fNet (l.getD j Zac.d).fNet<0)):=by
 intro fu;induction fu with
 |zero=>intro _ _ h;omega
 |succ fu ih=>
  intro i v y;simp only[Ziq,Zad,Zzz,Option.bind_some];by_cases h:i<l.length
  .rw[iNb,Zaj ⟨by omega,by omega⟩];simp only[Int.toNat_natCast];rw[ZCZ _ (aJ _ (Zcw l Zac.d i h)),add1 h hl];simp only[Option.bind_some];obtain⟨r,g,p⟩:=ih (i+1) (by omega) (by omega);have more:(∀j,i<=j->j<l.length->Zgm (l.getD j Zac.d)=true/\(0<j->cmpN (l.getD (j-1) Zac.d).fNet (l.getD j Zac.d).fNet<0))↔(Zgm (l.getD i Zac.d)=true/\(0<i->cmpN (l.getD (i-1) Zac.d).fNet (l.getD i Zac.d).fNet<0))/\r=true:=by
    rw[p];constructor
    .intro q;exact⟨q i (Nat.le_refl _) h,fun j n f=>q j (by omega) f⟩
    .rintro ⟨t,u⟩ j n f;by_cases e:j=i
     .subst e;exact t
     .exact u j (by omega) f
   rw[more];cases hb:Zgm (l.getD i Zac.d)with
   |false=>exact⟨false,rfl,by simp⟩
   |true=>
    simp only[Bool.not_true,cond_false];by_cases h0:0<i
    .rw[iNb,show Zay (i:Int) 1=((i-1:Nat):Int)by rw[Zbi (by unfold maxLen at hl;omega) (by unfold maxLen at hl;omega)];omega,Zaj ⟨by omega,by omega⟩];simp only[Int.toNat_natCast];by_cases o:cmpN (l.getD (i-1) Zac.d).fNet (l.getD i Zac.d).fNet>=0
     .rw[if_pos o];exact⟨false,rfl,by simp only[Bool.false_eq_true,false_iff];rintro ⟨⟨_,q⟩,_⟩;have:=q h0;omega⟩
     .rw[if_neg o];exact⟨r,g,⟨fun q=>⟨⟨trivial,fun _=>by omega⟩,q⟩,fun q=>q.2⟩⟩
    .rw[iNa];exact⟨r,g,⟨fun q=>⟨⟨trivial,fun h=>absurd h h0⟩,q⟩,fun q=>q.2⟩⟩
  .rw[iNa];exact⟨true,rfl,by simp;intro j n f;omega⟩
theorem ZMD(l:List Zac):(∀j,0<=j->j<l.length->Zgm (l.getD j Zac.d)=true/\(0<j->cmpN (l.getD (j-1) Zac.d).fNet (l.getD j Zac.d).fNet<0))↔Zvi l:=by
 constructor
 .intro h;refine⟨fun b hb=>?_,ZoL (R:=fun a b:Zac=>cmpN a.fNet b.fNet<0) (fun a b c f e=>Znb f e) l fun i a b o hb=>?_⟩
  .obtain⟨i,n,rfl⟩:=List.getElem_of_mem hb;have:=(h i (by omega) n).1;rwa [ZbA l _ i n]at this
  .obtain⟨f,p⟩:=List.getElem?_eq_some_iff.1 o;obtain⟨e,r⟩:=List.getElem?_eq_some_iff.1 hb;have:=(h (i+1) (by omega) e).2 (by omega);rw[Nat.add_sub_cancel,ZbA l _ i f,ZbA l _ (i+1) e,p,r]at this;exact this
 .rintro ⟨f,e⟩ j _ g;refine⟨f _ (Zcw l _ j g),fun h0=>?_⟩;rw[ZbA l _ j g,ZbA l _ (j-1) (by omega)];exact List.pairwise_iff_getElem.1 e (j-1) j (by omega) g (by omega)
theorem ZIY(l:List Zac)(hl:l.length<=maxLen)(aJ:∀b∈l,b.ok):∃r,ZqC l=some r/\(r=true↔Zvi l):=by
 obtain⟨r,d,e⟩:=ZHJ l hl aJ ((((l.length:Nat):Int)-(0:Int)).toNat+2) 0 (by omega) (by omega);exact⟨r,d,e.trans (ZMD l)⟩
def ZkH(l:List Zac)(n:Zae):Int:=ixOf (fun x=>decide (x.fNet=n)) l 0
def Zyb(l:List Zac)(n:Zae):Int:=ixOf (fun x=>decide (0<cmpN x.fNet n)) l 0
theorem ZCY(l:List Zac)(n:Zae)(hl:l.length<=maxLen):Znr l n=some (ZkH l n):=by
 simp only[Znr,Zdw];rw[show ((0:Int))=((0:Nat):Int)from rfl];rw[Zmx l Zac.d (fun x=>decide (x.fNet=n)) hl (fun fu i=>Zbo l n fu (l.length:Int) i) (fun i=>i) ?_ ?_ _ 0 (by omega) (by omega)]
 .rfl
 .intro fu i b;simp only[Zbo,ZpN,Zad,Option.bind_some];rw[iNb,Zaj ⟨by omega,by omega⟩];simp
 .intro fu;simp only[Zbo,Zad];rw[iNa]
theorem Zxm(l:List Zac)(n:Zae)(hl:l.length<=maxLen):Zgh l n=some (ZkH l n):=by
 simp only[Zgh];rw[show ((0:Int))=((0:Nat):Int)from rfl];rw[Zmx l Zac.d (fun x=>decide (x.fNet=n)) hl (fun fu i=>ZdD l fu i n) (fun i=>i) ?_ ?_ _ 0 (by omega) (by omega)]
 .rfl
 .intro fu i b;simp only[ZdD,Zad];rw[iNb,Zaj ⟨by omega,by omega⟩];simp
 .intro fu;simp only[ZdD,Zad];rw[iNa]
theorem ZJa(l:List Zac)(b:Zac)(hl:l.length<=maxLen):ZcB l b=some (Zyb l b.fNet):=by
 simp only[ZcB];rw[show ((0:Int))=((0:Nat):Int)from rfl];rw[Zmx l Zac.d (fun x=>decide (0<cmpN x.fNet b.fNet)) hl (fun fu i=>Zbp l b fu (l.length:Int) i) (fun i=>i) ?_ ?_ _ 0 (by omega) (by omega)]
 .rfl
 .intro fu i e;simp only[Zbp,ZqD,Zzz,Zad,Option.bind_some];rw[iNb,Zaj ⟨by omega,by omega⟩];simp
 .intro fu;simp only[Zbp,Zad];rw[iNa]
def putB(l:List Zac)(b:Zac):List Zac:=l.takeWhile (fun x=>!decide (0<cmpN x.fNet b.fNet))++[b]++l.dropWhile (fun x=>!decide (0<cmpN x.fNet b.fNet))
def ZyS(x b:Zac):Zac:=⟨x.fNet,if b.fUntil>x.fUntil then b.fUntil else x.fUntil⟩
def addB(l:List Zac)(b:Zac)(most:Int):List Zac×Int:=if Zgm b then if 0<=ZkH l b.fNet then(l.set (ZkH l b.fNet).toNat (ZyS (l.getD (ZkH l b.fNet).toNat Zac.d) b),0)else if(l.length:Int)>=most then([],5)else(putB l b,0)else([],1)
theorem ZtO(l:List Zac)(n:Zae)(h:0<=ZkH l n):(ZkH l n).toNat<l.length/\(l.getD (ZkH l n).toNat Zac.d).fNet=n:=by
 obtain⟨k,b,f,⟨x,g,i⟩,_⟩:=ZmG _ l 0 h;have e:(ZkH l n).toNat=k:=by unfold ZkH;rw[f];omega
 rw[e];refine⟨b,?_⟩;rw[List.getD_eq_getElem?_getD,g];simpa using i
theorem ZCL(l:List Zac)(h:l.length<=10000):ZaV l=some l:=by
 unfold ZaV;rw[Zaj (Zpp (by omega))]
theorem ZxA(l:List Zac)(i:Int)(e:Zac)(h:l.length<=10000)(h0:0<=i)(b:i.toNat<=l.length):ZaU l i [e]=some (l.take i.toNat++[e]++l.drop i.toNat):=by
 unfold ZaU;rw[Zaj ⟨h0,b,by simp,by simp only[List.length_cons,List.length_nil];omega,by unfold maxLen;simp only[List.length_cons,List.length_nil];omega⟩]
theorem ZHl(l:List Zac)(b:Zac)(most:Int)(h:l.length<=10000)(hb:b.ok):Zpc l b most=some (addB l b most):=by
 have i:l.length<=maxLen:=by unfold maxLen;omega
 have j:=Zrc (fun x:Zac=>decide (0<cmpN x.fNet b.fNet)) l 0;have hle:=ZvL (fun x:Zac=>decide (0<cmpN x.fNet b.fNet)) l 0;simp only[Zpc,ZCZ b hb,ZCY l _ i,ZJa l b i,ZCL l h,Option.bind_some,addB];cases Zgm b
 .rfl
 .simp only[Bool.not_true,cond_false,if_true,Zad,ge_iff_le];by_cases d:0<=ZkH l b.fNet
  .obtain⟨f1,f2⟩:=ZtO l b.fNet d;simp only[d,if_true];rw[Zaj ⟨trivial,by omega⟩];simp only[ZtM,f2,decide_true,cond_true,Option.bind_some];rw[Zaj ⟨trivial,by omega⟩];simp only[ZyS,f2]
  .simp only[d,if_false];by_cases n:most<=(l.length:Int)
   .simp only[n,if_true]
   .simp only[n,if_false];by_cases e:Zyb l b.fNet<0
    .rw[if_pos e,ZxA l _ b h (by omega) (by simp)];simp only[Option.bind_some];obtain⟨f,g⟩:=j.1 e;unfold putB;rw[f,g];simp
    .rw[if_neg e];have iL:0<=Zyb l b.fNet:=by omega
     unfold Zyb at iL;rw[ZxA l _ b h (by omega) (by unfold Zyb;omega)];simp only[Option.bind_some];obtain⟨_,f,g⟩:=j.2 iL;unfold putB Zyb;rw[f,g];rfl
theorem ZOb(l:List Zac)(e:Zac)(h:l.length<=10000):∀fu (i:Nat),i<=l.length->l.length-i<fu ->
  Zfw l fu (i:Int) e=some (l.take i++putB (l.drop i) e,0):=by
 have g:l.length<=maxLen:=by unfold maxLen;omega
 have bh:∀i:Nat,i<=l.length->(need (0<=(i:Int)/\(i:Int)<=((l.length:Nat):Int)) <|
   need ((([]:List Zac)++(l.take (i:Int).toNat)).length * 40<=140737488355328/\(([]:List Zac)++(l.take (i:Int).toNat)).length<=maxLen) <|
   need (((([]:List Zac)++(l.take (i:Int).toNat))++([e]:List Zac)).length * 40<=140737488355328/\((([]:List Zac)++(l.take (i:Int).toNat))++([e]:List Zac)).length<=maxLen) <|
   need ((((([]:List Zac)++(l.take (i:Int).toNat))++([e]:List Zac))++(l.drop (i:Int).toNat)).length * 40<=140737488355328/\(((([]:List Zac)++(l.take (i:Int).toNat))++([e]:List Zac))++(l.drop (i:Int).toNat)).length<=maxLen) <|
   some ((((([]:List Zac)++(l.take (i:Int).toNat))++([e]:List Zac))++(l.drop (i:Int).toNat)),(0:Int)))=some (l.take i++[e]++l.drop i,0):=by
  intro i f;rw[Zaj ⟨by omega,by omega⟩,Zaj (Zpp (by simp;omega)),Zaj (Zpp (by simp;omega)),Zaj (Zpp (by simp;omega))];simp
 intro fu;induction fu with
 |zero=>intro i _ h;omega
 |succ fu ih=>
  intro i f j;simp only[Zfw,ZNZ,Option.bind_some,Zad];by_cases hlt:i<l.length
  .rw[iNb,Zaj ⟨by omega,by omega⟩];have hd:=Zdc l Zac.d i hlt;by_cases b:cmpN (l.getD i Zac.d).fNet e.fNet<=0
   .rw[if_pos (by simpa using b),add1 hlt g,ih (i+1) (by omega) (by omega)];congr 2;unfold putB;rw[hd,List.takeWhile_cons,List.dropWhile_cons,if_pos (by simp;simpa using b),if_pos (by simp;simpa using b),List.take_succ_eq_append_getElem hlt];rw[ZbA l Zac.d i hlt];simp only[List.append_assoc,List.cons_append,List.nil_append]
   .rw[if_neg (by simpa using b),bh i f];congr 2;unfold putB;rw[hd,List.takeWhile_cons,List.dropWhile_cons,if_neg (by simp;simpa using b),if_neg (by simp;simpa using b)];simp
  .rw[iNa,bh i f];have:l.drop i=[]:=List.drop_eq_nil_of_le (by omega);rw[this];simp[putB]
theorem Zux(l:List Zac)(b:Zac)(most:Int)(h:l.length<=10000)(hb:b.ok):ZhD l b most=some (addB l b most):=by
 have j:l.length<=maxLen:=by unfold maxLen;omega
 simp only[ZhD,ZEl b hb,Zxm l _ j,Option.bind_some,addB];cases Zgm b
 .rfl
 .simp only[Bool.not_true,cond_false,if_true,Zad,ge_iff_le,List.nil_append];by_cases f:0<=ZkH l b.fNet
  .obtain⟨f1,f2⟩:=ZtO l b.fNet f;simp only[f,if_true];rw[Zaj (Zpp (by omega)),Zaj ⟨trivial,by omega⟩];unfold ZyS;by_cases g:b.fUntil>(l.getD (ZkH l b.fNet).toNat Zac.d).fUntil
   .simp only[g,if_true]
   .simp only[g,if_false];congr 2;have e:(⟨(l.getD (ZkH l b.fNet).toNat Zac.d).fNet,(l.getD (ZkH l b.fNet).toNat Zac.d).fUntil⟩ : Zac)=l[(ZkH l b.fNet).toNat]:=by rw[ZbA l _ _ f1]
    rw[e,List.set_getElem_self]
  .simp only[f,if_false];by_cases i:most<=(l.length:Int)
   .simp only[i,if_true]
   .simp only[i,if_false];have:=ZOb l b h ((((l.length:Nat):Int)-(0:Int)).toNat+2) 0 (by omega) (by omega);simpa using this
def Zuo(l:List Zac)(n:Zae):List Zac×Int:=if ZkH l n<0 then([],6)else(l.take (ZkH l n).toNat++l.drop ((ZkH l n).toNat+1),0)
theorem ZIM(l:List Zac)(i:Nat)(h:l.length<=10000)(b:i<l.length):Zdx l (i:Int) ((i+1:Nat):Int)=some (l.take i++l.drop (i+1)):=by
 unfold Zdx;have fy:(appL l i (i+1) (l.length-(i+1))).length=l.length:=ZzF l i (i+1) (l.length-(i+1)) ⟨by omega,by omega⟩;rw[Zaj ⟨by omega,by omega,by omega,by omega⟩,show ((i:Int)==((i+1:Nat):Int))=false by rw[beq_eq_false_iff_ne];omega,cond_false];simp only[Int.toNat_natCast,Nat.zero_add];rw[Zaj ⟨by omega,by omega,by omega⟩,Zaj ⟨by omega,by omega,by omega⟩,Zaj ⟨by omega,by omega⟩,Zaj ⟨by omega,by omega,by omega⟩,Zaj (by rw[fy];omega),Zaj (by rw[Zph _ _ _ _ (by rw[fy];omega),fy];omega)];congr 1;unfold ZdI;rw[List.append_assoc,List.take_append_of_le_length (by simp[fy];omega),List.take_take,Nat.min_self];unfold appL;rw[List.take_append_of_le_length (by simp;omega),List.take_of_length_le (by simp;omega)];congr 1;rw[List.take_of_length_le (by simp)]
theorem ZML(l:List Zac)(n:Zae)(h:l.length<=10000):ZpO l n=some (Zuo l n):=by
 have d:l.length<=maxLen:=by unfold maxLen;omega
 simp only[ZpO,ZCY l n d,ZCL l h,Option.bind_some,Zad,Zuo];by_cases b:ZkH l n<0
 .rw[if_pos b,if_pos b]
 .rw[if_neg b,if_neg b];obtain⟨f1,_⟩:=ZtO l n (by omega);have e:ZkH l n=(((ZkH l n).toNat:Nat):Int):=by omega
  generalize (ZkH l n).toNat=k at f1 e;rw[e,add1 f1 d,ZIM l k h f1];rfl
theorem ZAV(l:List Zac)(n:Zae)(h:l.length<=10000):ZiT l n=some (Zuo l n):=by
 have d:l.length<=maxLen:=by unfold maxLen;omega
 simp only[ZiT,Zxm l n d,Option.bind_some,Zad,Zuo];by_cases b:ZkH l n<0
 .rw[if_pos b,if_pos b]
 .rw[if_neg b,if_neg b];obtain⟨f1,_⟩:=ZtO l n (by omega);have e:ZkH l n=(((ZkH l n).toNat:Nat):Int):=by omega
  generalize (ZkH l n).toNat=k at f1 e;rw[e,add1 f1 d];simp only[Int.toNat_natCast,List.nil_append];rw[Zaj ⟨by omega,by omega⟩,Zaj (Zpp (by simp;omega)),Zaj ⟨by omega,by omega⟩,Zaj (Zpp (by simp;omega))]
theorem ZyC(l:List Zac)(e:Zac):(putB l e).length=l.length+1:=by
 unfold putB;have:=congrArg List.length (List.takeWhile_append_dropWhile (p:=fun x:Zac=>!decide (0<cmpN x.fNet e.fNet)) (l:=l));simp only[List.length_append,List.length_cons,List.length_nil]at this ⊢;omega
theorem ZHs(l:List Zac)(e:Zac)(most:Int):(addB l e most).1.length<=l.length+1:=by
 unfold addB
 repeat' split
 all_goals simp[ZyC]
theorem ZMe(l:List Zac)(n:Zae):(Zuo l n).1.length<=l.length:=by
 unfold Zuo;split<;>simp<;>omega
end Go.Proofs.YtlpdogaifdeomaaGreat
