import Derived.Test.YtmnloegcpaahcaaGreatDPlA
import Derived.Test.YtmnloegcpaahcaaGreatDMdiA4
namespace Go.Proofs.YtmnloegcpaahcaaGreat
set_option linter.unusedSimpArgs false
set_option linter.unusedVariables false
theorem ZjX{a:Int}(h:0<=a):∃n:Nat,a=n:=⟨a.toNat,by omega⟩
def Zdj(a:Zah):Bool:=if a.fV6 then !(decide (a.fHi=0)&&decide (a.fLo / 4294967296=65535))else decide (a.fHi=0)&&decide (a.fLo<4294967296)
theorem ZLJ(n:Nat)(h:n<=18446744073709551615):IntKind.u32.wrap (IntKind.u64.wrap (((BitVec.ofInt (IntKind.bits .u64) (n:Int)) &&& (BitVec.ofInt (IntKind.bits .u64) (4294967295:Int))).toNat:Int))=((n % 4294967296:Nat):Int):=by
 have:=ZDg n 4294967295 (by omega) (by omega);rw[show ((4294967295:Nat):Int)=(4294967295:Int)from rfl]at this;rw[this,show (4294967295:Nat)=2 ^ 32-1 from rfl,Nat.and_two_pow_sub_one_eq_mod];rw[show (2:Nat) ^ 32=4294967296 from rfl];have b:n % 4294967296<4294967296:=Nat.mod_lt _ (by omega);rw[ZhU (by omega) (by omega)];simp only[IntKind.wrap,IntKind.bits,IntKind.signed];simp
theorem ZLz(n:Nat)(h:n<4294967296):Zpm ((n:Nat):Int)=some ⟨false,0,n⟩:=by
 unfold Zpm;rw[ZhU (by omega) (by omega)]
theorem ZkK(a:Zah)(h:a.ok):Zfk a=some (Zdj a):=by
 obtain⟨v,j,lo⟩:=a;obtain⟨_,d,b,_⟩:=h;have d:=ZjS d;have b:=ZjS b;simp only at d b;obtain⟨n,rfl⟩:=ZjX b.1;have g:=ZLJ n (by omega);have hlt:n % 4294967296<4294967296:=Nat.mod_lt _ (by omega);have hd:Int.fdiv (n:Int) (2 ^ (min (32:Int).toNat (IntKind.bits .u64)))=(n:Int) / 4294967296:=by
  rw[show (2:Int) ^ (min (32:Int).toNat (IntKind.bits .u64))=4294967296 from rfl,Int.fdiv_eq_ediv_of_nonneg _ (by omega)]
 cases v with
 |true=>
  simp only[Zfk,ZtC,Zdj,cond_true,hd,g];have hb:∀(p q:Int),(p==q)=decide (p=q):=fun p q=>by rw[Bool.eq_iff_iff];simp
  have o:=ZLz _ hlt;by_cases e:j=0
  .by_cases i:(n:Int) / 4294967296=65535
   .rw[hb,hb,decide_eq_true e,decide_eq_true i,cond_true,cond_true,o];simp
   .rw[hb,hb,decide_eq_true e,decide_eq_false i,cond_true,cond_false];simp
  .rw[hb,decide_eq_false e,cond_false];simp
 |false=>
  simp only[Zfk,Zdj,cond_false,g,ZLz _ hlt,Option.bind_some];congr 1;rw[Bool.eq_iff_iff];simp;constructor
  .rintro ⟨f,r⟩;exact⟨f.symm,by omega⟩
  .rintro ⟨f,r⟩;exact⟨f.symm,by omega⟩
theorem ZjW(a:Zah)(h:a.ok):Zbu a=some (Zdj a):=by
 obtain⟨v,e,lo⟩:=a;obtain⟨_,d,b,_⟩:=h;have d:=ZjS d;have b:=ZjS b;simp only at d b;have hd:IntKind.u64.wrap (Int.tdiv lo 4294967296)=lo / 4294967296:=by
  rw[Int.tdiv_eq_ediv_of_nonneg b.1];exact ZhU (by omega) (by omega)
 cases v with
 |true=>
  simp only[Zbu,Zdj,hd,Bool.not_true,cond_false,if_true];generalize lo / 4294967296=q;simp only[Bool.cond_eq_ite,beq_iff_eq,bne_iff_ne,ne_eq,decide_eq_true_eq,Bool.not_eq_true',Bool.not_eq_false',decide_eq_false_iff_not]
  repeat' split
  all_goals first|rfl | (rw[Option.some.injEq,Bool.eq_iff_iff];simp only[Bool.and_eq_true,Bool.not_eq_true',Bool.not_eq_false',Bool.and_eq_false_iff,decide_eq_true_eq,decide_eq_false_iff_not,beq_iff_eq,bne_iff_ne,ne_eq,iff_true,iff_false,true_iff,false_iff,Bool.false_eq_true,Bool.true_eq_false,not_true_eq_false,not_false_eq_true];omega)
 |false=>
  simp only[Zbu,Zdj,Bool.not_false,cond_true,Bool.false_eq_true,if_false];simp only[Bool.cond_eq_ite,beq_iff_eq,bne_iff_ne,ne_eq,decide_eq_true_eq,Bool.not_eq_true',Bool.not_eq_false',decide_eq_false_iff_not]
  repeat' split
  all_goals first|rfl | (rw[Option.some.injEq,Bool.eq_iff_iff];simp only[Bool.and_eq_true,Bool.not_eq_true',Bool.not_eq_false',Bool.and_eq_false_iff,decide_eq_true_eq,decide_eq_false_iff_not,beq_iff_eq,bne_iff_ne,ne_eq,iff_true,iff_false,true_iff,false_iff,Bool.false_eq_true,Bool.true_eq_false,not_true_eq_false,not_false_eq_true];omega)
theorem ZDw(a b:Zah):Zek a b=some (cmpA a b):=by
 obtain⟨v,d,lo⟩:=a;obtain⟨v',cw,ku⟩:=b;simp only[Zek,Zep,Zeo,cmpA,famA,cmpI,orI,Zah.mk.injEq];simp only[Bool.cond_eq_ite,bne_iff_ne,ne_eq,ite_not,decide_eq_true_eq,Bool.not_eq_true',beq_eq_false_iff_ne];cases v<;>cases v'<;>simp only[true_and,Bool.false_eq_true,Bool.true_eq_false,false_and,not_true_eq_false,not_false_eq_true,if_true,if_false,ite_true,ite_false,Bool.not_true,Bool.not_false]
 all_goals (repeat' split)<;>first|rfl|omega | (congr 1;omega)|simp_all
theorem ZJh(a b:Zae):Zfu a b=some (cmpN a b):=by
 simp only[Zfu,ZDw,Option.bind_some,cmpN,orI,cmpI];simp only[Bool.cond_eq_ite,bne_iff_ne,ne_eq,ite_not,decide_eq_true_eq,beq_iff_eq];generalize cmpA a.fAddr b.fAddr=c
 (repeat' split)<;>first|rfl|omega | (congr 1;omega)|simp_all
def Zme(a:Zaj):Bool:=Zdj a.fAddr&&decide (1<=a.fPort)&&decide (a.fPort<=65535)
theorem Zyp(a:Zaj)(h:a.ok):Zis a=some (Zme a):=by
 simp only[Zis,ZkK _ h.1,Zme,Option.bind_some];generalize Zdj a.fAddr=b;cases b<;>simp only[cond_true,cond_false,Bool.true_and,Bool.false_and];simp only[Bool.cond_eq_ite,beq_iff_eq,bne_iff_ne,ne_eq,decide_eq_true_eq,Bool.not_eq_true',Bool.not_eq_false',decide_eq_false_iff_not]
 repeat' split
 all_goals first|rfl | (rw[Option.some.injEq,Bool.eq_iff_iff];simp only[Bool.and_eq_true,Bool.not_eq_true',Bool.not_eq_false',Bool.and_eq_false_iff,decide_eq_true_eq,decide_eq_false_iff_not,beq_iff_eq,bne_iff_ne,ne_eq,iff_true,iff_false,true_iff,false_iff,Bool.false_eq_true,Bool.true_eq_false,not_true_eq_false,not_false_eq_true];omega)
theorem ZuE(a:Zaj)(h:a.ok):Zfe a=some (Zme a):=by
 simp only[Zfe,ZjW _ h.1,Zme,Option.bind_some];generalize Zdj a.fAddr=b;cases b<;>simp only[cond_true,cond_false,Bool.true_and,Bool.false_and];simp only[Bool.cond_eq_ite,beq_iff_eq,bne_iff_ne,ne_eq,decide_eq_true_eq,Bool.not_eq_true',Bool.not_eq_false',decide_eq_false_iff_not]
 repeat' split
 all_goals first|rfl | (rw[Option.some.injEq,Bool.eq_iff_iff];simp only[Bool.and_eq_true,Bool.not_eq_true',Bool.not_eq_false',Bool.and_eq_false_iff,decide_eq_true_eq,decide_eq_false_iff_not,beq_iff_eq,bne_iff_ne,ne_eq,iff_true,iff_false,true_iff,false_iff,Bool.false_eq_true,Bool.true_eq_false,not_true_eq_false,not_false_eq_true];omega)
def ZmD(e:Zab):Bool:=Zme e.fEnd&&decide (1<=e.fState)&&decide (e.fState<=3)&&decide (0<=e.fFails)&&decide (e.fFails<=1000)&&decide (0<=e.fNext)&&decide (e.fNext<=1099511627776)
theorem ZLS(n:Int):(n==(if(1099511627776:Int)<(if(0:Int)>n then(0:Int)else n)then(1099511627776:Int)else(if(0:Int)>n then(0:Int)else n)))=(decide (0<=n)&&decide (n<=1099511627776)):=by
 rw[Bool.eq_iff_iff];simp only[beq_iff_eq,Bool.and_eq_true,decide_eq_true_eq];constructor
 .intro h;(repeat' split at h)<;>omega
 .intro h;(repeat' split)<;>omega
theorem ZsI(e:Zab)(h:e.ok):Zht e=some (ZmD e):=by
 simp only[Zht,Zyp _ h.1,Zez,ZLS,ZmD,Option.bind_some];generalize Zme e.fEnd=b;cases b<;>simp only[cond_true,cond_false,Bool.true_and,Bool.false_and]
 all_goals
  simp only[Bool.cond_eq_ite,beq_iff_eq,bne_iff_ne,ne_eq,decide_eq_true_eq,Bool.not_eq_true',Bool.not_eq_false',decide_eq_false_iff_not]
  repeat' split
  all_goals first|rfl | (rw[Option.some.injEq,Bool.eq_iff_iff];simp only[Bool.and_eq_true,Bool.not_eq_true',Bool.not_eq_false',Bool.and_eq_false_iff,decide_eq_true_eq,decide_eq_false_iff_not,beq_iff_eq,bne_iff_ne,ne_eq,iff_true,iff_false,true_iff,false_iff,Bool.false_eq_true,Bool.true_eq_false,not_true_eq_false,not_false_eq_true];omega)
theorem Zob(e:Zab)(h:e.ok):ZdW e=some (ZmD e):=by
 simp only[ZdW,ZuE _ h.1,ZmD,Option.bind_some];generalize Zme e.fEnd=b;cases b<;>simp only[cond_true,cond_false,Bool.true_and,Bool.false_and];simp only[Bool.cond_eq_ite,beq_iff_eq,bne_iff_ne,ne_eq,decide_eq_true_eq,Bool.not_eq_true',Bool.not_eq_false',decide_eq_false_iff_not]
 repeat' split
 all_goals first|rfl | (rw[Option.some.injEq,Bool.eq_iff_iff];simp only[Bool.and_eq_true,Bool.not_eq_true',Bool.not_eq_false',Bool.and_eq_false_iff,decide_eq_true_eq,decide_eq_false_iff_not,beq_iff_eq,bne_iff_ne,ne_eq,iff_true,iff_false,true_iff,false_iff,Bool.false_eq_true,Bool.true_eq_false,not_true_eq_false,not_false_eq_true];omega)
def cmpE(a b:Zaj):Int:=orI (cmpA a.fAddr b.fAddr) (cmpI a.fPort b.fPort)
theorem ZzB(a b:Zaj):ZfM a b=some (cmpE a b):=by
 simp only[ZfM,ZEw,ZsK,or2,Option.bind_some,cmpE]
theorem ZsW(a b:Zaj):Zcs a b=some (cmpE a b):=by
 simp only[Zcs,ZDw,Option.bind_some,cmpE,orI,cmpI];simp only[Bool.cond_eq_ite,bne_iff_ne,ne_eq,ite_not,decide_eq_true_eq,beq_iff_eq];generalize cmpA a.fAddr b.fAddr=c
 (repeat' split)<;>first|rfl|omega | (congr 1;omega)|simp_all
theorem ZIp{a b:Zaj}:cmpE a b<0↔cmpA a.fAddr b.fAddr<0\/(a.fAddr=b.fAddr/\a.fPort<b.fPort):=by simp only[cmpE,ZxV,Zuz,Zpq]
theorem ZLo{a b:Zaj}:0<cmpE a b↔0<cmpA a.fAddr b.fAddr\/(a.fAddr=b.fAddr/\b.fPort<a.fPort):=by simp only[cmpE,ZxW,ZuA,Zpq]
theorem Zip{a b:Zaj}:cmpE a b=0↔a=b:=by
 simp only[cmpE,Zvm,ZjB,Zpq];obtain⟨x,p⟩:=a;obtain⟨y,q⟩:=b;simp
theorem ZhH{a b:Zaj}:0<cmpE a b↔cmpE b a<0:=by
 rw[ZLo,ZIp,ZBq];constructor<;>rintro (h|⟨d,e⟩)<;>first|exact .inl h|exact .inr ⟨d.symm,e⟩
theorem ZmZ{a b c:Zaj}(d:cmpE a b<0)(e:cmpE b c<0):cmpE a c<0:=by
 rw[ZIp]at *
 rcases d with d|⟨d,f⟩<;>rcases e with e|⟨e,g⟩
 .exact .inl (Zyv d e)
 .exact .inl (e ▸ d)
 .exact .inl (d ▸ e)
 .exact .inr ⟨d.trans e,by omega⟩
def Zjl(l:List Zab)(e:Zaj):Int:=ixOf (fun x=>decide (x.fEnd=e)) l 0
theorem ZBC(l:List Zab)(e:Zaj)(hl:l.length<=maxLen):Zkx l e=some (Zjl l e):=by
 simp only[Zkx,Zcj];rw[show ((0:Int))=((0:Nat):Int)from rfl];rw[Zua l Zab.d (fun x=>decide (x.fEnd=e)) hl (fun fu i=>ZaR l e fu (l.length:Int) i) (fun i=>i) ?_ ?_ _ 0 (by omega) (by omega)]
 .rfl
 .intro fu i b;simp only[ZaR,ZmQ,Zak,Option.bind_some];rw[if_pos (by omega),Zar ⟨by omega,by omega⟩];simp
 .intro fu;simp only[ZaR,Zak];rw[if_neg (by omega)]
theorem Zvj(l:List Zab)(e:Zaj)(hl:l.length<=maxLen):ZdD l e=some (Zjl l e):=by
 simp only[ZdD];rw[show ((0:Int))=((0:Nat):Int)from rfl];rw[Zua l Zab.d (fun x=>decide (x.fEnd=e)) hl (fun fu i=>ZcR l fu i e) (fun i=>i) ?_ ?_ _ 0 (by omega) (by omega)]
 .rfl
 .intro fu i b;simp only[ZcR,Zak];rw[if_pos (by omega),Zar ⟨by omega,by omega⟩];simp
 .intro fu;simp only[ZcR,Zak];rw[if_neg (by omega)]
def putS(l:List Zab)(e:Zab):List Zab:=l.takeWhile (fun x=>!decide (0<cmpE x.fEnd e.fEnd))++[e]++l.dropWhile (fun x=>!decide (0<cmpE x.fEnd e.fEnd))
def addS(l:List Zab)(e:Zab)(bw:Int):List Zab×Int:=if ZmD e then if 0<=Zjl l e.fEnd then([],7)else if(l.length:Int)>=bw then([],5)else(putS l e,0)else([],1)
theorem ZJN(l:List Zab)(h:l.length<=10000):ZbO l=some l:=by
 unfold ZbO;rw[Zar ⟨by omega,Zmb (by omega)⟩]
theorem ZKH(l:List Zab)(e:Zab)(h:l.length<=10000):∀fu (i:Nat),i<=l.length->l.length-i<fu ->
  ZdE l fu (i:Int) e=some (l.take i++putS (l.drop i) e,0):=by
 have j:l.length<=maxLen:=Zmb (by omega);have bu:∀i:Nat,i<=l.length->(need (0<=(i:Int)/\(i:Int)<=((l.length:Nat):Int)) <|
   need ((([]:List Zab)++(l.take (i:Int).toNat)).length * 56<=140737488355328/\(([]:List Zab)++(l.take (i:Int).toNat)).length<=maxLen) <|
   need (((([]:List Zab)++(l.take (i:Int).toNat))++([e]:List Zab)).length * 56<=140737488355328/\((([]:List Zab)++(l.take (i:Int).toNat))++([e]:List Zab)).length<=maxLen) <|
   need ((((([]:List Zab)++(l.take (i:Int).toNat))++([e]:List Zab))++(l.drop (i:Int).toNat)).length * 56<=140737488355328/\(((([]:List Zab)++(l.take (i:Int).toNat))++([e]:List Zab))++(l.drop (i:Int).toNat)).length<=maxLen) <|
   some ((((([]:List Zab)++(l.take (i:Int).toNat))++([e]:List Zab))++(l.drop (i:Int).toNat)),(0:Int)))=some (l.take i++[e]++l.drop i,0):=by
  intro i g;have b:∀n:Nat,n<=10001->n * 56<=140737488355328/\n<=maxLen:=fun n o=>⟨by omega,Zmb (by omega)⟩;rw[Zar ⟨by omega,by omega⟩,Zar (b _ (by simp;omega)),Zar (b _ (by simp;omega)),Zar (b _ (by simp;omega))];simp
 intro fu;induction fu with
 |zero=>intro i _ h;omega
 |succ fu ih=>
  intro i g p;simp only[ZdE,ZsW,Option.bind_some,Zak];by_cases hlt:i<l.length
  .rw[if_pos (by omega),Zar ⟨by omega,by omega⟩];have hd:=Zfv l Zab.d i hlt;by_cases f:cmpE (l.getD i Zab.d).fEnd e.fEnd<=0
   .rw[if_pos (by simpa using f),add1 hlt j,ih (i+1) (by omega) (by omega)];congr 2;unfold putS;rw[hd,List.takeWhile_cons,List.dropWhile_cons,if_pos (by simp;simpa using f),if_pos (by simp;simpa using f),List.take_succ_eq_append_getElem hlt];rw[Zcn l Zab.d i hlt];simp only[List.append_assoc,List.cons_append,List.nil_append]
   .rw[if_neg (by simpa using f),bu i g];congr 2;unfold putS;rw[hd,List.takeWhile_cons,List.dropWhile_cons,if_neg (by simp;simpa using f),if_neg (by simp;simpa using f)];simp
  .rw[if_neg (by omega),bu i g];have:l.drop i=[]:=List.drop_eq_nil_of_le (by omega);rw[this];simp[putS]
theorem ZKL(l:List Zab)(e:Zab)(bw:Int)(h:l.length<=10000)(f:e.ok):Zhy l e bw=some (addS l e bw):=by
 have g:l.length<=maxLen:=Zmb (by omega);simp only[Zhy,Zob e f,Zvj l _ g,Option.bind_some,addS];cases ZmD e
 .rfl
 .simp only[Bool.not_true,cond_false,if_true,Zak,ge_iff_le];by_cases b:0<=Zjl l e.fEnd
  .simp only[b,if_true]
  .simp only[b,if_false];by_cases d:bw<=(l.length:Int)
   .simp only[d,if_true]
   .simp only[d,if_false];have:=ZKH l e h ((((l.length:Nat):Int)-(0:Int)).toNat+2) 0 (by omega) (by omega);rw[show ((0:Nat):Int)=0 from rfl]at this;rw[this];rfl
def Zny(l:List Zab)(bI:Int):Int:=((l.countP fun x=>decide (x.fState=bI):Nat):Int)
theorem ZFP(l:List Zab)(bI:Int)(hl:l.length<=maxLen):ZkJ l bI=some (Zny l bI):=by
 simp only[ZkJ];have:=ZrD l Zab.d (fun x=>decide (x.fState=bI)) hl (fun fu n i=>ZeW bI fu n l (l.length:Int) i) (fun fu i n b=>by
   simp only[ZeW,Zak];rw[if_pos (by omega),Zar ⟨by omega,by omega⟩];simp only[Bool.cond_eq_ite,beq_iff_eq,Int.toNat_natCast,decide_eq_true_eq]) (fun fu n=>by
   simp only[ZeW,Zak];rw[if_neg (by omega)]) ((((l.length:Nat):Int)-(0:Int)).toNat+2) 0 0 (by omega) (by omega) (by omega)
 simpa[Zny]using this
theorem ZGG(l:List Zab)(bI:Int)(hl:l.length<=maxLen):Zgw l bI=some (Zny l bI):=by
 simp only[Zgw];have:=ZrD l Zab.d (fun x=>decide (x.fState=bI)) hl (fun fu n i=>Zcc l bI fu n i) (fun fu i n b=>by
   simp only[Zcc,Zak];rw[if_pos (by omega),Zar ⟨by omega,by omega⟩];simp only[Bool.cond_eq_ite,beq_iff_eq,Int.toNat_natCast,decide_eq_true_eq]) (fun fu n=>by
   simp only[Zcc,Zak];rw[if_neg (by omega)]) ((((l.length:Nat):Int)-(0:Int)).toNat+2) 0 0 (by omega) (by omega) (by omega)
 simpa[Zny]using this
def setS(l:List Zab)(e:Zab):List Zab:=if 0<=Zjl l e.fEnd then l.set (Zjl l e.fEnd).toNat e else l
theorem Zuw(l:List Zab)(e:Zaj):Zjl l e<(l.length:Int):=by
 have:=ZHk (fun x:Zab=>decide (x.fEnd=e)) l 0;simpa[Zjl]using this
theorem ZJR(l:List Zab)(e:Zab)(h:l.length<=10000):ZmY l e=some (setS l e):=by
 have b:l.length<=maxLen:=Zmb (by omega);have:=Zuw l e.fEnd;simp only[ZmY,ZJN l h,ZBC l _ b,Option.bind_some,Zak,setS,ge_iff_le];split
 .rename_i d;rw[Zar ⟨d,this⟩]
 .rfl
theorem ZvN(l:List Zab)(e:Zab)(h:l.length<=10000):Zdx l e=some (setS l e):=by
 have b:l.length<=maxLen:=Zmb (by omega);have:=Zuw l e.fEnd;simp only[Zdx,Zvj l _ b,Option.bind_some,Zak,setS,List.nil_append];split
 .rename_i d;rw[if_neg (by omega)]
 .rename_i d;rw[Zar ⟨by omega,b⟩,Zar ⟨by omega,this⟩,if_pos (by omega)]
theorem ZJk(l:List Zab)(e:Zab):(putS l e).length=l.length+1:=by
 unfold putS;have:=congrArg List.length (List.takeWhile_append_dropWhile (p:=fun x:Zab=>!decide (0<cmpE x.fEnd e.fEnd)) (l:=l));simp only[List.length_append,List.length_cons,List.length_nil]at this ⊢;omega
theorem ZJY(l:List Zab)(e:Zab)(bw:Int):(addS l e bw).1.length<=l.length+1:=by
 unfold addS
 repeat' split
 all_goals simp[ZJk]
theorem ZyG(l:List Zab)(e:Zab):(setS l e).length=l.length:=by
 unfold setS;split<;>simp
theorem ZLs(l:List Zaj)(e:Zaj)(hl:l.length<=maxLen):Zhx l e=some (l.contains e):=by
 simp only[Zhx];have:=Zua l Zaj.d (fun x=>decide (x=e)) hl (fun fu i=>Zdb l fu i e) (fun i=>decide (0<=i)) (fun fu i n=>by
   simp only[Zdb,Zak];rw[if_pos (by omega),Zar ⟨by omega,by omega⟩];simp) (fun fu=>by
   simp only[Zdb,Zak];rw[if_neg (by omega)];rfl) ((((l.length:Nat):Int)-(0:Int)).toNat+2) 0 (by omega) (by omega)
 simp only[Int.natCast_zero,List.drop_zero]at this;rw[this];congr 1;rw[Bool.eq_iff_iff,decide_eq_true_eq,List.contains_iff_mem];have f:=ZrG (fun x=>decide (x=e)) l 0;constructor
 .intro h;obtain⟨k,b,_,⟨x,g,j⟩,_⟩:=ZnV _ l 0 h;rw[<-of_decide_eq_true j];exact List.mem_of_getElem? g
 .intro h;apply Int.not_lt.1;intro b;have:=f.1 b e h;simp at this
def ZxG(ends:List Zaj)(x:Zab):Zab:=if x.fState=3 then(if ends.contains x.fEnd then⟨x.fEnd,1,x.fFails,x.fNext⟩else x)else x
theorem ZDn{α:Type}(l:List α)(d:α)(i:Nat)(h:i<l.length):l.set i (l.getD i d)=l:=by
 apply List.ext_getElem?;intro k;rw[List.getElem?_set];split
 .rename_i e;subst e;rw[Zcn l d i h,List.getElem?_eq_getElem h]
 .rfl
theorem ZDv(l:List Zab)(ends:List Zaj)(h:l.length<=10000)(b:ends.length<=maxLen):Zev l ends=some (l.map (ZxG ends)):=by
 simp only[Zev,List.nil_append];rw[Zar ⟨by omega,Zmb (by omega)⟩];have:=ZJu (ZxG ends) Zab.d l.length (Zmb (by omega)) (fun fu i w=>ZbZ ends fu i w) some (fun fu i w e f=>by
   simp only[ZbZ,Zak,ZLs ends _ b,Option.bind_some];rw[if_pos (by omega),Zar ⟨by omega,by omega⟩];simp only[Int.toNat_natCast,ZxG,Bool.cond_eq_ite,beq_iff_eq];split
   .split
    .rfl
    .rw[ZDn w _ i (by omega)]
   .rw[ZDn w _ i (by omega)]) (fun fu w e=>by
   simp only[ZbZ,Zak];rw[if_neg (by omega)]) ((((l.length:Nat):Int)-(0:Int)).toNat+2) 0 l rfl (by omega) (by omega)
 simpa using this
theorem ZwC{l:List Zab}{e:Zaj}:Zjl l e<0↔∀x∈l,x.fEnd≠e:=by
 unfold Zjl;rw[ZrG];simp
theorem ZsR{α:Type}(p:α->Bool):∀(l:List α){x:α},x∈l.takeWhile p->p x=true
 | [],x,h=>by simp at h
 |y :: r,x,h=>by
  rw[List.takeWhile_cons]at h
  split at h
  .rename_i b
   rcases List.mem_cons.1 h with rfl|h
   .exact b
   .exact ZsR p r h
  .cases h
theorem ZKB{l:List Zab}{e:Zab}(h:∀x∈l,x.ok)(b:e.ok):∀x∈setS l e,x.ok:=by
 unfold setS;split
 .intro x hx;rcases List.mem_or_eq_of_mem_set hx with hx|rfl
  .exact h x hx
  .exact b
 .exact h
def fitI(n:Int):Int:=if n<0 then 0 else if n>1099511627776 then 1099511627776 else n
theorem Zmc(n:Int):Zez n=some (fitI n):=by
 unfold Zez fitI;congr 1
 repeat' split
 all_goals omega
theorem ZkO(n:Int):Zbn n=some (fitI n):=by
 unfold Zbn fitI;simp only[Zak]
 repeat' split
 all_goals first|rfl|omega
theorem ZjA(n:Int):0<=fitI n/\fitI n<=1099511627776:=by
 unfold fitI
 repeat' split
 all_goals omega
theorem ZFZ(p:Zaa)(n:Int):∃q,Zlb p n=some q/\ZeD p n=some q:=by
 unfold Zlb ZeD;simp only[Zmc,ZkO,Option.bind_some,Zak];refine⟨_,rfl,?_⟩;split
 .rfl
 .rfl
theorem ZKM(p:Zaa)(n:Int):∃q,Znk p n=some q/\ZfE p n=some q:=by
 unfold Znk ZfE;simp only[Zak];by_cases f:n<1
 .rw[if_neg (by omega),if_pos f];exact⟨_,rfl,rfl⟩
 .rw[if_pos (by omega),if_neg f];by_cases g:n>1048576
  .rw[if_neg (by omega),if_pos g];exact⟨_,rfl,rfl⟩
  .rw[if_pos (by omega),if_neg g];by_cases b:p.fPing=0
   .have d:(p.fPing==0)=true:=by simp[b]
    have e:(p.fPing != 0)=false:=by simp[b]
    rw[d,e];exact⟨_,rfl,rfl⟩
   .have d:(p.fPing==0)=false:=by simp[b]
    have e:(p.fPing != 0)=true:=by simp[b]
    rw[d,e];simp only[cond_false,cond_true];by_cases h:n<p.fPing
    .rw[if_pos h,if_neg (by omega)];exact⟨_,rfl,rfl⟩
    .rw[if_neg h,if_pos (by omega)];exact⟨_,rfl,rfl⟩
theorem ZEZ(k:Int):∃q,ZkY k=some q/\Zej k=some q/\0<=q/\q<=100:=by
 unfold ZkY Zej;simp only[Zak];by_cases i:k<0
 .rw[if_pos i];have b:(k==1)=false:=by simp;omega
  have d:(k==2)=false:=by simp;omega
  have e:(k==3)=false:=by simp;omega
  have f:(k==4)=false:=by simp;omega
  have g:(k==5)=false:=by simp;omega
  rw[b,d,e,f,g];exact⟨0,rfl,rfl,by omega,by omega⟩
 .rw[if_neg i];by_cases j:k>=6
  .rw[if_pos j];have b:(k==1)=false:=by simp;omega
   have d:(k==2)=false:=by simp;omega
   have e:(k==3)=false:=by simp;omega
   have f:(k==4)=false:=by simp;omega
   have g:(k==5)=false:=by simp;omega
   rw[b,d,e,f,g];exact⟨0,rfl,rfl,by omega,by omega⟩
  .rw[if_neg j];obtain h|h|h|h|h|h:k=0\/k=1\/k=2\/k=3\/k=4\/k=5:=by omega
   all_goals subst h;exact⟨_,rfl,rfl,by decide,by decide⟩
def ZmC(l:List Zaa)(e:Zaj):Int:=ixOf (fun x=>decide (x.fEnd=e)) l 0
theorem Zna(l:List Zaa)(e:Zaj)(hl:l.length<=maxLen):Zca l e=some (ZmC l e):=by
 simp only[Zca];have:=Zua l Zaa.d (fun x=>decide (x.fEnd=e)) hl (fun fu i=>ZcG l fu i e) (fun i=>i) (fun fu i b=>by
   simp only[ZcG,Zak];rw[if_pos (by omega),Zar ⟨by omega,by omega⟩];simp) (fun fu=>by
   simp only[ZcG,Zak];rw[if_neg (by omega)]) ((((l.length:Nat):Int)-(0:Int)).toNat+2) 0 (by omega) (by omega)
 simp only[Int.natCast_zero,List.drop_zero]at this;rw[this];rfl
def wid(a:Zah):Nat:=if a.fV6 then 128 else 32
def num(a:Zah):Nat:=if a.fV6 then 2 ^ 64*a.fHi.toNat+a.fLo.toNat else a.fLo.toNat
def bitN(a:Zah)(i:Nat):Bool:=(num a).testBit (wid a-1-i)
structure Fits (a:Zah):Prop where
 hi0:0<=a.fHi
 hi1:a.fHi<=18446744073709551615
 lo0:0<=a.fLo
 lo1:a.fLo<=18446744073709551615
 v4:a.fV6=false->a.fHi=0/\a.fLo<4294967296
theorem Zrl{a:Zah}(h:a.ok)(b:Zdj a=true):Fits a:=by
 have d:=ZjS h.2.1;have e:=ZjS h.2.2.1;refine⟨d.1,d.2,e.1,e.2,fun f=>?_⟩;unfold Zdj at b;rw[f]at b;simpa using b
theorem Fits.ok{a:Zah}(h:Fits a):a.ok:=by
 refine⟨trivial,?_,?_,trivial⟩
 .have:=h.hi0;have:=h.hi1;simp only[okI,Lit.wf,IntKind.min,IntKind.max,IntKind.bits,IntKind.signed];simp;omega
 .have:=h.lo0;have:=h.lo1;simp only[okI,Lit.wf,IntKind.min,IntKind.max,IntKind.bits,IntKind.signed];simp;omega
theorem ZKf{a:Zah}(h:Fits a):num a<2 ^ wid a:=by
 have:=h.hi0;have:=h.hi1;have:=h.lo0;have:=h.lo1;unfold num wid;cases b:a.fV6
 .have:=h.v4 b;simp only[Bool.false_eq_true,if_false];omega
 .simp only[if_true];omega
theorem ZvA{a b:Zah}(d:Fits a)(hb:Fits b)(e:a.fV6=b.fV6)(h:∀i,i<wid a->bitN a i=bitN b i):a=b:=by
 have f:num a=num b:=by
  apply Nat.eq_of_testBit_eq;intro j;have g:wid a=wid b:=by unfold wid;rw[e]
  by_cases n:j<wid a
  .have:=h (wid a-1-j) (by omega);unfold bitN at this;rw[<-g]at this;rw[show wid a-1-(wid a-1-j)=j by omega]at this;exact this
  .rw[Nat.testBit_lt_two_pow (Nat.lt_of_lt_of_le (ZKf d) (Nat.pow_le_pow_right (by omega) (by omega))),Nat.testBit_lt_two_pow (Nat.lt_of_lt_of_le (ZKf hb) (Nat.pow_le_pow_right (by omega) (by omega)))]
 have:=d.hi0;have:=d.hi1;have:=d.lo0;have:=d.lo1;have:=hb.hi0;have:=hb.hi1;have:=hb.lo0;have:=hb.lo1;obtain⟨v,o,lo⟩:=a;obtain⟨v',cw,ku⟩:=b;simp only at e;subst e;simp only[num]at f;simp only[Zah.mk.injEq,true_and];cases v
 .have:=d.v4 rfl;have:=hb.v4 rfl;simp only[Bool.false_eq_true,if_false]at *
  omega
 .simp only[if_true]at *
  omega
theorem ZzH(n k T:Nat)(f:k<=T)(h:n<2 ^ T):n &&& (2 ^ T-2 ^ k)=n-n % 2 ^ k:=by
 have d:n-n % 2 ^ k=2 ^ k*(n / 2 ^ k):=by have:=Nat.div_add_mod n (2 ^ k);omega
 rw[d];apply Nat.eq_of_testBit_eq;intro i;have e:2 ^ T-2 ^ k=2 ^ k*(2 ^ (T-k)-1):=by
  rw[Nat.mul_sub,<-Nat.pow_add,Nat.mul_one];congr 2;omega
 rw[Nat.testBit_and,e,Nat.testBit_two_pow_mul,Nat.testBit_two_pow_mul,Nat.testBit_two_pow_sub_one,Nat.testBit_div_two_pow];by_cases b:k<=i
 .by_cases g:i<T
  .simp[b,show i-k<T-k by omega,show i-k+k=i by omega]
  .have:n.testBit i=false:=Nat.testBit_lt_two_pow (Nat.lt_of_lt_of_le h (Nat.pow_le_pow_right (by omega) (by omega)));simp[b,this,show i-k+k=i by omega]
 .simp[b]
theorem ZCW(n k j:Nat):(n-n % 2 ^ k).testBit j=(decide (k<=j)&&n.testBit j):=by
 have b:n-n % 2 ^ k=2 ^ k*(n / 2 ^ k):=by have:=Nat.div_add_mod n (2 ^ k);omega
 rw[b,Nat.testBit_two_pow_mul,Nat.testBit_div_two_pow];by_cases h:k<=j
 .simp[h,show j-k+k=j by omega]
 .simp[h]
theorem ZrO(a b:Nat)(d:a<2 ^ 64)(hb:b<2 ^ 64):IntKind.u64.wrap (((BitVec.ofInt (IntKind.bits .u64) (a:Int)) &&& (BitVec.ofInt (IntKind.bits .u64) (b:Int))).toNat:Int)=((a &&& b:Nat):Int):=by
 rw[ZDg a b d hb];have:a &&& b<2 ^ 64:=Nat.and_lt_two_pow _ hb;exact ZhU (by omega) (by omega)
theorem ZLC:∀n:Fin 65,ZfG ((n.val:Nat):Int)=some (((2 ^ 64-2 ^ (64-n.val):Nat)):Int):=by decide +kernel
theorem ZzT(n:Nat)(h:n<=64):ZfG ((n:Nat):Int)=some (((2 ^ 64-2 ^ (64-n):Nat)):Int):=ZLC ⟨n,by omega⟩
theorem ZzU(n:Int):ZfG n=ZfG (if(64:Int)<(if(0:Int)>n then(0:Int)else n)then(64:Int)else(if(0:Int)>n then(0:Int)else n)):=by
 unfold ZfG;have e:∀m:Int,0<=m->m<=64->(if(64:Int)<(if(0:Int)>m then(0:Int)else m)then(64:Int)else(if(0:Int)>m then(0:Int)else m))=m:=fun m b d=>by
  repeat' split
  all_goals omega
 rw[e (if(64:Int)<(if(0:Int)>n then(0:Int)else n)then(64:Int)else(if(0:Int)>n then(0:Int)else n)) (by repeat' split<;>omega) (by repeat' split<;>omega)]
theorem ZKu(n:Int)(h:n<=0):ZfG n=some 0:=by
 rw[ZzU,show (if(64:Int)<(if(0:Int)>n then(0:Int)else n)then(64:Int)else(if(0:Int)>n then(0:Int)else n))=((0:Nat):Int)by repeat' split<;>omega,ZzT 0 (by omega)]
 rfl
theorem ZIN(n:Int)(h:64<=n):ZfG n=some 18446744073709551615:=by
 rw[ZzU,show (if(64:Int)<(if(0:Int)>n then(0:Int)else n)then(64:Int)else(if(0:Int)>n then(0:Int)else n))=((64:Nat):Int)by repeat' split<;>omega,ZzT 64 (by omega)]
 rfl
def ZkQ(a:Zah)(n:Nat):Zah:=if a.fV6 then(if n<=64 then⟨true,((a.fHi.toNat-a.fHi.toNat % 2 ^ (64-n):Nat):Int),0⟩else⟨true,a.fHi,((a.fLo.toNat-a.fLo.toNat % 2 ^ (128-n):Nat):Int)⟩)else⟨false,a.fHi,((a.fLo.toNat-a.fLo.toNat % 2 ^ (32-n):Nat):Int)⟩
theorem ZHd{a:Zah}(h:a.ok)(f:Zdj a=true)(n:Nat)(d:n<=wid a):ZiM a (n:Int)=some (ZkQ a n):=by
 have b:=Zrl h f;have fC:=ZkK a h;have o:=b.hi0;have r:=b.hi1;have t:=b.lo0;have u:=b.lo1;obtain⟨v,C,lo⟩:=a;obtain⟨p,e⟩:=ZjX b.hi0;obtain⟨q,g⟩:=ZjX b.lo0;simp only at e g o r t u;subst e g;cases v with
 |false=>
  have y:=b.v4 rfl;simp only at y;have d:n<=32:=d;have db:(if(32:Int)<(if(0:Int)>(n:Int)then(0:Int)else(n:Int))then(32:Int)else(if(0:Int)>(n:Int)then(0:Int)else(n:Int)))=(n:Int):=by repeat' split<;>omega
  simp only[ZiM,fC,f,Option.bind_some,Bool.not_true,cond_false,Zex,Bool.not_false,cond_true,db,ZzT n (by omega)];have e:(2:Nat) ^ (64-n)=2 ^ 32 * 2 ^ (32-n):=by rw[<-Nat.pow_add];congr 1;omega
  have aX:(2:Nat) ^ (32-n)<=2 ^ 32:=Nat.pow_le_pow_right (by omega) (by omega);have gD:0<(2:Nat) ^ (32-n):=Nat.pow_pos (by omega);have hd:(2 ^ 64-2 ^ (64-n):Nat) / 4294967296=2 ^ 32-2 ^ (32-n):=by
   rw[e];generalize (2:Nat) ^ (32-n)=z at *
   omega
  have A:Int.fdiv ((2 ^ 64-2 ^ (64-n):Nat):Int) (2 ^ (min (32:Int).toNat (IntKind.bits .u64)))=((2 ^ 32-2 ^ (32-n):Nat):Int):=by
   rw[show (2:Int) ^ (min (32:Int).toNat (IntKind.bits .u64))=4294967296 from rfl,Int.fdiv_eq_ediv_of_nonneg _ (by omega),<-hd];rfl
  rw[A,ZrO q _ (by omega) (by generalize (2:Nat) ^ (32-n)=z at *;omega),ZzH q (32-n) 32 (by omega) (by omega)];simp[ZkQ]
 |true=>
  have d:n<=128:=d;have db:(if(128:Int)<(if(0:Int)>(n:Int)then(0:Int)else(n:Int))then(128:Int)else(if(0:Int)>(n:Int)then(0:Int)else(n:Int)))=(n:Int):=by repeat' split<;>omega
  simp only[ZiM,fC,f,Option.bind_some,Bool.not_true,cond_false,Zex,cond_true,db,Zlp];have B:ZaG (n:Int) 64=(n:Int)-64:=ZcO (by omega) (by omega);rw[B];by_cases h64:n<=64
  .rw[ZzT n h64,ZKu _ (by omega)];simp only[Option.bind_some];rw[ZrO p _ (by omega) (by have:=Nat.pow_pos (a:=2) (n:=64-n) (by omega);omega),ZzH p (64-n) 64 (by omega) (by omega)];have:=ZrO q 0 (by omega) (by omega);rw[Nat.and_zero]at this;rw[show (0:Int)=((0:Nat):Int)from rfl,this];simp[ZkQ,h64]
  .rw[ZIN _ (by omega),show (n:Int)-64=((n-64:Nat):Int)by omega,ZzT (n-64) (by omega)];simp only[Option.bind_some];have i:=ZrO p 18446744073709551615 (by omega) (by omega);have j:=ZzH p 0 64 (by omega) (by omega);rw[show (2:Nat) ^ 64-2 ^ 0=18446744073709551615 from rfl,Nat.pow_zero,Nat.mod_one,Nat.sub_zero]at j;rw[j]at i;rw[show (18446744073709551615:Int)=((18446744073709551615:Nat):Int)from rfl,i];rw[show 64-(n-64)=128-n by omega,ZrO q _ (by omega) (by have:=Nat.pow_pos (a:=2) (n:=128-n) (by omega);omega),ZzH q (128-n) 64 (by omega) (by omega)];simp[ZkQ,h64]
theorem ZkP(a:Zah)(n:Nat):(ZkQ a n).fV6=a.fV6:=by
 unfold ZkQ;cases h:a.fV6
 .rfl
 .simp only[if_true];split<;>rfl
theorem ZlJ{a:Zah}(h:Fits a)(n:Nat):Fits (ZkQ a n):=by
 have:=h.hi0;have:=h.hi1;have:=h.lo0;have:=h.lo1;have l:∀x y:Nat,x-x % y<=x:=fun x y=>Nat.sub_le _ _;have l1:=l a.fHi.toNat (2 ^ (64-n));have l2:=l a.fLo.toNat (2 ^ (128-n));have l3:=l a.fLo.toNat (2 ^ (32-n));unfold ZkQ;cases b:a.fV6
 .have:=h.v4 b;simp only[Bool.false_eq_true,if_false];exact⟨by simp only;omega,by simp only;omega,by simp only;omega,by simp only;omega,fun _=>⟨this.1,by simp only;omega⟩⟩
 .simp only[if_true];split
  .exact⟨by simp only;omega,by simp only;omega,by simp only;omega,by simp only;omega,fun h=>by simp at h⟩
  .exact⟨by simp only;omega,by simp only;omega,by simp only;omega,by simp only;omega,fun h=>by simp at h⟩
theorem Zpw{b lo j:Nat}(hl:lo<2 ^ 64):(2 ^ 64*b+lo).testBit j=if j<64 then lo.testBit j else b.testBit (j-64):=Nat.testBit_two_pow_mul_add b hl j
theorem ZmS{a:Zah}(h:Fits a)(n i:Nat)(e:n<=wid a)(f:i<wid a):bitN (ZkQ a n) i=(decide (i<n)&&bitN a i):=by
 have j:=h.hi0;have o:=h.hi1;have p:=h.lo0;have r:=h.lo1;unfold bitN;have g:wid (ZkQ a n)=wid a:=by unfold wid;rw[ZkP]
 rw[g];unfold wid at e f ⊢;unfold num ZkQ;cases d:a.fV6
 .simp only[d,Bool.false_eq_true,if_false]at *
  rw[Int.toNat_natCast,ZCW];congr 1;rw[decide_eq_decide];omega
 .simp only[d,if_true]at *
  have jW:a.fLo.toNat<2 ^ 64:=by omega
  by_cases h64:n<=64
  .simp only[h64,if_true,Int.toNat_natCast];rw[Zpw (by simp),Zpw jW];by_cases b:128-1-i<64
   .simp only[b,if_true];rw[show (decide (i<n))=false by rw[decide_eq_false_iff_not];omega];simp
   .simp only[b,if_false];rw[ZCW];congr 1;rw[decide_eq_decide];omega
  .simp only[h64,if_false,if_true,Int.toNat_natCast];rw[Zpw (Nat.lt_of_le_of_lt (Nat.sub_le _ _) jW),Zpw jW];by_cases b:128-1-i<64
   .simp only[b,if_true];rw[ZCW];congr 1;rw[decide_eq_decide];omega
   .simp only[b,if_false];rw[show (decide (i<n))=true by rw[decide_eq_true_eq];omega];simp
theorem ZFi{a:Zah}(h:Fits a)(hr:Zdj a=true)(n:Nat):Zdj (ZkQ a n)=true:=by
 have f:=h.hi0;have g:=h.hi1;have i:=h.lo0;have j:=h.lo1;unfold ZkQ;cases d:a.fV6
 .have:=h.v4 d;have l3:a.fLo.toNat-a.fLo.toNat % 2 ^ (32-n)<=a.fLo.toNat:=Nat.sub_le _ _;simp[Zdj,this.1];omega
 .simp only[if_true];split
  .simp[Zdj]
  .rename_i h64;unfold Zdj at hr ⊢;rw[d]at hr;simp only[if_true,Bool.not_eq_true',Bool.and_eq_false_iff,decide_eq_false_iff_not]at hr ⊢;rcases hr with hr|hr
   .exact .inl hr
   .refine .inr fun e=>hr ?_;have e':(a.fLo.toNat-a.fLo.toNat % 2 ^ (128-n)) / 4294967296=65535:=by omega
    have hx:a.fLo.toNat-a.fLo.toNat % 2 ^ (128-n)=2 ^ (128-n)*(a.fLo.toNat / 2 ^ (128-n)):=by have:=Nat.div_add_mod a.fLo.toNat (2 ^ (128-n));omega
    rw[hx]at e';by_cases o:128-n<=32
    .have b:(4294967296:Nat)=2 ^ (128-n) * 2 ^ (32-(128-n)):=by
      rw[<-Nat.pow_add,show 128-n+(32-(128-n))=32 by omega]
     rw[b,Nat.mul_div_mul_left _ _ (Nat.pow_pos (by omega)),Nat.div_div_eq_div_mul,<-b]at e';omega
    .have b:(2:Nat) ^ (128-n)=4294967296*(2 * 2 ^ (128-n-33)):=by
      rw[show (4294967296:Nat)*(2 * 2 ^ (128-n-33))=2 ^ 33 * 2 ^ (128-n-33)by omega,<-Nat.pow_add];congr 1;omega
     rw[b,Nat.mul_assoc,Nat.mul_div_cancel_left _ (by omega),Nat.mul_assoc]at e';omega
def ZiN(p:Zae):Bool:=Zdj p.fAddr&&decide (0<=p.fBits)&&decide (p.fBits<=(wid p.fAddr:Int))&&decide (ZkQ p.fAddr p.fBits.toNat=p.fAddr)
structure RN (p:Zae):Prop where
 ok:p.fAddr.ok
 right:Zdj p.fAddr=true
 nn:0<=p.fBits
 le:p.fBits<=(wid p.fAddr:Int)
 cut:ZkQ p.fAddr p.fBits.toNat=p.fAddr
theorem RN.fits{p:Zae}(h:RN p):Fits p.fAddr:=Zrl h.ok h.right
theorem ZxN{p:Zae}(h:p.fAddr.ok):ZiN p=true↔RN p:=by
 unfold ZiN;simp only[Bool.and_eq_true,decide_eq_true_eq];exact⟨fun⟨⟨⟨a,b⟩,c⟩,d⟩=>⟨h,a,b,c,d⟩,fun⟨_,a,b,c,d⟩=>⟨⟨⟨a,b⟩,c⟩,d⟩⟩
theorem ZIy(a:Zah):Zex a=some (wid a:Int):=by
 unfold Zex wid;cases a.fV6<;>rfl
theorem ZHf(a:Zah)(h:a.ok)(n:Int):Zhb a n=some (if Zdj a=true/\0<=n/\n<=(wid a:Int)then(⟨ZkQ a n.toNat,n⟩,true)else(⟨⟨false,0,0⟩,0⟩,false)):=by
 simp only[Zhb,ZkK a h,ZIy,Option.bind_some,Zak];cases d:Zdj a
 .simp
 .simp only[Bool.not_true,cond_false,true_and];by_cases h0:n<0
  .rw[if_pos h0,if_neg (by omega)]
  .rw[if_neg h0];by_cases b:n>(wid a:Int)
   .rw[if_pos b,if_neg (by omega)]
   .rw[if_neg b,if_pos (by omega)];have:=ZHd h d n.toNat (by omega);rw[Int.toNat_of_nonneg (by omega)]at this;rw[this];rfl
theorem Zpr(p:Zae)(h:p.fAddr.ok):ZhE p=some (ZiN p):=by
 simp only[ZhE,ZHf _ h,Option.bind_some];unfold ZiN;split
 .rename_i b;simp only[cond_true,b.1,b.2.1,b.2.2,decide_true,Bool.true_and,Option.some.injEq];rw[decide_eq_decide];obtain⟨x,n⟩:=p;simp
 .rename_i b;simp only[cond_false,Option.some.injEq];rw[eq_comm,Bool.eq_false_iff];intro d;simp only[Bool.and_eq_true,decide_eq_true_eq]at d;exact b ⟨d.1.1.1,d.1.1.2,d.1.2⟩
def bs(p:Zae):List Bool:=(List.range p.fBits.toNat).map (bitN p.fAddr)
theorem ZKp(p:Zae):(bs p).length=p.fBits.toNat:=by simp[bs]
theorem ZKq(p:Zae)(i:Nat)(h:i<p.fBits.toNat):(bs p)[i]?=some (bitN p.fAddr i):=by simp[bs,h]
theorem ZGu{p:Zae}(h:RN p)(i:Nat)(d:i<wid p.fAddr)(e:p.fBits.toNat<=i):bitN p.fAddr i=false:=by
 have b:=ZmS h.fits p.fBits.toNat i (by have:=h.le;omega) d;rw[h.cut]at b;rw[b];rw[show decide (i<p.fBits.toNat)=false by rw[decide_eq_false_iff_not];omega];rfl
theorem ZLH{p q:Zae}(b:RN p)(d:RN q)(e:p.fAddr.fV6=q.fAddr.fV6)(hb:bs p=bs q):p=q:=by
 have r:wid p.fAddr=wid q.fAddr:=by unfold wid;rw[e]
 have f:p.fBits=q.fBits:=by
  have:=congrArg List.length hb;rw[ZKp,ZKp]at this;have:=b.nn;have:=d.nn;omega
 have g:p.fAddr=q.fAddr:=by
  refine ZvA b.fits d.fits e fun i o=>?_;by_cases h:i<p.fBits.toNat
  .have j:=ZKq p i h;rw[hb,ZKq q i (by omega)]at j;exact(Option.some.inj j).symm
  .rw[ZGu b i o (by omega),ZGu d i (by omega) (by omega)]
 obtain⟨x,n⟩:=p;obtain⟨y,m⟩:=q;simp only at f g;rw[f,g]
theorem ZKE{a:Zah}(h:a.ok)(e:Zdj a=true)(n:Nat)(f:n<=wid a):RN ⟨ZkQ a n,(n:Int)⟩/\bs ⟨ZkQ a n,(n:Int)⟩=(List.range n).map (bitN a):=by
 have d:=Zrl h e;have g:wid (ZkQ a n)=wid a:=by unfold wid;rw[ZkP]
 refine⟨⟨(ZlJ d n).ok,ZFi d e n,by simp only;omega,by simp only;omega,?_⟩,?_⟩
 .simp only[Int.toNat_natCast];refine ZvA (ZlJ (ZlJ d n) n) (ZlJ d n) (ZkP _ _) fun i b=>?_;have b:i<wid a:=by unfold wid at b ⊢;rwa [ZkP,ZkP]at b
  rw[ZmS (ZlJ d n) n i (by omega) (by omega),ZmS d n i f b];cases decide (i<n)<;>simp
 .unfold bs;simp only[Int.toNat_natCast];apply List.map_congr_left;intro i b;have b:i<n:=by simpa using b
  rw[ZmS d n i f (by omega),show decide (i<n)=true by rw[decide_eq_true_eq];exact b];rfl
theorem ZLP(p:Zae)(a:Zah)(b:RN p)(g:a.ok):Zpk p a=some (Zdj a&&decide (p.fAddr.fV6=a.fV6)&&decide (∀i,i<p.fBits.toNat->bitN a i=bitN p.fAddr i)):=by
 have hrc:=(ZxN b.ok).2 b;simp only[Zpk,Zpr p b.ok,hrc,ZkK a g,Option.bind_some,cond_true];cases n:Zdj a
 .rfl
 .simp only[cond_true,Bool.true_and];by_cases d:p.fAddr.fV6=a.fV6
  .have t:wid p.fAddr=wid a:=by unfold wid;rw[d]
   have o:=ZHd g n p.fBits.toNat (by have:=b.le;omega);rw[Int.toNat_of_nonneg b.nn]at o;have j:=Zrl g n;rw[show (p.fAddr.fV6==a.fV6)=true by simp[d],cond_true,o,decide_eq_true d];simp only[Option.bind_some,Bool.true_and,Option.some.injEq];rw[decide_eq_decide];have hle:p.fBits.toNat<=wid a:=by have:=b.le;omega
   constructor
   .intro e i f;have r:=ZmS j p.fBits.toNat i hle (by omega);rw[e,decide_eq_true f]at r;simpa using r.symm
   .intro h;refine ZvA (ZlJ j _) b.fits (by rw[ZkP];exact d.symm) fun i f=>?_;have f:i<wid a:=by unfold wid at f ⊢;rwa [ZkP]at f
    rw[ZmS j p.fBits.toNat i hle f];by_cases hb:i<p.fBits.toNat
    .rw[decide_eq_true hb,h i hb];rfl
    .rw[decide_eq_false hb,ZGu b i (by omega) (by omega)];rfl
  .rw[show (p.fAddr.fV6==a.fV6)=false by simp[d],cond_false,decide_eq_false d];rfl
theorem ZuB(n k:Nat)(g:k<64)(b:n<2 ^ 64):IntKind.i64.wrap (IntKind.u64.wrap (((BitVec.ofInt (IntKind.bits .u64) (Int.fdiv (n:Int) (2 ^ (min ((k:Nat):Int).toNat (IntKind.bits .u64))))) &&& (BitVec.ofInt (IntKind.bits .u64) (1:Int))).toNat:Int))=if n.testBit k then 1 else 0:=by
 rw[Int.toNat_natCast,show min k (IntKind.bits .u64)=k from Nat.min_eq_left (by simp[IntKind.bits];omega)];have e:Int.fdiv (n:Int) (2 ^ k)=((n / 2 ^ k:Nat):Int):=by
  rw[Int.fdiv_eq_ediv_of_nonneg _ (by have:(0:Int)<2 ^ k:=Int.pow_pos (by omega);omega)];simp
 have d:n / 2 ^ k<2 ^ 64:=Nat.lt_of_le_of_lt (Nat.div_le_self _ _) b;rw[e,show (1:Int)=((1:Nat):Int)from rfl,ZrO _ 1 d (by omega),Nat.and_one_is_mod,Nat.testBit_eq_decide_div_mod_eq];have h:n / 2 ^ k % 2<2:=Nat.mod_lt _ (by omega);have f:IntKind.i64.wrap ((n / 2 ^ k % 2:Nat):Int)=((n / 2 ^ k % 2:Nat):Int):=by
  simp only[IntKind.wrap,IntKind.bits,IntKind.signed];simp;omega
 rw[f];simp only[decide_eq_true_eq];split<;>omega
theorem ZIH{a:Zah}(h:Fits a)(i:Nat)(b:i<wid a):Zin a (i:Int)=some (if bitN a i then 1 else 0):=by
 have g:=h.hi0;have j:=h.hi1;have n:=h.lo0;have o:=h.lo1;obtain⟨v,cw,lo⟩:=a;obtain⟨p,d⟩:=ZjX h.hi0;obtain⟨q,f⟩:=ZjX h.lo0;simp only at d f g j n o;subst d f;cases v with
 |false=>
  have b:i<32:=b;have r:=h.v4 rfl;simp only at r;have e:ZaG (ZaG (32:Int) 1) (i:Int)=((31-i:Nat):Int):=by rw[show ZaG (32:Int) 1=31 from rfl,ZcO (by omega) (by omega)];omega
  simp only[Zin,Zex,cond_false,Option.bind_some,Zak,e];rw[if_neg (by omega),if_neg (by omega),if_neg (by omega),Zar (by omega),ZuB q _ (by omega) (by omega)];rfl
 |true=>
  have b:i<128:=b;have e:ZaG (ZaG (128:Int) 1) (i:Int)=((127-i:Nat):Int):=by rw[show ZaG (128:Int) 1=127 from rfl,ZcO (by omega) (by omega)];omega
  simp only[Zin,Zex,cond_true,Option.bind_some,Zak,e];rw[if_neg (by omega),if_neg (by omega)];have hb:bitN ⟨true,(p:Int),(q:Int)⟩ i=if 127-i<64 then q.testBit (127-i)else p.testBit (127-i-64):=by
   unfold bitN num wid;simp only[if_true,Int.toNat_natCast];rw[Zpw (by omega)]
  rw[hb];by_cases h64:i<64
  .have t:ZaG ((127-i:Nat):Int) 64=((127-i-64:Nat):Int):=by rw[ZcO (by omega) (by omega)];omega
   rw[if_pos (by omega),t,Zar (by omega),ZuB p _ (by omega) (by omega),if_neg (show ¬127-i<64 by omega)]
  .rw[if_neg (by omega),Zar (by omega),ZuB q _ (by omega) (by omega),if_pos (show 127-i<64 by omega)]
theorem ZyB{p:Zae}(h:RN p)(i:Nat)(b:i<wid p.fAddr):ZiX p (i:Int)=some (if bitN p.fAddr i then 1 else 0):=by
 simp only[ZiX,ZIH h.fits i b,Option.bind_some]
def Len(z r:Nat):Prop:=z<2 ^ r/\(0<r->2 ^ (r-1)<=z)
theorem Zwh{z r:Nat}(k:Nat)(f:2 ^ k<=z)(h:Len (z / 2 ^ k) r):Len z (r+k)/\0<r:=by
 have b:0<2 ^ k:=Nat.pow_pos (by omega);have g:1<=z / 2 ^ k:=(Nat.le_div_iff_mul_le b).2 (by omega);have d:0<r:=by
  rcases Nat.eq_zero_or_pos r with e|e
  .subst e;have:=h.1;simp at this;omega
  .exact e
 refine⟨⟨?_,fun _=>?_⟩,d⟩
 .rw[Nat.pow_add];exact(Nat.div_lt_iff_lt_mul b).1 h.1
 .have:=(Nat.le_div_iff_mul_le b).1 (h.2 d);rw[<-Nat.pow_add]at this;rwa [show r+k-1=r-1+k by omega]
set_option maxRecDepth 100000 in
theorem ZLM:∃T:ByteArray,T.size=256/\(∀i:Fin 256,i.val<2 ^ ZlD T i.val/\(0<ZlD T i.val->2 ^ (ZlD T i.val-1)<=i.val)/\ZlD T i.val<=8)/\∀v0 v2:Int,ZeX v0 v2 =
  bif(decide (v0>=(256:Int)))then
   need (0<=(IntKind.wrap .u8 (Int.fdiv v0 (2 ^ (min (8:Int).toNat (IntKind.bits .u64)))))/\(IntKind.wrap .u8 (Int.fdiv v0 (2 ^ (min (8:Int).toNat (IntKind.bits .u64)))))<((T.size:Nat):Int)) <|
   some (Zaq (Zaq v2 (8:Int)) (IntKind.wrap .i64 ((ZlD T (IntKind.wrap .u8 (Int.fdiv v0 (2 ^ (min (8:Int).toNat (IntKind.bits .u64))))).toNat:Nat):Int)))
  else
   need (0<=(IntKind.wrap .u8 v0)/\(IntKind.wrap .u8 v0)<((T.size:Nat):Int)) <|
   some (Zaq v2 (IntKind.wrap .i64 ((ZlD T (IntKind.wrap .u8 v0).toNat:Nat):Int))):=by
 refine⟨_,?_,?_,fun v0 v2=>rfl⟩
 .rfl
 .decide +kernel
theorem ZFX{a:Int}(h:0<=a)(h':a<256):IntKind.u8.wrap a=a:=by
 simp only[IntKind.wrap,IntKind.bits,IntKind.signed];simp;omega
theorem ZzP{a:Int}(h:0<=a)(h':a<256):IntKind.i64.wrap a=a:=by
 simp only[IntKind.wrap,IntKind.bits,IntKind.signed];simp;omega
theorem ZLO(z v:Nat)(o:z<65536)(p:v<=1000):∃r,Len z r/\r<=16/\ZeX (z:Int) (v:Int)=some ((v+r:Nat):Int):=by
 obtain⟨T,i,g,j⟩:=ZLM;rw[j,Zak,i];by_cases h:256<=z
 .rw[if_pos (by omega)];have e:Int.fdiv (z:Int) (2 ^ (min (8:Int).toNat (IntKind.bits .u64)))=((z / 256:Nat):Int):=by
   rw[show (2:Int) ^ (min (8:Int).toNat (IntKind.bits .u64))=256 from rfl,Int.fdiv_eq_ediv_of_nonneg _ (by omega)];rfl
  obtain⟨b,d,f⟩:=g ⟨z / 256,by omega⟩;simp only at b d f;rw[e,ZFX (by omega) (by omega),Zar (by omega),Int.toNat_natCast,ZzP (by omega) (by omega)];obtain⟨n,t⟩:=Zwh (z:=z) (r:=ZlD T (z / 256)) 8 (by omega) ⟨by rw[show (2:Nat) ^ 8=256 from rfl];exact b,by rw[show (2:Nat) ^ 8=256 from rfl];exact d⟩;refine⟨_,n,by omega,?_⟩;rw[Zcm (a:=(v:Int)) (by omega) (by omega),Zcm (by omega) (by omega)];congr 1;omega
 .rw[if_neg (by omega)];obtain⟨b,d,f⟩:=g ⟨z,by omega⟩;simp only at b d f;rw[ZFX (by omega) (by omega),Zar (by omega),Int.toNat_natCast,ZzP (by omega) (by omega)];refine⟨_,⟨b,d⟩,by omega,?_⟩;rw[Zcm (by omega) (by omega)];congr 1
theorem ZLN(z v:Nat)(i:z<4294967296)(j:v<=900):∃r,Len z r/\r<=32/\ZeY (z:Int) (v:Int)=some ((v+r:Nat):Int):=by
 simp only[ZeY,Zak];by_cases h:65536<=z
 .rw[if_pos (by omega)];have e:Int.fdiv (z:Int) (2 ^ (min (16:Int).toNat (IntKind.bits .u64)))=((z / 65536:Nat):Int):=by
   rw[show (2:Int) ^ (min (16:Int).toNat (IntKind.bits .u64))=65536 from rfl,Int.fdiv_eq_ediv_of_nonneg _ (by omega)];rfl
  rw[e,show Zaq (v:Int) 16=((v+16:Nat):Int)by rw[Zcm (by omega) (by omega)];omega];obtain⟨r,b,f,d⟩:=ZLO (z / 65536) (v+16) (by omega) (by omega);obtain⟨g,_⟩:=Zwh (z:=z) 16 (by omega) (by rw[show (2:Nat) ^ 16=65536 from rfl];exact b);exact⟨r+16,g,by omega,by rw[d];congr 2;omega⟩
 .rw[if_neg (by omega)];obtain⟨r,b,f,d⟩:=ZLO z v (by omega) (by omega);exact⟨r,b,by omega,d⟩
theorem len64(z:Nat)(i:z<2 ^ 64):∃r,Len z r/\r<=64/\Zif (z:Int)=some ((r:Nat):Int):=by
 simp only[Zif,Zak];by_cases h:4294967296<=z
 .rw[if_pos (by omega)];have e:Int.fdiv (z:Int) (2 ^ (min (32:Int).toNat (IntKind.bits .u64)))=((z / 4294967296:Nat):Int):=by
   rw[show (2:Int) ^ (min (32:Int).toNat (IntKind.bits .u64))=4294967296 from rfl,Int.fdiv_eq_ediv_of_nonneg _ (by omega)];rfl
  rw[e];obtain⟨r,b,f,d⟩:=ZLN (z / 4294967296) 32 (by omega) (by omega);obtain⟨g,_⟩:=Zwh (z:=z) 32 (by omega) (by rw[show (2:Nat) ^ 32=4294967296 from rfl];exact b);exact⟨r+32,g,by omega,by rw[show (32:Int)=((32:Nat):Int)from rfl,d];congr 2;omega⟩
 .rw[if_neg (by omega)];obtain⟨r,b,f,d⟩:=ZLN z 0 (by omega) (by omega);exact⟨r,b,by omega,by rw[show (0:Int)=((0:Nat):Int)from rfl,d];congr 2;omega⟩
theorem ZFW(a b:Nat)(d:a<2 ^ 64)(hb:b<2 ^ 64):IntKind.u64.wrap (((BitVec.ofInt (IntKind.bits .u64) (a:Int)) ^^^ (BitVec.ofInt (IntKind.bits .u64) (b:Int))).toNat:Int)=((a ^^^ b:Nat):Int):=by
 have e:∀c:Nat,c<2 ^ 64->(BitVec.ofInt 64 (c:Int)).toNat=c:=fun c f=>by
  rw[BitVec.ofInt_natCast,BitVec.toNat_ofNat];exact Nat.mod_eq_of_lt f
 have g:((BitVec.ofInt (IntKind.bits .u64) (a:Int)) ^^^ (BitVec.ofInt (IntKind.bits .u64) (b:Int))).toNat=a ^^^ b:=by
  show (BitVec.ofInt 64 (a:Int) ^^^ BitVec.ofInt 64 (b:Int)).toNat=a ^^^ b;rw[BitVec.toNat_xor,e a d,e b hb]
 rw[g];have:a ^^^ b<2 ^ 64:=Nat.xor_lt_two_pow d hb;exact ZhU (by omega) (by omega)
theorem lead(a b:Nat)(i:a<2 ^ 64)(hb:b<2 ^ 64):∃k,k<=64/\Zdd ((a ^^^ b:Nat):Int)=some ((k:Nat):Int)/\(∀j,64-k<=j->a.testBit j=b.testBit j)/\(k<64->a.testBit (63-k)≠b.testBit (63-k))/\(k=64↔a ^^^ b=0):=by
 have hx:a ^^^ b<2 ^ 64:=Nat.xor_lt_two_pow i hb;obtain⟨r,d,p,n⟩:=len64 (a ^^^ b) hx;refine⟨64-r,by omega,?_,fun j t=>?_,fun u=>?_,?_⟩
 .simp only[Zdd,n,Option.bind_some];rw[ZcO (by omega) (by omega)];congr 1;omega
 .have f:(a ^^^ b).testBit j=false:=Nat.testBit_lt_two_pow (Nat.lt_of_lt_of_le d.1 (Nat.pow_le_pow_right (by omega) (by omega)));rw[Nat.testBit_xor]at f
  revert f
  cases a.testBit j<;>cases b.testBit j<;>simp
 .have f:(a ^^^ b).testBit (r-1)=true:=by
   have v:=d.2 (by omega);have y:a ^^^ b<2 ^ (r-1) * 2:=by rw[<-Nat.pow_succ,show (r-1).succ=r by omega];exact d.1
   rw[Nat.testBit_eq_decide_div_mod_eq,decide_eq_true_eq];have o:(a ^^^ b) / 2 ^ (r-1)=1:=by
    have g:0<2 ^ (r-1):=Nat.pow_pos (by omega);have:=(Nat.le_div_iff_mul_le g).2 (show 1 * 2 ^ (r-1)<=a ^^^ b by omega);have:=(Nat.div_lt_iff_lt_mul g).2 (show a ^^^ b<2 * 2 ^ (r-1)by omega);omega
   rw[o]
  rw[show 63-(64-r)=r-1 by omega];rw[Nat.testBit_xor]at f
  revert f
  cases a.testBit (r-1)<;>cases b.testBit (r-1)<;>simp
 .constructor
  .intro e;have:r=0:=by omega
   subst this;have:=d.1;simpa using this
  .intro e;rw[e]at d;rcases Nat.eq_zero_or_pos r with h|h
   .omega
   .have:=d.2 h;have:0<2 ^ (r-1):=Nat.pow_pos (by omega);omega
theorem ZIj{p q:Zae}(g:RN p)(o:RN q)(u:p.fAddr.fV6=q.fAddr.fV6) :
  ∃k:Nat,ZkS p q=some (k:Int)/\k<=p.fBits.toNat/\k<=q.fBits.toNat/\(∀i,i<k->bitN p.fAddr i=bitN q.fAddr i)/\(k<p.fBits.toNat->k<q.fBits.toNat->bitN p.fAddr k≠bitN q.fAddr k):=by
 have fp:=g.fits;have fq:=o.fits;have z:=fp.hi0;have D:=fp.hi1;have A:=fp.lo0;have E:=fp.lo1;have b1:=fq.hi0;have b2:=fq.hi1;have b3:=fq.lo0;have b4:=fq.lo1;have n1:=g.nn;have n2:=o.nn;have l1:=g.le;have l2:=o.le;have lQ:=fp.v4;have lR:=fq.v4;clear g o fp fq;obtain⟨⟨v,F,lo⟩,n⟩:=p;obtain⟨⟨v',cw,ku⟩,n'⟩:=q;simp only at u z D A E b1 b2 b3 b4 n1 n2 lQ lR;subst u;obtain⟨x,rfl⟩:=ZjX z;obtain⟨y,rfl⟩:=ZjX A;obtain⟨x',rfl⟩:=ZjX b1;obtain⟨y',rfl⟩:=ZjX b3;obtain⟨n,rfl⟩:=ZjX n1;obtain⟨n',rfl⟩:=ZjX n2;have db:(if(n':Int)<(n:Int)then(n':Int)else(n:Int))=((min n n':Nat):Int):=by split<;>omega
 have lS:∀k:Nat,(if((min n n':Nat):Int)<(k:Int)then((min n n':Nat):Int)else(k:Int))=((min k (min n n'):Nat):Int):=fun k=>by split<;>omega
 obtain⟨f,J,G,B,H,C⟩:=lead x x' (by omega) (by omega);obtain⟨b,d1,d2,d3,d4,d5⟩:=lead y y' (by omega) (by omega);simp only[ZkS,ZFW x x' (by omega) (by omega),ZFW y y' (by omega) (by omega),G,d2,Option.bind_some,db]
 -- what is to be shown of a number
 have fin:∀k:Nat,(∀i,i<k->i<wid ⟨v,x,y⟩->bitN ⟨v,x,y⟩ i=bitN ⟨v,x',y'⟩ i)->(k<wid ⟨v,x,y⟩->bitN ⟨v,x,y⟩ k≠bitN ⟨v,x',y'⟩ k) ->
   (min k (min n n'))<=n/\(min k (min n n'))<=n'/\(∀i,i<min k (min n n')->bitN ⟨v,x,y⟩ i=bitN ⟨v,x',y'⟩ i)/\((min k (min n n'))<n->(min k (min n n'))<n'->bitN ⟨v,x,y⟩ (min k (min n n'))≠bitN ⟨v,x',y'⟩ (min k (min n n'))):=by
  intro k r d;simp only at l1 l2;refine⟨by omega,by omega,fun i F=>r i (by omega) (by omega),fun L M=>?_⟩;have e:min k (min n n')=k:=by omega
  rw[e];exact d (by omega)
 cases v with
 |false=>
  have O:=(lQ rfl).1;have R:=(lR rfl).1;have U:=(lQ rfl).2;have V:=(lR rfl).2;have gh:x ^^^ x'=0:=by rw[show x=x' by omega,Nat.xor_self]
  have hk2:32<=b:=by
   rcases Nat.lt_or_ge b 32 with h|h
   .exfalso;apply d4 (by omega);rw[Nat.testBit_lt_two_pow (Nat.lt_of_lt_of_le (show y<2 ^ 32 by omega) (Nat.pow_le_pow_right (by omega) (by omega))),Nat.testBit_lt_two_pow (Nat.lt_of_lt_of_le (show y'<2 ^ 32 by omega) (Nat.pow_le_pow_right (by omega) (by omega)))]
   .exact h
  rw[gh,show (((0:Nat):Int)==0)=true from rfl,cond_true];have t:ZaG (Zaq 64 (b:Int)) (ZaG 128 32)=((b-32:Nat):Int):=by
   rw[Zcm (by omega) (by omega),show ZaG (128:Int) 32=96 from rfl,ZcO (by omega) (by omega)];omega
  simp only[Zgj,Bool.not_false,cond_true,Zex,cond_false,Option.bind_some,t,lS];refine⟨_,rfl,?_⟩;refine fin (b-32) (fun i r d=>?_) (fun h=>?_)
  .have d:i<32:=d;show (y.testBit (32-1-i))=(y'.testBit (32-1-i));exact d3 _ (by omega)
  .have h:b-32<32:=h;show (y.testBit (32-1-(b-32)))≠(y'.testBit (32-1-(b-32)));rw[show 32-1-(b-32)=63-b by omega];exact d4 (by omega)
 |true=>
  have hb:∀(x y:Nat),y<2 ^ 64->∀i,bitN ⟨true,(x:Int),(y:Int)⟩ i=if 127-i<64 then y.testBit (127-i)else x.testBit (127-i-64):=fun x y W i=>by
   unfold bitN num wid;simp only[if_true,Int.toNat_natCast];rw[Zpw (by omega)]
  by_cases hx:x ^^^ x'=0
  .rw[hx,show (((0:Nat):Int)==0)=true from rfl,cond_true];have hxx:x=x':=by
    apply Nat.eq_of_testBit_eq;intro j;exact B j (by have:=C.2 hx;omega)
   have t:Zaq 64 (b:Int)=((64+b:Nat):Int):=by rw[Zcm (by omega) (by omega)];omega
   simp only[Zgj,Bool.not_true,cond_false,t,lS];refine⟨_,rfl,?_⟩;refine fin (64+b) (fun i r d=>?_) (fun h=>?_)
   .have d:i<128:=d;rw[hb x y (by omega),hb x' y' (by omega),hxx];split
    .exact d3 _ (by omega)
    .rfl
   .have h:64+b<128:=h;rw[hb x y (by omega),hb x' y' (by omega),if_pos (by omega),if_pos (by omega)];rw[show 127-(64+b)=63-b by omega];exact d4 (by omega)
  .have I:f<64:=by
    rcases Nat.lt_or_ge f 64 with h|h
    .exact h
    .exact absurd (C.1 (by omega)) hx
   have hne:(((x ^^^ x':Nat):Int)==0)=false:=by
    rw[beq_eq_false_iff_ne];intro e;exact hx (by omega)
   rw[hne,cond_false];simp only[Zgj,Bool.not_true,cond_false,lS];refine⟨_,rfl,?_⟩;refine fin f (fun i r d=>?_) (fun h=>?_)
   .rw[hb x y (by omega),hb x' y' (by omega),if_neg (by omega),if_neg (by omega)];exact B _ (by omega)
   .rw[hb x y (by omega),hb x' y' (by omega),if_neg (by omega),if_neg (by omega)];rw[show 127-f-64=63-f by omega];exact H I
def Bel'(n:Nat)(f:Nat->Bool)(p:Zae):Prop:=n<=p.fBits.toNat/\∀i,i<n->bitN p.fAddr i=f i
def ext'(p:Zae)(b:Bool):Nat->Bool:=fun i=>if i<p.fBits.toNat then bitN p.fAddr i else b
theorem Zkz{p q:Zae}{b:Bool}:Bel' (p.fBits.toNat+1) (ext' p b) q↔p.fBits.toNat<q.fBits.toNat/\(∀i,i<p.fBits.toNat->bitN q.fAddr i=bitN p.fAddr i)/\bitN q.fAddr p.fBits.toNat=b:=by
 unfold Bel' ext';constructor
 .rintro ⟨f,d⟩;refine⟨by omega,fun i e=>?_,?_⟩
  .have:=d i (by omega);rwa [if_pos e]at this
  .have:=d p.fBits.toNat (by omega);rwa [if_neg (by omega)]at this
 .rintro ⟨f,d,g⟩;refine⟨by omega,fun i e=>?_⟩;by_cases h:i<p.fBits.toNat
  .rw[if_pos h];exact d i h
  .rw[if_neg h,show i=p.fBits.toNat by omega];exact g
def Zps(v:Bool):Zat->Nat->(Nat->Bool)->Prop | .nil,_,_=>True | .mk h has k0 k1,n,f=>RN h.fNet/\h.fNet.fAddr.fV6=v/\Bel' n f h.fNet/\Zps v k0 (h.fNet.fBits.toNat+1) (ext' h.fNet false)/\Zps v k1 (h.fNet.fBits.toNat+1) (ext' h.fNet true)
def ZbB:Zat->List Zau | .nil=>[] | .mk h has k0 k1=>(if has then[h]else[])++ZbB k0++ZbB k1
theorem ZbQ{v:Bool}:∀{nd:Zat}{n:Nat}{f:Nat->Bool},Zps v nd n f->∀x∈ZbB nd,RN x.fNet/\x.fNet.fAddr.fV6=v/\Bel' n f x.fNet
 | .nil,_,_,_,x,hx=>by simp[ZbB]at hx
 | .mk h has z A,n,f,o,x,hx=>by
  obtain⟨p,r,d,t,u⟩:=o
  have iD:∀b,Bel' (h.fNet.fBits.toNat+1) (ext' h.fNet b) x.fNet->Bel' n f x.fNet:=fun b hb=>by
   obtain⟨b1,b2,_⟩:=Zkz.1 hb
   have:=d.1
   exact⟨by omega,fun i y=>by rw[b2 i (by omega)];exact d.2 i y⟩
  simp only[ZbB,List.mem_append]at hx
  rcases hx with (hx|hx)|hx
  .split at hx
   .rw[List.mem_singleton]at hx;rw[hx];exact⟨p,r,d⟩
   .simp at hx
  .obtain⟨e,g,j⟩:=ZbQ t x hx
   exact⟨e,g,iD _ j⟩
  .obtain⟨e,g,j⟩:=ZbQ u x hx
   exact⟨e,g,iD _ j⟩
theorem Zps.rebase{v:Bool}{nd:Zat}{n m:Nat}{f g:Nat->Bool}(h:Zps v nd n f)(hb:∀x has b d,nd=.mk x has b d->Bel' m g x.fNet):Zps v nd m g:=by
 cases nd with
 |nil=>trivial
 |mk x has b d=>exact⟨h.1,h.2.1,hb x has b d rfl,h.2.2.2⟩
def ZmK(l:List Zau)(n:Zae):Int×Bool:=match l.find? (fun x=>decide (x.fNet=n))with
 |some x=>(x.fV,true)
 |none=>(0,false)
theorem Zmw{l:List Zau}{n:Zae}(h:∀x∈l,x.fNet≠n):l.find? (fun x=>decide (x.fNet=n))=none:=by
 rw[List.find?_eq_none];intro x hx;simpa using h x hx
theorem ZDY{v:Bool}{n:Zae}(i:RN n)(t:n.fAddr.fV6=v):∀fu (nd:Zat) (m:Nat) (f:Nat->Bool),Zps v nd m f->n.fBits.toNat+1<fu+m ->
  Zdu fu nd n=some (ZmK (ZbB nd) n)\/(n.fBits.toNat<m/\fu=0):=by
 intro fu;induction fu with
 |zero=>intro nd m f _ h;exact .inr ⟨by omega,rfl⟩
 |succ fu ih=>
  intro nd m f u B;refine .inl ?_;cases nd with
  |nil=>rfl
  |mk h has b d=>
   obtain⟨y,z,A,j,o⟩:=u;have C:wid h.fNet.fAddr=wid n.fAddr:=by unfold wid;rw[z,t]
   have b0:=fun x hx=>Zkz.1 (ZbQ j x hx).2.2;have b1:=fun x hx=>Zkz.1 (ZbQ o x hx).2.2;have hnn:=y.nn;have hnn':=i.nn;simp only[Zdu,Zak];by_cases hlt:h.fNet.fBits<n.fBits
   .rw[if_pos hlt];have p:=ZyB i h.fNet.fBits.toNat (by have:=i.le;omega);rw[Int.toNat_of_nonneg hnn]at p;rw[p];have r:∀x∈(if has then[h]else[]),x.fNet≠n:=fun x hx e=>by
     split at hx
     .rw[List.mem_singleton]at hx;subst hx;rw[e]at hlt;omega
     .simp at hx
    have gm:=A.1;cases hb:bitN n.fAddr h.fNet.fBits.toNat with
    |false=>
     simp only[Bool.false_eq_true,if_false,Option.bind_some];rw[Zar (by omega)];have g:ZmK (ZbB (.mk h has b d)) n=ZmK (ZbB b) n:=by
      unfold ZmK;simp only[ZbB];rw[List.find?_append,List.find?_append,Zmw r,Zmw (l:=ZbB d) fun x hx e=>by have:=(b1 x hx).2.2;rw[e,hb]at this;cases this];simp
     rw[g];rcases ih b _ _ j (by omega)with h|h
     .exact h
     .omega
    |true=>
     simp only[if_true,Option.bind_some];rw[Zar (by omega)];have g:ZmK (ZbB (.mk h has b d)) n=ZmK (ZbB d) n:=by
      unfold ZmK;simp only[ZbB];rw[List.find?_append,List.find?_append,Zmw r,Zmw (l:=ZbB b) fun x hx e=>by have:=(b0 x hx).2.2;rw[e,hb]at this;cases this];simp
     rw[g];rcases ih d _ _ o (by omega)with h|h
     .exact h
     .omega
   .rw[if_neg hlt];have g:ZmK (ZbB (.mk h has b d)) n=ZmK (if has then[h]else[]) n:=by
     unfold ZmK;simp only[ZbB];rw[List.find?_append,List.find?_append,Zmw (l:=ZbB b) fun x hx e=>by have:=(b0 x hx).1;rw[e]at this;omega,Zmw (l:=ZbB d) fun x hx e=>by have:=(b1 x hx).1;rw[e]at this;omega];simp
    rw[g];cases has with
    |false=>rfl
    |true=>
     by_cases e:h.fNet=n
     .simp[ZmK,e]
     .simp[ZmK,e]
theorem ZzR{v:Bool}{hit:Zau}(b:RN hit.fNet)(n:hit.fNet.fAddr.fV6=v):∀fu (nd:Zat) (m:Nat) (f:Nat->Bool),Zps v nd m f->Bel' m f hit.fNet->hit.fNet.fBits.toNat+1<fu+m ->
  ∃jX,Zfx fu nd hit=some jX/\Zps v jX m f/\∀x,x∈ZbB jX↔x=hit\/(x∈ZbB nd/\x.fNet≠hit.fNet):=by
 intro fu;induction fu with
 |zero=>intro nd m f _ hb h;have:=hb.1;omega
 |succ fu ih=>
  intro nd m f I co U;cases nd with
  |nil=>exact⟨_,rfl,⟨b,n,co,trivial,trivial⟩,fun x=>by simp[ZbB]⟩
  |mk h has d g=>
   have jy:=I;obtain⟨o,r,y,z,C⟩:=I;have hwd:wid h.fNet.fAddr=wid hit.fNet.fAddr:=by unfold wid;rw[r,n]
   have b0:=fun x hx=>Zkz.1 (ZbQ z x hx).2.2;have b1:=fun x hx=>Zkz.1 (ZbQ C x hx).2.2;have jY:∀x∈ZbB (.mk h has d g),h.fNet.fBits.toNat<=x.fNet.fBits.toNat/\∀i,i<h.fNet.fBits.toNat->bitN x.fNet.fAddr i=bitN h.fNet.fAddr i:=fun x hx=>by
    simp only[ZbB,List.mem_append]at hx;rcases hx with (hx|hx)|hx
    .split at hx
     .rw[List.mem_singleton]at hx;rw[hx];exact⟨Nat.le_refl _,fun _ _=>rfl⟩
     .simp at hx
    .obtain⟨x1,x2,_⟩:=b0 x hx;exact⟨by omega,x2⟩
    .obtain⟨x1,x2,_⟩:=b1 x hx;exact⟨by omega,x2⟩
   have n1:=o.nn;have n2:=b.nn;have l1:=o.le;have l2:=b.le;obtain⟨k,M,V,W,D,O⟩:=ZIj o b (r.trans n.symm);simp only[Zfx,M,Option.bind_some,Zak];by_cases G:k<h.fNet.fBits.toNat
   .rw[if_pos (by omega)];have hbit:=ZyB o k (by omega);by_cases iE:k=hit.fNet.fBits.toNat
    .-- the new one stands above
     have e:((k:Int)==hit.fNet.fBits)=true:=by rw[beq_iff_eq];omega
     have hne:∀x∈ZbB (.mk h has d g),x.fNet≠hit.fNet:=fun x hx e=>by have:=(jY x hx).1;rw[e]at this;omega
     have p:Bel' (hit.fNet.fBits.toNat+1) (ext' hit.fNet (bitN h.fNet.fAddr k)) h.fNet:=Zkz.2 ⟨by omega,fun i j=>D i (by omega),by rw[<-iE]⟩;have E:Zps v (.mk h has d g) (hit.fNet.fBits.toNat+1) (ext' hit.fNet (bitN h.fNet.fAddr k)):=jy.rebase fun x _ _ _ e=>by cases e;exact p
     simp only[ZkT,e,cond_true,hbit,Option.bind_some];cases hb:bitN h.fNet.fAddr k with
     |false=>
      rw[hb]at E;simp only[Bool.false_eq_true,if_false];rw[Zar (by omega)];refine⟨_,rfl,⟨b,n,co,E,trivial⟩,fun x=>?_⟩;have:ZbB (.mk hit true (.mk h has d g) .nil)=[hit]++ZbB (.mk h has d g):=by simp[ZbB]
      rw[this,List.mem_append,List.mem_singleton];exact or_congr Iff.rfl ⟨fun hx=>⟨hx,hne x hx⟩,fun hx=>hx.1⟩
     |true=>
      rw[hb]at E;simp only[if_true];rw[Zar (by omega)];refine⟨_,rfl,⟨b,n,co,trivial,E⟩,fun x=>?_⟩;have:ZbB (.mk hit true .nil (.mk h has d g))=[hit]++ZbB (.mk h has d g):=by simp[ZbB]
      rw[this,List.mem_append,List.mem_singleton];exact or_congr Iff.rfl ⟨fun hx=>⟨hx,hne x hx⟩,fun hx=>hx.1⟩
    .-- they part
     have hk2:k<hit.fNet.fBits.toNat:=by omega
     have e:((k:Int)==hit.fNet.fBits)=false:=by rw[beq_eq_false_iff_ne];omega
     have c3:=O G hk2;have hne:∀x∈ZbB (.mk h has d g),x.fNet≠hit.fNet:=fun x hx e=>c3 (by rw[<-(jY x hx).2 k G,e]);obtain⟨J,Z⟩:=ZKE b.ok b.right k (by omega);have hmk:Zhb hit.fNet.fAddr (k:Int)=some (⟨ZkQ hit.fNet.fAddr k,(k:Int)⟩,true):=by
      rw[ZHf _ b.ok,if_pos ⟨b.right,by omega,by omega⟩,Int.toNat_natCast]
     have iF:(⟨ZkQ hit.fNet.fAddr k,(k:Int)⟩ : Zae).fBits.toNat=k:=Int.toNat_natCast k;have bv:∀i,i<k->bitN (ZkQ hit.fNet.fAddr k) i=bitN hit.fNet.fAddr i:=fun i j=>by
      rw[ZmS b.fits k i (by omega) (by omega),decide_eq_true j];rfl
     have R:m<=k:=by
      rcases Nat.lt_or_ge k m with hh|hh
      .exact absurd ((y.2 k hh).trans (co.2 k hh).symm) c3
      .exact hh
     have L:Bel' m f ⟨ZkQ hit.fNet.fAddr k,(k:Int)⟩:=⟨by rw[iF];exact R,fun i j=>by rw[bv i (by omega)];exact co.2 i j⟩;have F:Zps v (.mk h has d g) ((⟨ZkQ hit.fNet.fAddr k,(k:Int)⟩ : Zae).fBits.toNat+1) (ext' ⟨ZkQ hit.fNet.fAddr k,(k:Int)⟩ (bitN h.fNet.fAddr k)):=jy.rebase fun x _ _ _ e=>by
      cases e;exact Zkz.2 ⟨by rw[iF];exact G,fun i j=>by rw[iF]at j;rw[bv i j];exact D i j,by rw[iF]⟩
     have hL:Zps v (.mk hit true .nil .nil) ((⟨ZkQ hit.fNet.fAddr k,(k:Int)⟩ : Zae).fBits.toNat+1) (ext' ⟨ZkQ hit.fNet.fAddr k,(k:Int)⟩ (bitN hit.fNet.fAddr k)):=
      ⟨b,n,Zkz.2 ⟨by rw[iF];exact hk2,fun i j=>by rw[iF]at j;rw[bv i j],by rw[iF]⟩,trivial,trivial⟩
     have bB:=ZyB b k (by omega);simp only[ZkT,e,cond_false,hmk,hbit,bB,Option.bind_some];cases hb:bitN h.fNet.fAddr k with
     |false=>
      have aL:bitN hit.fNet.fAddr k=true:=by
       cases H:bitN hit.fNet.fAddr k
       .rw[hb,H]at c3;exact absurd rfl c3
       .rfl
      rw[hb]at F;rw[aL]at hL;simp only[aL,Bool.false_eq_true,if_false,if_true];rw[Zar (by omega)];have t:∀(A B:Option Zat),ix2 0 A B=A:=fun _ _=>rfl;have u:∀(A B:Option Zat),ix2 1 A B=B:=fun _ _=>rfl;rw[t,Zar (by omega),u];refine⟨_,rfl,⟨J,by simp only[ZkP];exact n,L,F,hL⟩,fun x=>?_⟩;have:ZbB (.mk ⟨⟨ZkQ hit.fNet.fAddr k,(k:Int)⟩,0⟩ false (.mk h has d g) (.mk hit true .nil .nil))=ZbB (.mk h has d g)++[hit]:=by simp[ZbB]
      rw[this,List.mem_append,List.mem_singleton,or_comm];exact or_congr Iff.rfl ⟨fun hx=>⟨hx,hne x hx⟩,fun hx=>hx.1⟩
     |true=>
      have aL:bitN hit.fNet.fAddr k=false:=by
       cases H:bitN hit.fNet.fAddr k
       .rfl
       .rw[hb,H]at c3;exact absurd rfl c3
      rw[hb]at F;rw[aL]at hL;simp only[aL,Bool.false_eq_true,if_false,if_true];rw[Zar (by omega)];have t:∀(A B:Option Zat),ix2 0 A B=A:=fun _ _=>rfl;have u:∀(A B:Option Zat),ix2 1 A B=B:=fun _ _=>rfl;rw[u,Zar (by omega),t];refine⟨_,rfl,⟨J,by simp only[ZkP];exact n,L,hL,F⟩,fun x=>?_⟩;have:ZbB (.mk ⟨⟨ZkQ hit.fNet.fAddr k,(k:Int)⟩,0⟩ false (.mk hit true .nil .nil) (.mk h has d g))=[hit]++ZbB (.mk h has d g):=by simp[ZbB]
      rw[this,List.mem_append,List.mem_singleton];exact or_congr Iff.rfl ⟨fun hx=>⟨hx,hne x hx⟩,fun hx=>hx.1⟩
   .rw[if_neg (by omega)];have iE:k=h.fNet.fBits.toNat:=by omega
    by_cases hke:k=hit.fNet.fBits.toNat
    .-- it is there
     have e:((k:Int)==hit.fNet.fBits)=true:=by rw[beq_iff_eq];omega
     have lT:h.fNet=hit.fNet:=ZLH o b (r.trans n.symm) (by
      unfold bs;rw[<-iE,<-hke];apply List.map_congr_left;intro i j;exact D i (by simpa using j))
     rw[e,cond_true];refine⟨_,rfl,⟨b,n,co,by rw[<-lT];exact z,by rw[<-lT];exact C⟩,fun x=>?_⟩;have n0:x∈ZbB d->x.fNet≠hit.fNet:=fun hx e=>by have:=(b0 x hx).1;rw[e]at this;omega
     have n1:x∈ZbB g->x.fNet≠hit.fNet:=fun hx e=>by have:=(b1 x hx).1;rw[e]at this;omega
     simp only[ZbB,List.mem_append,if_true,List.mem_singleton];constructor
     .rintro ((hx|hx)|hx)
      .exact .inl hx
      .exact .inr ⟨.inl (.inr hx),n0 hx⟩
      .exact .inr ⟨.inr hx,n1 hx⟩
     .rintro (hx|⟨(hx|hx)|hx,hne⟩)
      .exact .inl (.inl hx)
      .split at hx
       .rw[List.mem_singleton]at hx;rw[hx]at hne;exact absurd lT hne
       .simp at hx
      .exact .inl (.inr hx)
      .exact .inr hx
    .have e:((k:Int)==hit.fNet.fBits)=false:=by rw[beq_eq_false_iff_ne];omega
     have hbit:=ZyB b k (by omega);have p:Bel' (h.fNet.fBits.toNat+1) (ext' h.fNet (bitN hit.fNet.fAddr k)) hit.fNet:=Zkz.2 ⟨by omega,fun i j=>(D i (by omega)).symm,by rw[<-iE]⟩;have nh:∀x∈(if has then[h]else[]),x.fNet≠hit.fNet:=fun x hx e=>by
      split at hx
      .rw[List.mem_singleton]at hx;rw[hx]at e;rw[e]at iE;omega
      .simp at hx
     have gm:=y.1;simp only[e,cond_false,hbit,Option.bind_some];cases hb:bitN hit.fNet.fAddr k with
     |false=>
      rw[hb]at p;simp only[Bool.false_eq_true,if_false];rw[Zar (by omega)];obtain⟨jX,w1,w2,w3⟩:=ih d _ _ z p (by omega);have t:∀(A B:Option Zat),ix2 0 A B=A:=fun _ _=>rfl;rw[t,w1];refine⟨_,rfl,⟨o,r,y,w2,C⟩,fun x=>?_⟩;have n1:x∈ZbB g->x.fNet≠hit.fNet:=fun hx e=>by have:=(b1 x hx).2.2;rw[e,<-iE,hb]at this;cases this
      simp only[ZbB,List.mem_append,w3];constructor
      .rintro ((hx|hx|hx)|hx)
       .exact .inr ⟨.inl (.inl hx),nh x hx⟩
       .exact .inl hx
       .exact .inr ⟨.inl (.inr hx.1),hx.2⟩
       .exact .inr ⟨.inr hx,n1 hx⟩
      .rintro (hx|⟨(hx|hx)|hx,hne⟩)
       .exact .inl (.inr (.inl hx))
       .exact .inl (.inl hx)
       .exact .inl (.inr (.inr ⟨hx,hne⟩))
       .exact .inr hx
     |true=>
      rw[hb]at p;simp only[if_true];rw[Zar (by omega)];obtain⟨jX,w1,w2,w3⟩:=ih g _ _ C p (by omega);have u:∀(A B:Option Zat),ix2 1 A B=B:=fun _ _=>rfl;rw[u,w1];refine⟨_,rfl,⟨o,r,y,z,w2⟩,fun x=>?_⟩;have n1:x∈ZbB d->x.fNet≠hit.fNet:=fun hx e=>by have:=(b0 x hx).2.2;rw[e,<-iE,hb]at this;cases this
      simp only[ZbB,List.mem_append,w3];constructor
      .rintro ((hx|hx)|hx|hx)
       .exact .inr ⟨.inl (.inl hx),nh x hx⟩
       .exact .inr ⟨.inl (.inr hx),n1 hx⟩
       .exact .inl hx
       .exact .inr ⟨.inr hx.1,hx.2⟩
      .rintro (hx|⟨(hx|hx)|hx,hne⟩)
       .exact .inr (.inl hx)
       .exact .inl (.inl hx)
       .exact .inl (.inr hx)
       .exact .inr (.inr ⟨hx,hne⟩)
def cov(a:Zah)(x:Zau):Bool:=decide (∀i,i<x.fNet.fBits.toNat->bitN a i=bitN x.fNet.fAddr i)
theorem Znv{α:Type}{p:α->Bool}{l:List α}(h:∀x∈l,p x=false):l.filter p=[]:=by
 rw[List.filter_eq_nil_iff];intro x hx;rw[h x hx];simp
theorem Zyt{v:Bool}{a:Zah}(y:a.ok)(z:Zdj a=true)(t:a.fV6=v):∀fu (nd:Zat) (m:Nat) (f:Nat->Bool) (w:List Zau),Zps v nd m f->(∀i,i<m->i<wid a->bitN a i=f i)->m<=wid a+1->wid a+1<fu+m->w.length<=m ->
  ZbC fu nd w a=some (w++(ZbB nd).filter (cov a)):=by
 have hwa:wid a<=128:=by unfold wid;split<;>omega
 intro fu;induction fu with
 |zero=>intro nd m f w _ _ _ h;omega
 |succ fu ih=>
  intro nd m f w E G hmw H hl;cases nd with
  |nil=>simp[ZbC,ZbB]
  |mk h has n o=>
   obtain⟨u,C,F,p,r⟩:=E;have hwd:wid h.fNet.fAddr=wid a:=by unfold wid;rw[C,t]
   have b0:=fun x hx=>Zkz.1 (ZbQ p x hx).2.2;have b1:=fun x hx=>Zkz.1 (ZbQ r x hx).2.2;have w0:=fun x hx=>(ZbQ p x hx);have w1:=fun x hx=>(ZbQ r x hx);have n1:=u.nn;have l1:=u.le;have gm:=F.1;simp only[ZbC,ZLP _ a u y,z,decide_eq_true (C.trans t.symm),Bool.true_and,Option.bind_some,Zak];by_cases g:∀i,i<h.fNet.fBits.toNat->bitN a i=bitN h.fNet.fAddr i
   .rw[if_pos g];have lU:cov a h=true:=by unfold cov;rw[decide_eq_true_eq];exact g
    -- what lies below
    have jZ:∀w':List Zau,w'.length<=h.fNet.fBits.toNat+1->((Zin a h.fNet.fBits).bind fun x6=>need (0<=x6/\x6<((2:Nat):Int))<|ix2 x6 (ZbC fu n w' a) (ZbC fu o w' a))=some (w'++((ZbB n).filter (cov a)++(ZbB o).filter (cov a))):=by
     intro w' iG;by_cases hb:h.fNet.fBits.toNat<wid a
     .have D:=ZIH (Zrl y z) h.fNet.fBits.toNat hb;rw[Int.toNat_of_nonneg n1]at D;rw[D];cases hbit:bitN a h.fNet.fBits.toNat with
      |false=>
       simp only[Bool.false_eq_true,if_false,Option.bind_some];rw[Zar (by omega),show ∀(A B:Option (List Zau)),ix2 0 A B=A from fun _ _=>rfl];rw[ih n _ _ w' p (fun i j cw=>by
        unfold ext';by_cases d:i<h.fNet.fBits.toNat
        .rw[if_pos d];exact g i d
        .rw[if_neg d,show i=h.fNet.fBits.toNat by omega];exact hbit) (by omega) (by omega) iG]
       rw[Znv (l:=ZbB o) fun x hx=>?_]
       .simp
       .unfold cov;rw[decide_eq_false_iff_not];intro e;obtain⟨x1,x2,x3⟩:=b1 x hx;have:=e _ x1;rw[hbit,x3]at this;cases this
      |true=>
       simp only[if_true,Option.bind_some];rw[Zar (by omega),show ∀(A B:Option (List Zau)),ix2 1 A B=B from fun _ _=>rfl];rw[ih o _ _ w' r (fun i j cw=>by
        unfold ext';by_cases d:i<h.fNet.fBits.toNat
        .rw[if_pos d];exact g i d
        .rw[if_neg d,show i=h.fNet.fBits.toNat by omega];exact hbit) (by omega) (by omega) iG]
       rw[Znv (l:=ZbB n) fun x hx=>?_]
       .simp
       .unfold cov;rw[decide_eq_false_iff_not];intro e;obtain⟨x1,x2,x3⟩:=b0 x hx;have:=e _ x1;rw[hbit,x3]at this;cases this
     .-- a whole address: nothing lies below
      have bf:∀(iD:Zat)(b:Bool),Zps v iD (h.fNet.fBits.toNat+1) (ext' h.fNet b)->iD=.nil:=fun iD b dF=>by
       cases iD with
       |nil=>rfl
       |mk x I J L=>
        have M:=dF.2.2.1.1;have O:=dF.1.le;have d:wid x.fNet.fAddr=wid a:=by unfold wid;rw[dF.2.1,t]
        omega
      rw[bf n _ p,bf o _ r];have j0:Zin a h.fNet.fBits=some 0:=by
       simp only[Zin,ZIy,Option.bind_some,Zak];rw[if_neg (by omega),if_pos (by omega)]
      rw[j0];simp only[Option.bind_some];rw[Zar (by omega),show ∀(A B:Option (List Zau)),ix2 0 A B=A from fun _ _=>rfl];have:=ih .nil (h.fNet.fBits.toNat+1) (ext' h.fNet false) w' trivial (fun i j cw=>by
        unfold ext';rw[if_pos (by omega)];exact g i (by omega)) (by omega) (by omega) iG
      rw[this];simp[ZbB]
    cases has with
    |true=>
     simp only[cond_true,ZbB,if_true];rw[Zar ⟨by simp;omega,by unfold maxLen;simp;omega⟩,jZ _ (by simp;omega)];simp[lU]
    |false=>
     simp only[cond_false,ZbB,Bool.false_eq_true,if_false];rw[jZ _ (by omega)];simp
   .rw[if_neg g];rw[Znv]
    .simp
    .intro x hx;unfold cov;rw[decide_eq_false_iff_not];intro e;apply g;intro i j;simp only[ZbB,List.mem_append]at hx;rcases hx with (hx|hx)|hx
     .split at hx
      .rw[List.mem_singleton]at hx;rw[hx]at e;exact e i j
      .simp at hx
     .obtain⟨x1,x2,_⟩:=b0 x hx;rw[e i (by omega)];exact x2 i j
     .obtain⟨x1,x2,_⟩:=b1 x hx;rw[e i (by omega)];exact x2 i j
theorem ZCc{a:Zah}(h:Fits a)(i:Nat)(b:i<wid a):Zbx a (i:Int)=some (if bitN a i then 1 else 0):=by
 have j:=h.hi0;have n:=h.hi1;have o:=h.lo0;have r:=h.lo1;obtain⟨v,cw,lo⟩:=a;obtain⟨p,d⟩:=ZjX h.hi0;obtain⟨q,f⟩:=ZjX h.lo0;simp only at d f j n o r;subst d f;have g:∀k:Nat,k<64->(IntKind.u64.wrap ((k:Nat):Int))=((k:Nat):Int):=fun k t=>ZhU (by omega) (by omega);cases v with
 |false=>
  have b:i<32:=b;have e:ZaG (31:Int) (i:Int)=((31-i:Nat):Int):=by rw[ZcO (by omega) (by omega)];omega
  simp only[Zbx,ZbM,ZcL,Zak,Option.bind_some,cond_false,Bool.not_false,cond_true,e,g (31-i) (by omega)];rw[if_neg (by omega),if_neg (by omega),Zar (by omega),ZuB q _ (by omega) (by omega)];rfl
 |true=>
  have b:i<128:=b;have hb:bitN ⟨true,(p:Int),(q:Int)⟩ i=if 127-i<64 then q.testBit (127-i)else p.testBit (127-i-64):=by
   unfold bitN num wid;simp only[if_true,Int.toNat_natCast];rw[Zpw (by omega)]
  rw[hb];have et:Int.tmod (i:Int) 64=((i % 64:Nat):Int):=by rw[Int.tmod_eq_emod_of_nonneg (by omega)];rfl
  have u:i % 64<64:=Nat.mod_lt _ (by omega);have e:ZaG (63:Int) ((i % 64:Nat):Int)=((63-i % 64:Nat):Int):=by rw[ZcO (by omega) (by omega)];omega
  simp only[Zbx,ZbM,ZcL,Zak,Option.bind_some,cond_false,Bool.not_true,cond_true,et,e,g (63-i % 64) (by omega)];rw[if_neg (by omega),if_neg (by omega)];by_cases h64:i<64
  .rw[if_pos (by omega),Zar (by omega),ZuB p _ (by omega) (by omega),if_neg (show ¬127-i<64 by omega),show 63-i % 64=127-i-64 by omega]
  .rw[if_neg (by omega),Zar (by omega),ZuB q _ (by omega) (by omega),if_pos (show 127-i<64 by omega),show 63-i % 64=127-i by omega]
theorem Zvk(a:Zah):ZbM a=some (wid a:Int):=by
 unfold ZbM wid;cases a.fV6<;>rfl
theorem ZuC(a:Zah):wid a<=128:=by unfold wid;split<;>omega
theorem ZMd{i:Nat}(h:i<=1000000):Zaq (i:Int) 1=((i+1:Nat):Int):=by rw[Zcm (by omega) (by omega)];omega
theorem ZGK{p:Zae}(e:Fits p.fAddr):∀fu (i:Nat),i<=wid p.fAddr->wid p.fAddr-i<fu->∃r,Zdh fu (i:Int) p=some r/\(r=true↔∀j,i<=j->j<wid p.fAddr->bitN p.fAddr j=false):=by
 have t:=ZuC p.fAddr;intro fu;induction fu with
 |zero=>intro _ _ h;omega
 |succ fu ih=>
  intro i u hfu;simp only[Zdh,Zvk,Option.bind_some,Zak];by_cases h:i<wid p.fAddr
  .rw[if_pos (by omega),ZCc e i h,ZMd (by omega)];simp only[Option.bind_some];obtain⟨r,f,g⟩:=ih (i+1) (by omega) (by omega);cases hb:bitN p.fAddr i with
   |true=>
    simp only[if_true,beq_self_eq_true,cond_true];refine⟨false,rfl,?_⟩;simp only[Bool.false_eq_true,false_iff];intro n;have:=n i (Nat.le_refl _) h;rw[hb]at this;cases this
   |false=>
    simp only[Bool.false_eq_true,if_false];rw[show ((0:Int)==1)=false from rfl,cond_false];refine⟨r,f,g.trans ⟨fun q j d b=>?_,fun q j d b=>q j (by omega) b⟩⟩;by_cases o:j=i
    .subst o;exact hb
    .exact q j (by omega) b
  .rw[if_neg (by omega)];exact⟨true,rfl,by simp;intro j d b;omega⟩
theorem ZtV(p:Zae)(h:p.fAddr.ok):ZdY p=some (ZiN p):=by
 simp only[ZdY,ZjW p.fAddr h,Zvk,Option.bind_some,Zak];unfold ZiN;cases g:Zdj p.fAddr
 .simp
 .have b:=Zrl h g;simp only[Bool.not_true,cond_false,Bool.true_and];by_cases h0:p.fBits<0
  .rw[if_pos h0,show decide (0<=p.fBits)=false by rw[decide_eq_false_iff_not];omega];simp
  .rw[if_neg h0];by_cases e:p.fBits>(wid p.fAddr:Int)
   .rw[if_pos e,show decide (p.fBits<=(wid p.fAddr:Int))=false by rw[decide_eq_false_iff_not];omega];simp
   .rw[if_neg e,show decide (0<=p.fBits)=true by rw[decide_eq_true_eq];omega,show decide (p.fBits<=(wid p.fAddr:Int))=true by rw[decide_eq_true_eq];omega];have t:=ZuC p.fAddr;obtain⟨r,f,n⟩:=ZGK b 1000000 p.fBits.toNat (by omega) (by omega);rw[Int.toNat_of_nonneg (by omega)]at f;rw[f,Option.some.injEq,Bool.true_and,Bool.true_and,Bool.eq_iff_iff,n,decide_eq_true_eq];constructor
    .intro q;refine ZvA (ZlJ b _) b (ZkP _ _) fun i d=>?_;have d:i<wid p.fAddr:=by unfold wid at d ⊢;rwa [ZkP]at d
     rw[ZmS b p.fBits.toNat i (by omega) d];by_cases hb:i<p.fBits.toNat
     .rw[decide_eq_true hb];rfl
     .rw[decide_eq_false hb,q i (by omega) d];rfl
    .intro q j u o;have:=ZmS b p.fBits.toNat j (by omega) o;rw[q,decide_eq_false (by omega)]at this;exact this
def hasS(p:Zae)(a:Zah):Bool:=ZiN p&&(Zdj a&&decide (p.fAddr.fV6=a.fV6)&&decide (∀i,i<p.fBits.toNat->bitN a i=bitN p.fAddr i))
theorem ZAm{p:Zae}{a:Zah}(d:RN p)(f:Fits a)(g:p.fAddr.fV6=a.fV6):∀fu (i:Nat),i<=p.fBits.toNat->p.fBits.toNat-i<fu->∃r,Zdc fu (i:Int) p a=some r/\(r=true↔∀j,i<=j->j<p.fBits.toNat->bitN a j=bitN p.fAddr j):=by
 have v:=ZuC p.fAddr;have hwa:wid p.fAddr=wid a:=by unfold wid;rw[g]
 have n1:=d.nn;have l1:=d.le;intro fu;induction fu with
 |zero=>intro _ _ h;omega
 |succ fu ih=>
  intro i y hfu;simp only[Zdc,Zak];by_cases h:i<p.fBits.toNat
  .rw[if_pos (by omega),ZCc d.fits i (by omega),ZCc f i (by omega),ZMd (by omega)];simp only[Option.bind_some];obtain⟨r,n,o⟩:=ih (i+1) (by omega) (by omega);by_cases hb:bitN a i=bitN p.fAddr i
   .rw[hb];simp only[bne_self_eq_false,cond_false];refine⟨r,n,o.trans ⟨fun q j e b=>?_,fun q j e b=>q j (by omega) b⟩⟩;by_cases t:j=i
    .subst t;exact hb
    .exact q j (by omega) b
   .have hne:((if bitN p.fAddr i=true then(1:Int)else 0) != if bitN a i=true then 1 else 0)=true:=by
     revert hb
     cases bitN a i<;>cases bitN p.fAddr i<;>simp
    rw[hne,cond_true];refine⟨false,rfl,?_⟩;simp only[Bool.false_eq_true,false_iff];intro u;exact hb (u i (Nat.le_refl _) h)
  .rw[if_neg (by omega)];exact⟨true,rfl,by simp;intro j e b;omega⟩
theorem ZDy(p:Zae)(a:Zah)(f:p.fAddr.ok)(g:a.ok):Zgh p a=some (hasS p a):=by
 simp only[Zgh,ZtV p f,ZjW a g,Option.bind_some];unfold hasS;cases h:ZiN p
 .rfl
 .have eD:=(ZxN f).1 h;simp only[Bool.not_true,cond_false,Bool.true_and];cases i:Zdj a
  .rfl
  .simp only[Bool.not_true,cond_false,Bool.true_and];by_cases b:p.fAddr.fV6=a.fV6
   .rw[show (!(p.fAddr.fV6==a.fV6))=false by simp[b],cond_false,decide_eq_true b,Bool.true_and];have o:=ZuC p.fAddr;have n1:=eD.nn;have l1:=eD.le;obtain⟨r,d,n⟩:=ZAm eD (Zrl g i) b 1000000 0 (by omega) (by omega);have d:Zdc 1000000 0 p a=some r:=d;rw[d,Option.some.injEq,Bool.eq_iff_iff,n,decide_eq_true_eq];exact⟨fun q j e=>q j (by omega) e,fun q j _ e=>q j e⟩
   .rw[show (!(p.fAddr.fV6==a.fV6))=true by simp[b],cond_true,decide_eq_false b];rfl
def f0:Nat->Bool:=fun _=>false
def GT:ZaE->Prop | .nil=>False | .mk r4 r6 _=>Zps false r4 0 f0/\Zps true r6 0 f0
def Zjn:ZaE->List Zau | .nil=>[] | .mk r4 r6 _=>ZbB r4++ZbB r6
theorem bel0(p:Zae):Bel' 0 f0 p:=⟨Nat.zero_le _,fun i b=>by omega⟩
theorem ZAD{t:ZaE}(h:GT t):∀x∈Zjn t,RN x.fNet:=by
 cases t with
 |nil=>exact h.elim
 |mk b d n=>
  intro x hx;simp only[Zjn,List.mem_append]at hx;rcases hx with hx|hx
  .exact(ZbQ h.1 x hx).1
  .exact(ZbQ h.2 x hx).1
theorem ZHF(a:Zah):Zhp a=some (if a.fV6 then 1 else 0):=by
 unfold Zhp;cases a.fV6<;>rfl
theorem ZDk{t:ZaE}(h:GT t)(n:Zae)(d:n.fAddr.ok):Zia t n=some (if ZiN n then ZmK (Zjn t) n else(0,false)):=by
 cases t with
 |nil=>exact h.elim
 |mk f g k=>
  simp only[Zia,Zpr n d,Option.bind_some,ZHF];cases i:ZiN n
  .rfl
  .have eD:=(ZxN d).1 i;have hb:n.fBits.toNat<=128:=by have:=eD.le;have:=eD.nn;have:=ZuC n.fAddr;omega
   simp only[Bool.not_true,cond_false,if_true];cases b:n.fAddr.fV6 with
   |false=>
    simp only[Bool.false_eq_true,if_false];rw[Zar (by omega),show ∀(A B:Option (Int×Bool)),ix2 0 A B=A from fun _ _=>rfl];rcases ZDY eD b 1000000 f 0 f0 h.1 (by omega)with e|e
    .rw[e];unfold ZmK;simp only[Zjn];rw[List.find?_append,Zmw (l:=ZbB g) fun x hx e=>by have:=(ZbQ h.2 x hx).2.1;rw[e,b]at this;cases this];simp
    .omega
   |true=>
    simp only[if_true];rw[Zar (by omega),show ∀(A B:Option (Int×Bool)),ix2 1 A B=B from fun _ _=>rfl];rcases ZDY eD b 1000000 g 0 f0 h.2 (by omega)with e|e
    .rw[e];unfold ZmK;simp only[Zjn];rw[List.find?_append,Zmw (l:=ZbB f) fun x hx e=>by have:=(ZbQ h.1 x hx).2.1;rw[e,b]at this;cases this];simp
    .omega
theorem ZGe{t:ZaE}(h:GT t)(n:Zae)(g:n.fAddr.ok)(val:Int)(i:ZiN n=true):∃t',Zfh t n val=some t'/\GT t'/\∀x,x∈Zjn t'↔x=⟨n,val⟩\/(x∈Zjn t/\x.fNet≠n):=by
 cases t with
 |nil=>exact h.elim
 |mk b d k=>
  have eD:=(ZxN g).1 i;have hb:n.fBits.toNat<=128:=by have:=eD.le;have:=eD.nn;have:=ZuC n.fAddr;omega
  have j:=ZDk h n g;simp only[Zfh,Zfy,Zpr n g,i,j,if_true,Option.bind_some,Bool.not_true,cond_false,ZHF];have j3:n.fAddr.fV6=false->∃r,Zfx 1000 b ⟨n,val⟩=some r/\Zps false r 0 f0/\∀x,(x∈ZbB r\/x∈ZbB d)↔x=⟨n,val⟩\/((x∈ZbB b\/x∈ZbB d)/\x.fNet≠n):=fun f=>by
   obtain⟨r,w1,w2,w3⟩:=ZzR (hit:=⟨n,val⟩) eD f 1000 b 0 f0 h.1 (bel0 _) (by simp only;omega);refine⟨r,w1,w2,fun x=>?_⟩;rw[w3 x];have o:x∈ZbB d->x.fNet≠n:=fun hx e=>by have:=(ZbQ h.2 x hx).2.1;rw[e,f]at this;cases this
   constructor
   .rintro ((hx|hx)|hx)
    .exact .inl hx
    .exact .inr ⟨.inl hx.1,hx.2⟩
    .exact .inr ⟨.inr hx,o hx⟩
   .rintro (hx|⟨hx|hx,hne⟩)
    .exact .inl (.inl hx)
    .exact .inl (.inr ⟨hx,hne⟩)
    .exact .inr hx
  have j4:n.fAddr.fV6=true->∃r,Zfx 1000 d ⟨n,val⟩=some r/\Zps true r 0 f0/\∀x,(x∈ZbB b\/x∈ZbB r)↔x=⟨n,val⟩\/((x∈ZbB b\/x∈ZbB d)/\x.fNet≠n):=fun f=>by
   obtain⟨r,w1,w2,w3⟩:=ZzR (hit:=⟨n,val⟩) eD f 1000 d 0 f0 h.2 (bel0 _) (by simp only;omega);refine⟨r,w1,w2,fun x=>?_⟩;rw[w3 x];have p:x∈ZbB b->x.fNet≠n:=fun hx e=>by have:=(ZbQ h.1 x hx).2.1;rw[e,f]at this;cases this
   constructor
   .rintro (hx|hx|hx)
    .exact .inr ⟨.inl hx,p hx⟩
    .exact .inl hx
    .exact .inr ⟨.inr hx.1,hx.2⟩
   .rintro (hx|⟨hx|hx,hne⟩)
    .exact .inr (.inl hx)
    .exact .inl hx
    .exact .inr (.inr ⟨hx,hne⟩)
  have u:∀(A B:Option ZaE),ix2 0 A B=A:=fun _ _=>rfl;have v:∀(A B:Option ZaE),ix2 1 A B=B:=fun _ _=>rfl;cases f:n.fAddr.fV6 with
  |false=>
   obtain⟨r,w1,w2,w3⟩:=j3 f;cases(ZmK (Zjn (.mk b d k)) n).2 <;>
   .simp only[Bool.not_false,Bool.not_true,cond_true,cond_false,Bool.false_eq_true,if_false];rw[Zar (by omega),u,w1];exact⟨_,rfl,⟨w2,h.2⟩,fun x=>by simp only[Zjn,List.mem_append];exact w3 x⟩
  |true=>
   obtain⟨r,w1,w2,w3⟩:=j4 f;cases(ZmK (Zjn (.mk b d k)) n).2 <;>
   .simp only[Bool.not_false,Bool.not_true,cond_true,cond_false,if_true];rw[Zar (by omega),v,w1];exact⟨_,rfl,⟨h.1,w2⟩,fun x=>by simp only[Zjn,List.mem_append];exact w3 x⟩
theorem Zpz{v:Bool}:∀{nd:Zat}{n:Nat}{f:Nat->Bool},Zps v nd n f->(ZbB nd).Pairwise fun x y=>x.fNet≠y.fNet
 | .nil,_,_,_=>List.Pairwise.nil
 | .mk h has r t,n,f,o=>by
  obtain⟨u,z,A,d,g⟩:=o
  have b0:=fun x hx=>Zkz.1 (ZbQ d x hx).2.2
  have b1:=fun x hx=>Zkz.1 (ZbQ g x hx).2.2
  have i:∀x∈(if has then[h]else[]),x.fNet=h.fNet:=fun x hx=>by
   split at hx
   .rw[List.mem_singleton]at hx;rw[hx]
   .simp at hx
  simp only[ZbB]
  rw[List.pairwise_append,List.pairwise_append]
  refine⟨⟨?_,Zpz d,fun x hx y b e=>?_⟩,Zpz g,fun x hx y b e=>?_⟩
  .split
   .exact List.pairwise_singleton _ _
   .exact List.Pairwise.nil
  .have:=(b0 y b).1
   rw[<-e,i x hx]at this;omega
  .rcases List.mem_append.1 hx with hx|hx
   .have:=(b1 y b).1
    rw[<-e,i x hx]at this;omega
   .have j:=(b0 x hx).2.2
    have p:=(b1 y b).2.2
    rw[e,p]at j;cases j
theorem ZAE{t:ZaE}(h:GT t):(Zjn t).Pairwise fun x y=>x.fNet≠y.fNet:=by
 cases t with
 |nil=>exact h.elim
 |mk g i k=>
  simp only[Zjn];rw[List.pairwise_append];refine⟨Zpz h.1,Zpz h.2,fun x hx y d e=>?_⟩;have b:=(ZbQ h.1 x hx).2.1;have f:=(ZbQ h.2 y d).2.1;rw[e,f]at b;cases b
theorem ZHo{l:List Zau}{n:Zae}(h:(ZmK l n).2=true):∃x∈l,x.fNet=n/\x.fV=(ZmK l n).1:=by
 unfold ZmK at h ⊢;cases b:l.find? (fun x=>decide (x.fNet=n))with
 |none=>rw[b]at h;cases h
 |some x=>
  have:=List.find?_some b;exact⟨x,List.mem_of_find?_eq_some b,by simpa using this,rfl⟩
theorem ZJz{l:List Zau}{n:Zae}(h:(ZmK l n).2=false):∀x∈l,x.fNet≠n:=by
 unfold ZmK at h;cases b:l.find? (fun x=>decide (x.fNet=n))with
 |none=>rw[List.find?_eq_none]at b;intro x hx;simpa using b x hx
 |some x=>rw[b]at h;cases h
theorem ZJT{l:List Zau}(h:l.Pairwise fun x y=>x.fNet≠y.fNet){x y:Zau}(hx:x∈l)(g:y∈l)(e:x.fNet=y.fNet):x=y:=by
 obtain⟨i,b,rfl⟩:=List.getElem_of_mem hx;obtain⟨j,d,rfl⟩:=List.getElem_of_mem g;have f:=List.pairwise_iff_getElem.1 h;rcases Nat.lt_trichotomy i j with h1|h1|h1
 .exact absurd e (f i j b d h1)
 .subst h1;rfl
 .exact absurd e.symm (f j i d b h1)
theorem ZtO{v:Bool}{a:Zah}(b:a.fV6=v):∀{nd:Zat}{m:Nat}{f:Nat->Bool},Zps v nd m f->m<=wid a+1->((ZbB nd).filter (cov a)).length+m<=wid a+1
 | .nil,m,f,_,h=>by simp[ZbB];exact h
 | .mk h has j n,m,f,o,t=>by
  obtain⟨e,p,r,g,i⟩:=o
  have b0:=fun x hx=>Zkz.1 (ZbQ g x hx).2.2
  have b1:=fun x hx=>Zkz.1 (ZbQ i x hx).2.2
  have u:wid h.fNet.fAddr=wid a:=by unfold wid;rw[p,b]
  have n1:=e.nn;have l1:=e.le;have gm:=r.1
  have i0:=ZtO b g (by omega)
  have i1:=ZtO b i (by omega)
  have y:((if has then[h]else[]).filter (cov a)).length<=1:=by
   split
   .exact List.length_filter_le _ _
   .simp
  have z:((ZbB j).filter (cov a)).length=0\/((ZbB n).filter (cov a)).length=0:=by
   cases hb:bitN a h.fNet.fBits.toNat with
   |false=>
    refine .inr ?_;rw[Znv]
    .rfl
    .intro x hx;unfold cov;rw[decide_eq_false_iff_not];intro d;obtain⟨x1,x2,x3⟩:=b1 x hx;have:=d _ x1;rw[hb,x3]at this;cases this
   |true=>
    refine .inl ?_;rw[Znv]
    .rfl
    .intro x hx;unfold cov;rw[decide_eq_false_iff_not];intro d;obtain⟨x1,x2,x3⟩:=b0 x hx;have:=d _ x1;rw[hb,x3]at this;cases this
  simp only[ZbB,List.filter_append,List.length_append];omega
theorem ZEE{t:ZaE}(h:GT t)(a:Zah)(g:a.ok):∃L,ZgG t a=some L/\L.length<=maxLen/\∀x,x∈L↔x∈Zjn t/\hasS x.fNet a=true:=by
 cases t with
 |nil=>exact h.elim
 |mk j n k=>
  simp only[ZgG,ZkK a g,Option.bind_some,ZHF];cases f:Zdj a
  .exact⟨[],rfl,by simp,fun x=>by simp[hasS,f]⟩
  .simp only[Bool.not_true,cond_false];have u:=ZuC a;have o:∀(A B:Option (List Zau)),ix2 0 A B=A:=fun _ _=>rfl;have p:∀(A B:Option (List Zau)),ix2 1 A B=B:=fun _ _=>rfl;have e:∀x:Zau,RN x.fNet->hasS x.fNet a=(decide (x.fNet.fAddr.fV6=a.fV6)&&cov a x):=fun x hx=>by
    unfold hasS cov;rw[(ZxN hx.ok).2 hx,f,Bool.true_and,Bool.true_and]
   cases d:a.fV6 with
   |false=>
    simp only[Bool.false_eq_true,if_false];rw[Zar (by omega),o,Zyt g f d 1000000 j 0 f0 [] h.1 (fun i r=>by omega) (by omega) (by omega) (by simp)];refine⟨_,rfl,by have:=ZtO d h.1 (by omega);unfold maxLen;simp only[List.nil_append];omega,fun x=>?_⟩;simp only[List.nil_append,List.mem_filter,Zjn,List.mem_append];constructor
    .rintro ⟨hx,b⟩;have:=ZbQ h.1 x hx;rw[e x this.1,this.2.1,d,b];exact⟨.inl hx,rfl⟩
    .rintro ⟨hx|hx,b⟩
     .have:=ZbQ h.1 x hx;rw[e x this.1,Bool.and_eq_true]at b;exact⟨hx,b.2⟩
     .have:=ZbQ h.2 x hx;rw[e x this.1,this.2.1,d]at b;simp at b
   |true=>
    simp only[if_true];rw[Zar (by omega),p,Zyt g f d 1000000 n 0 f0 [] h.2 (fun i r=>by omega) (by omega) (by omega) (by simp)];refine⟨_,rfl,by have:=ZtO d h.2 (by omega);unfold maxLen;simp only[List.nil_append];omega,fun x=>?_⟩;simp only[List.nil_append,List.mem_filter,Zjn,List.mem_append];constructor
    .rintro ⟨hx,b⟩;have:=ZbQ h.2 x hx;rw[e x this.1,this.2.1,d,b];exact⟨.inr hx,rfl⟩
    .rintro ⟨hx|hx,b⟩
     .have:=ZbQ h.1 x hx;rw[e x this.1,this.2.1,d]at b;simp at b
     .have:=ZbQ h.2 x hx;rw[e x this.1,Bool.and_eq_true]at b;exact⟨hx,b.2⟩
structure Idx (ae:Int) (t:ZaE) (l:List Zac):Prop where
 gt:GT t
 from_:∀x∈Zjn t,∃b∈l,ae<b.fUntil/\b.fNet=x.fNet/\b.fUntil=x.fV
 has:∀b∈l,ae<b.fUntil->ZiN b.fNet=true->∃x∈Zjn t,x.fNet=b.fNet/\b.fUntil<=x.fV
theorem Zzk{ae:Int}{t:ZaE}{l:List Zac}{b:Zac}(h:Idx ae t l)(hb:ae<b.fUntil->ZiN b.fNet=true->∃x∈Zjn t,x.fNet=b.fNet/\b.fUntil<=x.fV):Idx ae t (l++[b]):=
 ⟨h.gt,fun x hx=>by obtain⟨c,d,e⟩:=h.from_ x hx;exact⟨c,by simp[d],e⟩,fun c hc d e=>by
  rcases List.mem_append.1 hc with hc|hc
  .exact h.has c hc d e
  .rw[List.mem_singleton]at hc;subst hc;exact hb d e⟩
theorem Zzj{ae:Int}{t:ZaE}{l:List Zac}{b:Zac}(h:Idx ae t l)(hb:b.fNet.fAddr.ok)(hl:ae<b.fUntil)(cj:∀x∈Zjn t,x.fNet=b.fNet->x.fV<=b.fUntil):∃t',Zfh t b.fNet b.fUntil=some t'/\Idx ae t' (l++[b]):=by
 cases g:ZiN b.fNet with
 |true=>
  obtain⟨t',w1,w2,w3⟩:=ZGe h.gt b.fNet hb b.fUntil g;refine⟨t',w1,w2,fun x hx=>?_,fun c hc d f=>?_⟩
  .rcases(w3 x).1 hx with e|⟨hx,hne⟩
   .subst e;exact⟨b,by simp,hl,rfl,rfl⟩
   .obtain⟨c,d,f⟩:=h.from_ x hx;exact⟨c,by simp[d],f⟩
  .by_cases e:c.fNet=b.fNet
   .refine⟨⟨b.fNet,b.fUntil⟩,(w3 _).2 (.inl rfl),e.symm,?_⟩;rcases List.mem_append.1 hc with hc|hc
    .obtain⟨x,x1,x2,x3⟩:=h.has c hc d f;have:=cj x x1 (x2.trans e);simp only;omega
    .rw[List.mem_singleton]at hc;subst hc;exact Int.le_refl _
   .rcases List.mem_append.1 hc with hc|hc
    .obtain⟨x,x1,x2,x3⟩:=h.has c hc d f;exact⟨x,(w3 x).2 (.inr ⟨x1,fun q=>e (x2.symm.trans q)⟩),x2,x3⟩
    .rw[List.mem_singleton]at hc;subst hc;exact absurd rfl e
 |false=>
  refine⟨t,?_,Zzk h fun _ q=>by rw[g]at q;cases q⟩;cases t with
  |nil=>exact h.gt.elim
  |mk i j k=>
   simp only[Zfh,Zfy,Zpr b.fNet hb,g,Option.bind_some,Bool.not_false,cond_true]
theorem ZIA(b:Zac)(ae:Int):Znt b ae=some (decide (ae<b.fUntil)):=rfl
theorem ZFn(l:List Zac)(ae:Int)(hl:l.length<=maxLen)(az:∀b∈l,b.ok):∀fu (i:Nat) (t:ZaE),i<=l.length->l.length-i<fu->Idx ae t (l.take i)->∃t',ZdJ ae fu t l (l.length:Int) (i:Int)=some t'/\Idx ae t' l:=by
 intro fu;induction fu with
 |zero=>intro _ _ _ h;omega
 |succ fu ih=>
  intro i t j n h;simp only[ZdJ,Zak];by_cases hlt:i<l.length
  .rw[if_pos (by omega),Zar ⟨by omega,by omega⟩];simp only[Int.toNat_natCast];have cR:=az _ (ZfL l Zac.d i hlt);have du:l.take (i+1)=l.take i++[l.getD i Zac.d]:=by rw[List.take_succ_eq_append_getElem hlt,Zcn l _ i hlt]
   generalize l.getD i Zac.d=b at cR du ⊢;rw[ZDk h.gt b.fNet cR.1.1,ZIA];simp only[Option.bind_some];rw[add1 hlt hl];have next:∀t',Idx ae t' (l.take i++[b])->∃t'',ZdJ ae fu t' l (l.length:Int) ((i+1:Nat):Int)=some t''/\Idx ae t'' l:=fun t' ht'=>ih (i+1) t' (by omega) (by omega) (by rw[du];exact ht')
   by_cases hlv:ae<b.fUntil
   .rw[decide_eq_true hlv,cond_true];cases g:ZiN b.fNet with
    |false=>
     simp only[Bool.false_eq_true,if_false,Bool.not_false,cond_true];obtain⟨t',s1,s2⟩:=Zzj h cR.1.1 hlv (fun x hx e=>by
      have:=(ZxN cR.1.1).2 (e ▸ ZAD h.gt x hx);rw[g]at this;cases this)
     rw[s1];exact next t' s2
    |true=>
     simp only[if_true];cases f:(ZmK (Zjn t) b.fNet).2 with
     |false=>
      simp only[Bool.not_false,cond_true];obtain⟨t',s1,s2⟩:=Zzj h cR.1.1 hlv (fun x hx e=>absurd e (ZJz f x hx));rw[s1];exact next t' s2
     |true=>
      simp only[Bool.not_true,cond_false];obtain⟨y,y1,y2,y3⟩:=ZHo f;by_cases hlt2:(ZmK (Zjn t) b.fNet).1<b.fUntil
      .rw[if_pos hlt2];obtain⟨t',s1,s2⟩:=Zzj h cR.1.1 hlv (fun x hx e=>by
        have:=ZJT (ZAE h.gt) hx y1 (e.trans y2.symm);rw[this];omega)
       rw[s1];exact next t' s2
      .rw[if_neg hlt2];exact next t (Zzk h fun _ _=>⟨y,y1,y2,by omega⟩)
   .rw[decide_eq_false hlv,cond_false];exact next t (Zzk h fun q=>absurd q hlv)
  .rw[if_neg (by omega)];refine⟨t,rfl,?_⟩;rw[List.take_of_length_le (by omega)]at h;exact h
theorem ZJy(l:List Zac)(ae:Int)(hl:l.length<=maxLen)(az:∀b∈l,b.ok):∃t,Zmv l ae=some t/\Idx ae t l:=by
 have:=ZFn l ae hl az ((((l.length:Nat):Int)-(0:Int)).toNat+2) 0 (.mk .nil .nil 0) (by omega) (by omega) ⟨⟨trivial,trivial⟩,fun x hx=>by simp[Zjn,ZbB]at hx,fun b hb=>by simp at hb⟩;simpa[Zmv,ZoM]using this
def ZnB(l:List Zac)(a:Zah)(ae:Int)(b:Zac):Prop:=b∈l/\ae<b.fUntil/\hasS b.fNet a=true
def Zxg(l:List Zac)(a:Zah)(ae r:Int):Prop:=(r=0/\∀b,¬ZnB l a ae b)\/∃b,ZnB l a ae b/\r=b.fUntil/\∀c,ZnB l a ae c->c.fUntil<=r
theorem Zye{l l':List Zac}{a:Zah}{ae r s:Int}(h:Zxg l a ae r)(h':Zxg l' a ae s)(e:∀b,ZnB l a ae b↔ZnB l' a ae b):r=s:=by
 rcases h with⟨g,i⟩|⟨b,g,i,n⟩
 .rcases h' with⟨d,f⟩|⟨c,d,f,j⟩
  .omega
  .exact absurd ((e c).2 d) (i c)
 .rcases h' with⟨d,f⟩|⟨c,d,f,j⟩
  .exact absurd ((e b).1 g) (f b)
  .have:=n c ((e c).2 d);have:=j b ((e b).1 g);omega
theorem ZJs(L:List Zau)(hL:L.length<=maxLen):∀fu (i:Nat) (v:Int),i<=L.length->L.length-i<fu->∃r,Zhc fu v L (L.length:Int) (i:Int)=some r/\v<=r/\(∀x∈L.drop i,x.fV<=r)/\(r=v\/∃x∈L.drop i,r=x.fV):=by
 intro fu;induction fu with
 |zero=>intro _ _ _ h;omega
 |succ fu ih=>
  intro i v n o;simp only[Zhc,Zak];by_cases h:i<L.length
  .rw[if_pos (by omega),Zar ⟨by omega,by omega⟩];simp only[Int.toNat_natCast];rw[add1 h hL,Zfv L Zau.d i h];generalize L.getD i Zau.d=x;obtain⟨r,f,b,g,j⟩:=ih (i+1) (if x.fV>v then x.fV else v) (by omega) (by omega);refine⟨r,f,by split at b<;>omega,fun y hy=>?_,?_⟩
   .rcases List.mem_cons.1 hy with e|hy
    .subst e;split at b<;>omega
    .exact g y hy
   .rcases j with e|⟨y,y1,y2⟩
    .split at e
     .exact .inr ⟨x,by simp,e⟩
     .exact .inl e
    .exact .inr ⟨y,by simp[y1],y2⟩
  .rw[if_neg (by omega)];have:L.drop i=[]:=List.drop_eq_nil_of_le (by omega);exact⟨v,rfl,Int.le_refl _,by simp[this],.inl rfl⟩
theorem Zyz(l:List Zac)(a:Zah)(ae:Int)(hl:l.length<=maxLen)(az:∀b∈l,b.ok)(j:a.ok):∃r,Zit l a ae=some r/\Zxg l a ae r:=by
 obtain⟨t,t1,t2⟩:=ZJy l ae hl az;obtain⟨L,n,hL,f⟩:=ZEE t2.gt a j;simp only[Zit,t1,n,Option.bind_some];have one:∀x∈L,∃b,ZnB l a ae b/\b.fUntil=x.fV:=fun x hx=>by
  obtain⟨x1,x2⟩:=(f x).1 hx;obtain⟨b,b1,b2,b3,b4⟩:=t2.from_ x x1;exact⟨b,⟨b1,b2,by rw[b3];exact x2⟩,b4⟩
 have fX:∀b,ZnB l a ae b->∃x∈L,b.fUntil<=x.fV:=fun b hb=>by
  have o:ZiN b.fNet=true:=by have:=hb.2.2;unfold hasS at this;rw[Bool.and_eq_true]at this;exact this.1
  obtain⟨x,x1,x2,x3⟩:=t2.has b hb.1 hb.2.1 o;exact⟨x,(f x).2 ⟨x1,by rw[x2];exact hb.2.2⟩,x3⟩
 by_cases h0:L=[]
 .subst h0;refine⟨0,rfl,.inl ⟨rfl,fun b hb=>?_⟩⟩;obtain⟨x,hx,_⟩:=fX b hb;simp at hx
 .have iH:0<L.length:=List.length_pos_iff.2 h0;rw[show (((L.length:Nat):Int)==0)=false by rw[beq_eq_false_iff_ne];omega,cond_false,Zar ⟨by omega,by omega⟩];obtain⟨r,g,u,h,i⟩:=ZJs L hL ((((L.length:Nat):Int)-(0:Int)).toNat+2) 0 (L.getD (0:Int).toNat Zau.d).fV (by omega) (by omega);simp only[Int.natCast_zero,List.drop_zero]at g h i;refine⟨r,g,.inr ?_⟩;have c7:∃x∈L,r=x.fV:=by
   rcases i with e|e
   .exact⟨_,ZfL L Zau.d 0 iH,e⟩
   .exact e
  obtain⟨x,x1,x2⟩:=c7;obtain⟨b,b1,b2⟩:=one x x1;refine⟨b,b1,by omega,fun c p=>?_⟩;obtain⟨y,y1,y2⟩:=fX c p;have:=h y y1;omega
theorem ZyR(l:List Zac)(a:Zah)(ae:Int)(hl:l.length<=maxLen)(az:∀b∈l,b.ok)(D:a.ok):∀fu (i:Nat) (v:Int) (q:Bool),i<=l.length->l.length-i<fu ->
  ∃r,ZbL l ae fu v q (i:Int) a=some r/\(∀b,ZnB (l.drop i) a ae b->b.fUntil<=r)/\(q=true->v<=r)/\(r=v\/∃b,ZnB (l.drop i) a ae b/\r=b.fUntil)/\(q=false->(∃b,ZnB (l.drop i) a ae b)->∃b,ZnB (l.drop i) a ae b/\r=b.fUntil):=by
 intro fu;induction fu with
 |zero=>intro _ _ _ _ h;omega
 |succ fu ih=>
  intro i v q F n;simp only[ZbL,Zak];by_cases h:i<l.length
  .rw[if_pos (by omega),Zar ⟨by omega,by omega⟩];simp only[Int.toNat_natCast];have cR:=az _ (ZfL l Zac.d i h);rw[add1 h hl,Zfv l Zac.d i h];generalize l.getD i Zac.d=b at cR ⊢;have lV:ZgX b a ae=some (decide (ae<b.fUntil)&&hasS b.fNet a):=by
    simp only[ZgX,ZDy _ _ cR.1.1 D,Zak,gt_iff_lt,Option.bind_some];by_cases h:ae<b.fUntil
    .rw[if_pos h,decide_eq_true h];rfl
    .rw[if_neg h,decide_eq_false h];rfl
   rw[lV];simp only[Option.bind_some];have c8:∀c,ZnB (l.drop (i+1)) a ae c->ZnB (b :: l.drop (i+1)) a ae c:=fun c f=>⟨by simp[f.1],f.2⟩;cases o:(decide (ae<b.fUntil)&&hasS b.fNet a)with
   |false=>
    simp only[cond_false];have bf:∀c,ZnB (b :: l.drop (i+1)) a ae c↔ZnB (l.drop (i+1)) a ae c:=fun c=>by
     refine⟨fun f=>⟨?_,f.2⟩,c8 c⟩;rcases List.mem_cons.1 f.1 with e|hm
     .subst e;rw[decide_eq_true f.2.1,f.2.2]at o;cases o
     .exact hm
    obtain⟨r,t,u,y,p,z⟩:=ih (i+1) v q (by omega) (by omega);refine⟨r,t,fun c f=>u c ((bf c).1 f),y,?_,fun n hx=>?_⟩
    .rcases p with e|⟨c,g,j⟩
     .exact .inl e
     .exact .inr ⟨c,c8 c g,j⟩
    .obtain⟨c,f⟩:=hx;obtain⟨d,d1,d2⟩:=z n ⟨c,(bf c).1 f⟩;exact⟨d,c8 d d1,d2⟩
   |true=>
    simp only[cond_true];rw[Bool.and_eq_true,decide_eq_true_eq]at o;have hb:ZnB (b :: l.drop (i+1)) a ae b:=⟨by simp,o⟩
    -- what follows from a step that took b's,or something longer
    have step:∀v',b.fUntil<=v'->(q=true->v<=v')->(v'=b.fUntil\/(q=true/\v'=v))->∃r,ZbL l ae fu v' true ((i+1:Nat):Int) a=some r/\(∀c,ZnB (b :: l.drop (i+1)) a ae c->c.fUntil<=r)/\(q=true->v<=r)/\(r=v\/∃c,ZnB (b :: l.drop (i+1)) a ae c/\r=c.fUntil)/\(q=false->(∃c,ZnB (b :: l.drop (i+1)) a ae c)->∃c,ZnB (b :: l.drop (i+1)) a ae c/\r=c.fUntil):=by
     intro v' G E A;obtain⟨r,t,u,y,p,z⟩:=ih (i+1) v' true (by omega) (by omega);have r3':=y rfl;refine⟨r,t,fun c f=>?_,fun dH=>by have:=E dH;omega,?_,fun n _=>?_⟩
     .rcases List.mem_cons.1 f.1 with e|hm
      .subst e;omega
      .exact u c ⟨hm,f.2⟩
     .rcases p with e|⟨c,g,j⟩
      .rcases A with B|⟨_,B⟩
       .exact .inr ⟨b,hb,by omega⟩
       .exact .inl (by omega)
      .exact .inr ⟨c,c8 c g,j⟩
     .rcases p with e|⟨c,g,j⟩
      .rcases A with B|⟨C,_⟩
       .exact⟨b,hb,by omega⟩
       .rw[n]at C;cases C
      .exact⟨c,c8 c g,j⟩
    cases q with
    |false=>
     rw[Bool.not_false,cond_true];exact step b.fUntil (Int.le_refl _) (fun h=>by cases h) (.inl rfl)
    |true=>
     rw[Bool.not_true,cond_false];by_cases hgt:b.fUntil>v
     .rw[if_pos hgt];exact step b.fUntil (Int.le_refl _) (fun _=>by omega) (.inl rfl)
     .rw[if_neg hgt];exact step v (by omega) (fun _=>Int.le_refl _) (.inr ⟨rfl,rfl⟩)
  .rw[if_neg (by omega)];have:l.drop i=[]:=List.drop_eq_nil_of_le (by omega);rw[this];exact⟨v,rfl,fun b hb=>by simp[ZnB]at hb,fun _=>Int.le_refl _,.inl rfl,fun _ ⟨b,hb⟩=>by simp[ZnB]at hb⟩
theorem ZvP(l:List Zac)(a:Zah)(ae:Int)(hl:l.length<=maxLen)(az:∀b∈l,b.ok)(j:a.ok):∃r,Zcy l a ae=some r/\Zxg l a ae r:=by
 obtain⟨r,d,f,n,g,i⟩:=ZyR l a ae hl az j ((((l.length:Nat):Int)-(0:Int)).toNat+2) 0 0 false (by omega) (by omega);simp only[Int.natCast_zero,List.drop_zero]at d f g i;refine⟨r,d,?_⟩;by_cases h:∃b,ZnB l a ae b
 .obtain⟨b,b1,b2⟩:=i trivial h;exact .inr ⟨b,b1,b2,f⟩
 .refine .inl ⟨?_,fun b hb=>h ⟨b,hb⟩⟩;rcases g with e|⟨b,b1,_⟩
  .exact e
  .exact absurd ⟨b,b1⟩ h
set_option maxRecDepth 100000 in
def ZoF(l:List Zac)(ae:Int):List Zac:=l.filter fun b=>decide (ae<b.fUntil)
theorem ZEH{b:Zac}{r:List Zac}{ae:Int}(h:ae<b.fUntil):ZoF (b :: r) ae=b :: ZoF r ae:=by simp[ZoF,h]
theorem ZGh{b:Zac}{r:List Zac}{ae:Int}(h:¬ae<b.fUntil):ZoF (b :: r) ae=ZoF r ae:=by simp[ZoF,h]
theorem Zsk{n:Nat}(h:n<=100000):n * 40<=140737488355328/\n<=maxLen:=⟨by omega,by unfold maxLen;omega⟩
theorem ZyP(l:List Zac)(ae:Int)(hl:l.length<=10000):∀fu (i:Nat) (w:List Zac),i<=l.length->l.length-i<fu->w.length<=i ->
  ZcJ l ae fu (i:Int) w=some (w++ZoF (l.drop i) ae,((l.length:Int)-((w++ZoF (l.drop i) ae).length:Int))):=by
 have f:l.length<=maxLen:=by unfold maxLen;omega
 intro fu;induction fu with
 |zero=>intro _ _ _ h;omega
 |succ fu ih=>
  intro i w g j n;simp only[ZcJ,Zak,gt_iff_lt];by_cases h:i<l.length
  .rw[if_pos (by omega),Zar ⟨by omega,by omega⟩];simp only[Int.toNat_natCast];rw[add1 h f,Zfv l Zac.d i h];by_cases hb:ae<(l.getD i Zac.d).fUntil
   .have b:=ZEH (r:=l.drop (i+1)) hb;rw[if_pos hb,Zar (Zsk (by simp;omega)),ih (i+1) _ (by omega) (by omega) (by simp;omega),b];simp
   .have b:=ZGh (r:=l.drop (i+1)) hb;rw[if_neg hb,ih (i+1) w (by omega) (by omega) (by omega),b]
  .have e:i=l.length:=by omega
   rw[if_neg (by omega),e,List.drop_length];simp only[ZoF,List.filter_nil,List.append_nil];rw[ZcO (by omega) (by omega)]
theorem ZGC(l:List Zac)(ae:Int)(hl:l.length<=10000):ZgA l ae=some (ZoF l ae,((l.length:Int)-((ZoF l ae).length:Int))):=by
 have:=ZyP l ae hl ((((l.length:Nat):Int)-(0:Int)).toNat+2) 0 [] (by omega) (by omega) (by simp);simpa[ZgA]using this
theorem ZEI(l:List Zac)(ae:Int):(ZoF l ae).length<=l.length:=List.length_filter_le _ _
def Zvh(b:Zac):Bool:=ZiN b.fNet&&decide (1<=b.fUntil)&&decide (b.fUntil<=1099511627776)
theorem ZCb(b:Zac)(h:b.ok):ZgB b=some (Zvh b):=by
 simp only[ZgB,ZtV _ h.1.1,Zvh,Option.bind_some,Zak];cases ZiN b.fNet
 .rfl
 .simp only[cond_true,Bool.true_and];by_cases d:1<=b.fUntil
  .rw[if_pos (by omega),decide_eq_true d];rfl
  .rw[if_neg (by omega),decide_eq_false d];rfl
def Zoz(l:List Zac)(n:Zae):Int:=ixOf (fun x=>decide (x.fNet=n)) l 0
theorem ZxS(l:List Zac)(n:Zae)(hl:l.length<=maxLen):Zfd l n=some (Zoz l n):=by
 simp only[Zfd];rw[show ((0:Int))=((0:Nat):Int)from rfl];rw[Zua l Zac.d (fun x=>decide (x.fNet=n)) hl (fun fu i=>ZcK l fu i n) (fun i=>i) ?_ ?_ _ 0 (by omega) (by omega)]
 .rfl
 .intro fu i b;simp only[ZcK,Zak];rw[if_pos (by omega),Zar ⟨by omega,by omega⟩];simp
 .intro fu;simp only[ZcK,Zak];rw[if_neg (by omega)]
def putB(l:List Zac)(b:Zac):List Zac:=l.takeWhile (fun x=>!decide (0<cmpN x.fNet b.fNet))++[b]++l.dropWhile (fun x=>!decide (0<cmpN x.fNet b.fNet))
def ZJw(x b:Zac):Zac:=⟨x.fNet,if b.fUntil>x.fUntil then b.fUntil else x.fUntil⟩
def addB(l:List Zac)(b:Zac)(bw:Int):List Zac×Int:=if Zvh b then if 0<=Zoz l b.fNet then(l.set (Zoz l b.fNet).toNat (ZJw (l.getD (Zoz l b.fNet).toNat Zac.d) b),0)else if(l.length:Int)>=bw then([],5)else(putB l b,0)else([],1)
theorem ZCu(l:List Zac)(n:Zae)(h:0<=Zoz l n):(Zoz l n).toNat<l.length/\(l.getD (Zoz l n).toNat Zac.d).fNet=n:=by
 obtain⟨k,b,f,⟨x,g,i⟩,_⟩:=ZnV _ l 0 h;have e:(Zoz l n).toNat=k:=by unfold Zoz;rw[f];omega
 rw[e];refine⟨b,?_⟩;rw[List.getD_eq_getElem?_getD,g];simpa using i
theorem ZJj(l:List Zac)(e:Zac)(h:l.length<=10000):∀fu (i:Nat),i<=l.length->l.length-i<fu ->
  ZdG l fu (i:Int) e=some (l.take i++putB (l.drop i) e,0):=by
 have g:l.length<=maxLen:=by unfold maxLen;omega
 have bu:∀i:Nat,i<=l.length->(need (0<=(i:Int)/\(i:Int)<=((l.length:Nat):Int)) <|
   need ((([]:List Zac)++(l.take (i:Int).toNat)).length * 40<=140737488355328/\(([]:List Zac)++(l.take (i:Int).toNat)).length<=maxLen) <|
   need (((([]:List Zac)++(l.take (i:Int).toNat))++([e]:List Zac)).length * 40<=140737488355328/\((([]:List Zac)++(l.take (i:Int).toNat))++([e]:List Zac)).length<=maxLen) <|
   need ((((([]:List Zac)++(l.take (i:Int).toNat))++([e]:List Zac))++(l.drop (i:Int).toNat)).length * 40<=140737488355328/\(((([]:List Zac)++(l.take (i:Int).toNat))++([e]:List Zac))++(l.drop (i:Int).toNat)).length<=maxLen) <|
   some ((((([]:List Zac)++(l.take (i:Int).toNat))++([e]:List Zac))++(l.drop (i:Int).toNat)),(0:Int)))=some (l.take i++[e]++l.drop i,0):=by
  intro i f;rw[Zar ⟨by omega,by omega⟩,Zar (Zsk (by simp;omega)),Zar (Zsk (by simp;omega)),Zar (Zsk (by simp;omega))];simp
 intro fu;induction fu with
 |zero=>intro i _ h;omega
 |succ fu ih=>
  intro i f j;simp only[ZdG,ZJh,Option.bind_some,Zak];by_cases hlt:i<l.length
  .rw[if_pos (by omega),Zar ⟨by omega,by omega⟩];have hd:=Zfv l Zac.d i hlt;by_cases b:cmpN (l.getD i Zac.d).fNet e.fNet<=0
   .rw[if_pos (by simpa using b),add1 hlt g,ih (i+1) (by omega) (by omega)];congr 2;unfold putB;rw[hd,List.takeWhile_cons,List.dropWhile_cons,if_pos (by simp;simpa using b),if_pos (by simp;simpa using b),List.take_succ_eq_append_getElem hlt];rw[Zcn l Zac.d i hlt];simp only[List.append_assoc,List.cons_append,List.nil_append]
   .rw[if_neg (by simpa using b),bu i f];congr 2;unfold putB;rw[hd,List.takeWhile_cons,List.dropWhile_cons,if_neg (by simp;simpa using b),if_neg (by simp;simpa using b)];simp
  .rw[if_neg (by omega),bu i f];have:l.drop i=[]:=List.drop_eq_nil_of_le (by omega);rw[this];simp[putB]
theorem ZDx(l:List Zac)(b:Zac)(bw:Int)(h:l.length<=10000)(hb:b.ok):Zgg l b bw=some (addB l b bw):=by
 have j:l.length<=maxLen:=by unfold maxLen;omega
 simp only[Zgg,ZCb b hb,ZxS l _ j,Option.bind_some,addB];cases Zvh b
 .rfl
 .simp only[Bool.not_true,cond_false,if_true,Zak,ge_iff_le,List.nil_append];by_cases f:0<=Zoz l b.fNet
  .obtain⟨f1,f2⟩:=ZCu l b.fNet f;simp only[f,if_true];rw[Zar (Zsk (by omega)),Zar ⟨trivial,by omega⟩];unfold ZJw;by_cases g:b.fUntil>(l.getD (Zoz l b.fNet).toNat Zac.d).fUntil
   .simp only[g,if_true]
   .simp only[g,if_false];congr 2;have e:(⟨(l.getD (Zoz l b.fNet).toNat Zac.d).fNet,(l.getD (Zoz l b.fNet).toNat Zac.d).fUntil⟩ : Zac)=l[(Zoz l b.fNet).toNat]:=by rw[Zcn l _ _ f1]
    rw[e,List.set_getElem_self]
  .simp only[f,if_false];by_cases i:bw<=(l.length:Int)
   .simp only[i,if_true]
   .simp only[i,if_false];have:=ZJj l b h ((((l.length:Nat):Int)-(0:Int)).toNat+2) 0 (by omega) (by omega);simpa using this
def ZFD(l:List Zac)(n:Zae):List Zac×Int:=if Zoz l n<0 then([],6)else(l.take (Zoz l n).toNat++l.drop ((Zoz l n).toNat+1),0)
theorem ZGI(l:List Zac)(n:Zae)(h:l.length<=10000):ZgW l n=some (ZFD l n):=by
 have d:l.length<=maxLen:=by unfold maxLen;omega
 simp only[ZgW,ZxS l n d,Option.bind_some,Zak,ZFD];by_cases b:Zoz l n<0
 .rw[if_pos b,if_pos b]
 .rw[if_neg b,if_neg b];obtain⟨f1,_⟩:=ZCu l n (by omega);have e:Zoz l n=(((Zoz l n).toNat:Nat):Int):=by omega
  generalize (Zoz l n).toNat=k at f1 e;rw[e,add1 f1 d];simp only[Int.toNat_natCast,List.nil_append];rw[Zar ⟨by omega,by omega⟩,Zar (Zsk (by simp;omega)),Zar ⟨by omega,by omega⟩,Zar (Zsk (by simp;omega))]
theorem ZJl(l:List Zac)(e:Zac):(putB l e).length=l.length+1:=by
 unfold putB;have:=congrArg List.length (List.takeWhile_append_dropWhile (p:=fun x:Zac=>!decide (0<cmpN x.fNet e.fNet)) (l:=l));simp only[List.length_append,List.length_cons,List.length_nil]at this ⊢;omega
theorem ZEy(l:List Zac)(e:Zac)(bw:Int):(addB l e bw).1.length<=l.length+1:=by
 unfold addB
 repeat' split
 all_goals simp[ZJl]
theorem ZHW(l:List Zac)(n:Zae):(ZFD l n).1.length<=l.length:=by
 unfold ZFD;split<;>simp<;>omega
def u64r(x:Int):Prop:=0<=x/\x<=18446744073709551615
theorem Zrt(a:Int):u64r (IntKind.wrap .u64 a):=by
 unfold u64r;simp only[IntKind.wrap,IntKind.bits,IntKind.signed];simp;omega
theorem ZLy{a:Int}(h:u64r a):IntKind.wrap .u64 a=a:=ZhU h.1 h.2
theorem ZxJ{a:Int}(h:u64r a)(k:Int)(b:0<k):IntKind.wrap .u64 (Int.tdiv a k)=Int.fdiv a k:=by
 obtain⟨n,rfl⟩ : ∃n:Nat,a=n:=⟨a.toNat,by have:=h.1;omega⟩;obtain⟨m,rfl⟩ : ∃m:Nat,k=m:=⟨k.toNat,by omega⟩;have d:=h.2;rw[Int.fdiv_eq_tdiv_of_nonneg (by omega) (by omega)];refine ZLy ⟨Int.tdiv_nonneg (by omega) (by omega),?_⟩;have:Int.tdiv (n:Int) (m:Int)<=(n:Int):=by
  rw[<-Int.ofNat_tdiv];have:=Nat.div_le_self n m;omega
 omega
theorem pw30:(2:Int) ^ (min (30:Int).toNat (IntKind.bits .u64))=1073741824:=by decide
theorem pw27:(2:Int) ^ (min (27:Int).toNat (IntKind.bits .u64))=134217728:=by decide
theorem pw31:(2:Int) ^ (min (31:Int).toNat (IntKind.bits .u64))=2147483648:=by decide
theorem pw57:(2:Int) ^ (min (57:Int).toNat (IntKind.bits .u64))=144115188075855872:=by decide
theorem pw7:(2:Int) ^ (min (7:Int).toNat (IntKind.bits .u64))=128:=by decide
theorem ZCl(x:Int)(h:u64r x):∃y,Znl x=some y/\ZeS x=some y/\u64r y:=by
 unfold Znl ZeS;simp only[pw30,pw27,pw31,ZxJ h 1073741824 (by omega),ZxJ (Zrt _) 134217728 (by omega),ZxJ (Zrt _) 2147483648 (by omega)];exact⟨_,rfl,rfl,Zrt _⟩
theorem ZLI(a b:Nat)(d:a<2 ^ 64)(hb:b<2 ^ 64):IntKind.u64.wrap (((BitVec.ofInt (IntKind.bits .u64) (a:Int)) ||| (BitVec.ofInt (IntKind.bits .u64) (b:Int))).toNat:Int)=((a |||b:Nat):Int):=by
 have e:∀c:Nat,c<2 ^ 64->(BitVec.ofInt 64 (c:Int)).toNat=c:=fun c f=>by
  rw[BitVec.ofInt_natCast,BitVec.toNat_ofNat];exact Nat.mod_eq_of_lt f
 have g:((BitVec.ofInt (IntKind.bits .u64) (a:Int)) ||| (BitVec.ofInt (IntKind.bits .u64) (b:Int))).toNat=a |||b:=by
  show (BitVec.ofInt 64 (a:Int) |||BitVec.ofInt 64 (b:Int)).toNat=a |||b;rw[BitVec.toNat_or,e a d,e b hb]
 rw[g];have:=Nat.or_lt_two_pow d hb;exact ZhU (by omega) (by omega)
theorem rot7(x:Int)(h:u64r x):ZeB x 7=some (IntKind.wrap .u64 (IntKind.wrap .u64 (x * 128)+IntKind.wrap .u64 (Int.tdiv x 144115188075855872))):=by
 unfold ZeB;have b:IntKind.wrap .u64 (((BitVec.ofInt (IntKind.bits .u64) (IntKind.wrap .u64 (7:Int))) &&& (BitVec.ofInt (IntKind.bits .u64) (63:Int))).toNat:Int)=7:=by decide
 have e57:IntKind.wrap .u64 ((64:Int)-7)=57:=by decide
 simp only[b,e57,pw57,pw7];rw[Zar (by omega),Zar (by omega),ZxJ h 144115188075855872 (by omega)];obtain⟨n,rfl⟩ : ∃n:Nat,x=n:=⟨x.toNat,by have:=h.1;omega⟩;have g:=h.2;have d:IntKind.wrap .u64 ((n:Int) * 128)=((n % 2 ^ 57 * 128:Nat):Int):=by
  simp only[IntKind.wrap,IntKind.bits,IntKind.signed];simp;omega
 have e:Int.fdiv (n:Int) 144115188075855872=((n / 2 ^ 57:Nat):Int):=by
  rw[Int.fdiv_eq_tdiv_of_nonneg (by omega) (by omega)];exact(Int.ofNat_tdiv n 144115188075855872).symm
 have hlt:n % 2 ^ 57 * 128<2 ^ 64:=by omega
 have hlt2:n / 2 ^ 57<2 ^ 7:=by omega
 rw[d,e,ZLI _ _ hlt (by omega)];have f:n % 2 ^ 57 * 128 |||n / 2 ^ 57=n % 2 ^ 57 * 128+n / 2 ^ 57:=by
  have:=Nat.shiftLeft_add_eq_or_of_lt hlt2 (n % 2 ^ 57);rw[Nat.shiftLeft_eq]at this;exact this.symm
 rw[f];congr 1;rw[ZhU (by omega) (by omega)];omega
theorem ZKg(k:Int)(l:List Int)(hl:l.length<=1000):∃h,ZrI k l=some h/\ZgM k l=some h/\u64r h:=by
 have hL:l.length<=maxLen:=by unfold maxLen;omega
 have aA:∀fu (i:Nat) (v:Int),u64r v->i<=l.length->l.length-i<fu->∃h,Zkv fu v l (l.length:Int) (i:Int)=some h/\ZdX l fu v (i:Int)=some h/\u64r h:=by
  intro fu;induction fu with
  |zero=>intro i v _ _ h;omega
  |succ fu ih=>
   intro i v e o p;unfold Zkv ZdX;simp only[Zak];by_cases h:i<l.length
   .rw[if_pos (by omega),if_pos (by omega),Zar ⟨by omega,by omega⟩,Zar ⟨by omega,by omega⟩,rot7 v e];obtain⟨y,b,d,f⟩:=ZCl _ (Zrt ((l.getD ((i:Int)).toNat (0:Int))+(11400714819323198485:Int)));simp only[b,d,Option.bind_some];obtain⟨z,g,j,n⟩:=ZCl _ (Zrt (((BitVec.ofInt (IntKind.bits .u64) (IntKind.wrap .u64 (IntKind.wrap .u64 (v * 128)+IntKind.wrap .u64 (Int.tdiv v 144115188075855872)))) ^^^ (BitVec.ofInt (IntKind.bits .u64) y)).toNat:Int));simp only[g,j,Option.bind_some,add1 h hL];exact ih (i+1) z n (by omega) (by omega)
   .rw[if_neg (by omega),if_neg (by omega)];exact⟨v,rfl,rfl,e⟩
 unfold ZrI ZgM;obtain⟨y,b,d,f⟩:=ZCl _ (Zrt (k+(11400714819323198485:Int)));simp only[b,d,Option.bind_some];exact aA _ 0 y f (by omega) (by omega)
theorem ZHc(k:Int)(n:Zae):∃h,ZoO k n=some h/\ZeT k n=some h/\u64r h:=by
 unfold ZoO ZeT;cases n.fAddr.fV6
 .obtain⟨h,b,d,e⟩:=ZKg k [(4:Int),n.fAddr.fHi,n.fAddr.fLo,(IntKind.wrap .u64 n.fBits)] (by simp);simp only[cond_false,b,d,Option.bind_some];exact⟨h,rfl,rfl,e⟩
 .obtain⟨h,b,d,e⟩:=ZKg k [(6:Int),n.fAddr.fHi,n.fAddr.fLo,(IntKind.wrap .u64 n.fBits)] (by simp);simp only[cond_true,b,d,Option.bind_some];exact⟨h,rfl,rfl,e⟩
def Zxy(a:Zah):Zae:=if Zdj a=true then⟨a,(wid a:Int)⟩else⟨⟨false,0,0⟩,0⟩
theorem ZJM(b lo:Nat)(g:b<2 ^ 64)(j:lo<2 ^ 64):∀fu (i:Nat) (z:Int),i<=64->64-i<fu->(i<64->z=((2 ^ (63-i):Nat):Int)) ->
  ZbD (b:Int) (lo:Int) 128 fu ((b-b % 2 ^ (64-i):Nat):Int) ((lo-lo % 2 ^ (64-i):Nat):Int) z (i:Int)=some ((b:Int),(lo:Int)):=by
 intro fu;induction fu with
 |zero=>intro i z _ h;omega
 |succ fu ih=>
  intro i z hi64 y f;unfold ZbD;simp only[Zak];by_cases h:i<64
  .have t:Zaq (i:Int) 64=((i+64:Nat):Int):=by rw[Zcm (by omega) (by omega)];omega
   have u:Zaq (i:Int) 1=((i+1:Nat):Int):=by rw[Zcm (by omega) (by omega)];omega
   have f:=f h;obtain⟨p,d⟩ : ∃p:Nat,p=2 ^ (63-i):=⟨_,rfl⟩;have gD:0<p:=by rw[d];exact Nat.two_pow_pos _
   have aX:2 ^ (64-i)=2*p:=by rw[d,show 64-i=(63-i)+1 by omega,Nat.pow_succ];omega
   have hp3:p<=2 ^ 63:=by rw[d];exact Nat.pow_le_pow_right (by omega) (by omega)
   have bg:p<2 ^ 64:=by omega
   rw[<-d]at f;subst f;have j5:IntKind.wrap .u64 (Int.tdiv (p:Int) 2)=((p / 2:Nat):Int):=by
    rw[ZxJ ⟨by omega,by omega⟩ 2 (by omega),Int.fdiv_eq_tdiv_of_nonneg (by omega) (by omega)];exact(Int.ofNat_tdiv p 2).symm
   have cq:i+1<64->((p / 2:Nat):Int)=((2 ^ (63-(i+1)):Nat):Int):=fun o=>by
    have:p=2 * 2 ^ (63-(i+1)):=by rw[d,show 63-i=(63-(i+1))+1 by omega,Nat.pow_succ];omega
    rw[this];congr 1;omega
   have bit:∀n:Nat,n<2 ^ 64->IntKind.wrap .u64 (Int.tdiv (n:Int) (p:Int))=((n / p:Nat):Int):=fun n v=>by
    rw[ZxJ ⟨by omega,by omega⟩ _ (by omega),Int.fdiv_eq_tdiv_of_nonneg (by omega) (by omega)];exact(Int.ofNat_tdiv n p).symm
   have step:∀n:Nat,n<2 ^ 64->(n / p % 2=1->IntKind.wrap .u64 (((n-n % 2 ^ (64-i):Nat):Int)+(p:Int))=((n-n % 2 ^ (64-(i+1)):Nat):Int))/\(n / p % 2≠1->((n-n % 2 ^ (64-i):Nat):Int)=((n-n % 2 ^ (64-(i+1)):Nat):Int)):=fun n v=>by
    have e:2 ^ (64-(i+1))=p:=by rw[d];congr 1;omega
    rw[e,aX];have r:n % (2*p)=n % p+p*(n / p % 2):=by rw[Nat.mul_comm 2 p];exact Nat.mod_mul
    have hm2:n % p<p:=Nat.mod_lt _ gD;have hm3:n % (2*p)<=n:=Nat.mod_le _ _;refine⟨fun hb=>?_,fun hb=>?_⟩
    .rw[hb,Nat.mul_one]at r;rw[ZhU (by omega) (by omega)];omega
    .have br:n / p % 2=0:=by omega
     rw[br,Nat.mul_zero]at r;rw[r];congr 1
   have tm:∀n:Nat,((Int.tmod ((n:Nat):Int) 2)==(1:Int))=decide (n % 2=1):=fun n=>by
    have:Int.tmod ((n:Nat):Int) 2=((n % 2:Nat):Int):=(Int.ofNat_tmod n 2).symm;rw[this];by_cases o:n % 2=1
    .rw[o];rfl
    .rw[decide_eq_false o];exact beq_false_of_ne (by omega)
   have b5:∀v8:Int,v8=((b-b % 2 ^ (64-(i+1)):Nat):Int)->ZdH (b:Int) (lo:Int) 128 ((lo-lo % 2 ^ (64-i):Nat):Int) (p:Int) (i:Int) (ZbD (b:Int) (lo:Int) 128 fu) v8=some ((b:Int),(lo:Int)):=by
    rintro v8 rfl;unfold ZdH;simp only[Zak,t,u,j5,bit lo j,tm];rw[if_pos (by omega),Zar (by omega)];by_cases hb:lo / p % 2=1
    .rw[if_pos hb,(step lo j).1 hb];exact ih (i+1) _ (by omega) (by omega) cq
    .rw[if_neg hb,(step lo j).2 hb];exact ih (i+1) _ (by omega) (by omega) cq
   rw[if_pos (by omega),if_pos (by omega),Zar (by omega)];simp only[bit b g,tm,Zak];by_cases hb:b / p % 2=1
   .rw[if_pos hb];exact b5 _ ((step b g).1 hb)
   .rw[if_neg hb];exact b5 _ ((step b g).2 hb)
  .have:i=64:=by omega
   subst this;rw[if_neg (by omega)];simp[Nat.mod_one]
theorem ZGF(b lo:Nat)(d:b<2 ^ 64)(e:lo<2 ^ 64):Zee (b:Int) (lo:Int) 128=some ((b:Int),(lo:Int)):=by
 unfold Zee;have:=ZJM b lo d e 66 0 9223372036854775808 (by omega) (by omega) (fun _=>by decide);have f:b-b % 2 ^ (64-0)=0:=by rw[Nat.sub_zero,Nat.mod_eq_of_lt d];omega
 have g:lo-lo % 2 ^ (64-0)=0:=by rw[Nat.sub_zero,Nat.mod_eq_of_lt e];omega
 rw[f,g]at this;exact this
theorem ZJf(a:Zah)(h:a.ok):ZgY a=some (Zxy a):=by
 unfold ZgY ZiK Zxy;simp only[Zvk,Option.bind_some,ZjW a h,Zak];by_cases d:Zdj a=true
 .rw[d,Bool.not_true,cond_false,if_neg (by omega),if_neg (by omega),if_pos rfl];unfold ZiJ Zft Zfs;simp only[ZjW a h,d,Bool.not_true,cond_false,Option.bind_some,Zak,Zvk];rw[if_neg (by omega),if_neg (by omega)];have b:=Zrl h d;obtain⟨v6,g,lo⟩:=a;have j:=b.hi0;have n:=b.hi1;have o:=b.lo0;have p:=b.lo1;simp only at j n o p;obtain⟨x,rfl⟩ : ∃x:Nat,g=x:=⟨g.toNat,by omega⟩;obtain⟨y,rfl⟩ : ∃y:Nat,lo=y:=⟨lo.toNat,by omega⟩;cases v6
  .have i:=b.v4 rfl;have e:wid ⟨false,(x:Int),(y:Int)⟩=32:=rfl;have r:Zaq (96:Int) ((32:Nat):Int)=128:=by decide
   simp only[e,r,cond_false];have:=ZGF 0 y (by omega) (by omega);have f:Zee (0:Int) (y:Int) 128=some (((0:Nat):Int),(y:Int)):=this;rw[f,Option.bind_some];simp only at i;simp[i.1]
  .have e:wid ⟨true,(x:Int),(y:Int)⟩=128:=rfl;simp only[e,cond_true];have:=ZGF x y (by omega) (by omega);have f:Zee (x:Int) (y:Int) ((128:Nat):Int)=some ((x:Int),(y:Int)):=this;rw[f,Option.bind_some];rfl
 .simp[d]
end Go.Proofs.YtmnloegcpaahcaaGreat
