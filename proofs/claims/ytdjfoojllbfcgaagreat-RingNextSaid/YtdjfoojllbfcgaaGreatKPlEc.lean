import Derived.Test.YtdjfoojllbfcgaaGreatKPlA
import Derived.Test.YtdjfoojllbfcgaaGreatKRngA3
namespace Go.Proofs.YtdjfoojllbfcgaaGreat
set_option linter.unusedSimpArgs false
set_option linter.unusedVariables false
theorem ZiK{a:Int}(h:0≤a):∃n:Nat,a=n:=⟨a.toNat,by omega⟩
def ZcP(a:Zag):Bool:=if a.fV6 then !(decide (a.fHi=0)&&decide (a.fLo / 4294967296=65535))else decide (a.fHi=0)&&decide (a.fLo<4294967296)
theorem ZHU(n:Nat)(h:n≤18446744073709551615):IntKind.u32.wrap (IntKind.u64.wrap (((BitVec.ofInt (IntKind.bits .u64) (n:Int)) &&& (BitVec.ofInt (IntKind.bits .u64) (4294967295:Int))).toNat:Int))=((n % 4294967296:Nat):Int):=by
 have:=ZAg n 4294967295 (by omega) (by omega);rw[show ((4294967295:Nat):Int)=(4294967295:Int)from rfl]at this;rw[this,show (4294967295:Nat)=2 ^ 32-1 from rfl,Nat.and_two_pow_sub_one_eq_mod];rw[show (2:Nat) ^ 32=4294967296 from rfl];have h1:n % 4294967296<4294967296:=Nat.mod_lt _ (by omega);rw[Zhi (by omega) (by omega)];simp only[IntKind.wrap,IntKind.bits,IntKind.signed];simp
theorem ZHI(n:Nat)(h:n<4294967296):Znz ((n:Nat):Int)=some ⟨false,0,n⟩:=by
 unfold Znz;rw[Zhi (by omega) (by omega)]
theorem Zjy(a:Zag)(h:a.ok):Zen a=some (ZcP a):=by
 obtain⟨v,hi,lo⟩:=a;obtain⟨_,h1,h2,_⟩:=h;have h1:=ZjC h1;have h2:=ZjC h2;simp only at h1 h2;obtain⟨n,rfl⟩:=ZiK h2.1;have hm:=ZHU n (by omega);have hlt:n % 4294967296<4294967296:=Nat.mod_lt _ (by omega);have hd:Int.fdiv (n:Int) (2 ^ (min (32:Int).toNat (IntKind.bits .u64)))=(n:Int) / 4294967296:=by
  rw[show (2:Int) ^ (min (32:Int).toNat (IntKind.bits .u64))=4294967296 from rfl,Int.fdiv_eq_ediv_of_nonneg _ (by omega)]
 cases v with
 |true=>
  simp only[Zen,Zrp,ZcP,cond_true,hd,hm];have hb:∀(p q:Int),(p==q)=decide (p=q):=fun p q=>by rw[Bool.eq_iff_iff];simp
  have hv:=ZHI _ hlt;by_cases h3:hi=0
  ·by_cases h4:(n:Int) / 4294967296=65535
   ·rw[hb,hb,decide_eq_true h3,decide_eq_true h4,cond_true,cond_true,hv];simp
   ·rw[hb,hb,decide_eq_true h3,decide_eq_false h4,cond_true,cond_false];simp
  ·rw[hb,decide_eq_false h3,cond_false];simp
 |false=>
  simp only[Zen,ZcP,cond_false,hm,ZHI _ hlt,Option.bind_some];congr 1;rw[Bool.eq_iff_iff];simp;constructor
  ·rintro ⟨h5,h6⟩;exact⟨h5.symm,by omega⟩
  ·rintro ⟨h5,h6⟩;exact⟨h5.symm,by omega⟩
theorem ZjB(a:Zag)(h:a.ok):Zbu a=some (ZcP a):=by
 obtain⟨v,hi,lo⟩:=a;obtain⟨_,h1,h2,_⟩:=h;have h1:=ZjC h1;have h2:=ZjC h2;simp only at h1 h2;have hd:IntKind.u64.wrap (Int.tdiv lo 4294967296)=lo / 4294967296:=by
  rw[Int.tdiv_eq_ediv_of_nonneg h2.1];exact Zhi (by omega) (by omega)
 cases v with
 |true=>
  simp only[Zbu,ZcP,hd,Bool.not_true,cond_false,if_true];generalize lo / 4294967296=q;simp only[Bool.cond_eq_ite,beq_iff_eq,bne_iff_ne,ne_eq,decide_eq_true_eq,Bool.not_eq_true',Bool.not_eq_false',decide_eq_false_iff_not]
  repeat' split
  all_goals first|rfl | (rw[Option.some.injEq,Bool.eq_iff_iff];simp only[Bool.and_eq_true,Bool.not_eq_true',Bool.not_eq_false',Bool.and_eq_false_iff,decide_eq_true_eq,decide_eq_false_iff_not,beq_iff_eq,bne_iff_ne,ne_eq,iff_true,iff_false,true_iff,false_iff,Bool.false_eq_true,Bool.true_eq_false,not_true_eq_false,not_false_eq_true];omega)
 |false=>
  simp only[Zbu,ZcP,Bool.not_false,cond_true,Bool.false_eq_true,if_false];simp only[Bool.cond_eq_ite,beq_iff_eq,bne_iff_ne,ne_eq,decide_eq_true_eq,Bool.not_eq_true',Bool.not_eq_false',decide_eq_false_iff_not]
  repeat' split
  all_goals first|rfl | (rw[Option.some.injEq,Bool.eq_iff_iff];simp only[Bool.and_eq_true,Bool.not_eq_true',Bool.not_eq_false',Bool.and_eq_false_iff,decide_eq_true_eq,decide_eq_false_iff_not,beq_iff_eq,bne_iff_ne,ne_eq,iff_true,iff_false,true_iff,false_iff,Bool.false_eq_true,Bool.true_eq_false,not_true_eq_false,not_false_eq_true];omega)
theorem ZFq(a b:Zag):Zey a b=some (cmpA a b):=by
 obtain⟨v,hi,lo⟩:=a;obtain⟨v',hi',lo'⟩:=b;simp only[Zey,ZdB,ZdA,cmpA,famA,cmpI,orI,Zag.mk.injEq];simp only[Bool.cond_eq_ite,bne_iff_ne,ne_eq,ite_not,decide_eq_true_eq,Bool.not_eq_true',beq_eq_false_iff_ne];cases v<;>cases v'<;>simp only[true_and,Bool.false_eq_true,Bool.true_eq_false,false_and,not_true_eq_false,not_false_eq_true,if_true,if_false,ite_true,ite_false,Bool.not_true,Bool.not_false]
 all_goals (repeat' split)<;>first|rfl|omega | (congr 1;omega)|simp_all
def ZkG(a:Zaj):Bool:=ZcP a.fAddr&&decide (1≤a.fPort)&&decide (a.fPort≤65535)
theorem ZvL(a:Zaj)(h:a.ok):Zif a=some (ZkG a):=by
 simp only[Zif,Zjy _ h.1,ZkG,Option.bind_some];generalize ZcP a.fAddr=b;cases b<;>simp only[cond_true,cond_false,Bool.true_and,Bool.false_and];simp only[Bool.cond_eq_ite,beq_iff_eq,bne_iff_ne,ne_eq,decide_eq_true_eq,Bool.not_eq_true',Bool.not_eq_false',decide_eq_false_iff_not]
 repeat' split
 all_goals first|rfl | (rw[Option.some.injEq,Bool.eq_iff_iff];simp only[Bool.and_eq_true,Bool.not_eq_true',Bool.not_eq_false',Bool.and_eq_false_iff,decide_eq_true_eq,decide_eq_false_iff_not,beq_iff_eq,bne_iff_ne,ne_eq,iff_true,iff_false,true_iff,false_iff,Bool.false_eq_true,Bool.true_eq_false,not_true_eq_false,not_false_eq_true];omega)
theorem Zso(a:Zaj)(h:a.ok):Zeg a=some (ZkG a):=by
 simp only[Zeg,ZjB _ h.1,ZkG,Option.bind_some];generalize ZcP a.fAddr=b;cases b<;>simp only[cond_true,cond_false,Bool.true_and,Bool.false_and];simp only[Bool.cond_eq_ite,beq_iff_eq,bne_iff_ne,ne_eq,decide_eq_true_eq,Bool.not_eq_true',Bool.not_eq_false',decide_eq_false_iff_not]
 repeat' split
 all_goals first|rfl | (rw[Option.some.injEq,Bool.eq_iff_iff];simp only[Bool.and_eq_true,Bool.not_eq_true',Bool.not_eq_false',Bool.and_eq_false_iff,decide_eq_true_eq,decide_eq_false_iff_not,beq_iff_eq,bne_iff_ne,ne_eq,iff_true,iff_false,true_iff,false_iff,Bool.false_eq_true,Bool.true_eq_false,not_true_eq_false,not_false_eq_true];omega)
def ZlF(e:Zaa):Bool:=ZkG e.fEnd&&decide (1≤e.fState)&&decide (e.fState≤3)&&decide (0≤e.fFails)&&decide (e.fFails≤1000)&&decide (0≤e.fNext)&&decide (e.fNext≤1099511627776)
theorem ZIa(n:Int):(n==(if(1099511627776:Int)<(if(0:Int)>n then(0:Int)else n)then(1099511627776:Int)else(if(0:Int)>n then(0:Int)else n)))=(decide (0≤n)&&decide (n≤1099511627776)):=by
 rw[Bool.eq_iff_iff];simp only[beq_iff_eq,Bool.and_eq_true,decide_eq_true_eq];constructor
 ·intro h;(repeat' split at h)<;>omega
 ·intro h;(repeat' split)<;>omega
theorem Zqz(e:Zaa)(h:e.ok):Zhn e=some (ZlF e):=by
 simp only[Zhn,ZvL _ h.1,Zgh,ZIa,ZlF,Option.bind_some];generalize ZkG e.fEnd=b;cases b<;>simp only[cond_true,cond_false,Bool.true_and,Bool.false_and]
 all_goals
  simp only[Bool.cond_eq_ite,beq_iff_eq,bne_iff_ne,ne_eq,decide_eq_true_eq,Bool.not_eq_true',Bool.not_eq_false',decide_eq_false_iff_not]
  repeat' split
  all_goals first|rfl | (rw[Option.some.injEq,Bool.eq_iff_iff];simp only[Bool.and_eq_true,Bool.not_eq_true',Bool.not_eq_false',Bool.and_eq_false_iff,decide_eq_true_eq,decide_eq_false_iff_not,beq_iff_eq,bne_iff_ne,ne_eq,iff_true,iff_false,true_iff,false_iff,Bool.false_eq_true,Bool.true_eq_false,not_true_eq_false,not_false_eq_true];omega)
theorem ZmD(e:Zaa)(h:e.ok):Zdr e=some (ZlF e):=by
 simp only[Zdr,Zso _ h.1,ZlF,Option.bind_some];generalize ZkG e.fEnd=b;cases b<;>simp only[cond_true,cond_false,Bool.true_and,Bool.false_and];simp only[Bool.cond_eq_ite,beq_iff_eq,bne_iff_ne,ne_eq,decide_eq_true_eq,Bool.not_eq_true',Bool.not_eq_false',decide_eq_false_iff_not]
 repeat' split
 all_goals first|rfl | (rw[Option.some.injEq,Bool.eq_iff_iff];simp only[Bool.and_eq_true,Bool.not_eq_true',Bool.not_eq_false',Bool.and_eq_false_iff,decide_eq_true_eq,decide_eq_false_iff_not,beq_iff_eq,bne_iff_ne,ne_eq,iff_true,iff_false,true_iff,false_iff,Bool.false_eq_true,Bool.true_eq_false,not_true_eq_false,not_false_eq_true];omega)
def cmpE(a b:Zaj):Int:=orI (cmpA a.fAddr b.fAddr) (cmpI a.fPort b.fPort)
theorem ZBc(a b:Zaj):ZhI a b=some (cmpE a b):=by
 simp only[ZhI,ZBq,ZwW,or2,Option.bind_some,cmpE]
theorem ZAy(a b:Zaj):Zdy a b=some (cmpE a b):=by
 simp only[Zdy,ZFq,Option.bind_some,cmpE,orI,cmpI];simp only[Bool.cond_eq_ite,bne_iff_ne,ne_eq,ite_not,decide_eq_true_eq,beq_iff_eq];generalize cmpA a.fAddr b.fAddr=c
 (repeat' split)<;>first|rfl|omega | (congr 1;omega)|simp_all
theorem ZEz{a b:Zaj}:cmpE a b<0↔cmpA a.fAddr b.fAddr<0∨(a.fAddr=b.fAddr∧a.fPort<b.fPort):=by simp only[cmpE,ZxM,Zul,ZnC]
theorem ZHx{a b:Zaj}:0<cmpE a b↔0<cmpA a.fAddr b.fAddr∨(a.fAddr=b.fAddr∧b.fPort<a.fPort):=by simp only[cmpE,ZAE,ZwX,ZnC]
theorem ZEy{a b:Zaj}:cmpE a b=0↔a=b:=by
 simp only[cmpE,ZsO,ZkX,ZnC];obtain⟨x,p⟩:=a;obtain⟨y,q⟩:=b;simp
theorem ZrA{a b:Zaj}:0<cmpE a b↔cmpE b a<0:=by
 rw[ZHx,ZEz,ZyD];constructor<;>rintro (h|⟨h1,h2⟩)<;>first|exact .inl h|exact .inr ⟨h1.symm,h2⟩
theorem ZCt{a b c:Zaj}(h1:cmpE a b<0)(h2:cmpE b c<0):cmpE a c<0:=by
 rw[ZEz]at *
 rcases h1 with h1|⟨h1,h3⟩<;>rcases h2 with h2|⟨h2,h4⟩
 ·exact .inl (ZvO h1 h2)
 ·exact .inl (h2 ▸ h1)
 ·exact .inl (h1 ▸ h2)
 ·exact .inr ⟨h1.trans h2,by omega⟩
def ZkW(l:List Zaa)(e:Zaj):Int:=ixOf (fun x=>decide (x.fEnd=e)) l 0
def ZvQ(l:List Zaa)(e:Zaj):Int:=ixOf (fun x=>decide (0<cmpE x.fEnd e)) l 0
theorem ZrB(l:List Zaa)(e:Zaj)(hl:l.length≤maxLen):Zik l e=some (ZkW l e):=by
 simp only[Zik,ZbW];rw[show ((0:Int))=((0:Nat):Int)from rfl];rw[ZrP l Zaa.d (fun x=>decide (x.fEnd=e)) hl (fun fu i=>ZaL l e fu (l.length:Int) i) (fun i=>i) ?_ ?_ _ 0 (by omega) (by omega)]
 ·rfl
 ·intro fu i hi;simp only[ZaL,Zlo,Zao,Option.bind_some];rw[if_pos (by omega),Zaz ⟨by omega,by omega⟩];simp
 ·intro fu;simp only[ZaL,Zao];rw[if_neg (by omega)]
theorem ZsK(l:List Zaa)(e:Zaj)(hl:l.length≤maxLen):Zdb l e=some (ZkW l e):=by
 simp only[Zdb];rw[show ((0:Int))=((0:Nat):Int)from rfl];rw[ZrP l Zaa.d (fun x=>decide (x.fEnd=e)) hl (fun fu i=>Zcv l fu i e) (fun i=>i) ?_ ?_ _ 0 (by omega) (by omega)]
 ·rfl
 ·intro fu i hi;simp only[Zcv,Zao];rw[if_pos (by omega),Zaz ⟨by omega,by omega⟩];simp
 ·intro fu;simp only[Zcv,Zao];rw[if_neg (by omega)]
theorem ZCx(l:List Zaa)(e:Zaa)(hl:l.length≤maxLen):Zbz l e=some (ZvQ l e.fEnd):=by
 simp only[Zbz];rw[show ((0:Int))=((0:Nat):Int)from rfl];rw[ZrP l Zaa.d (fun x=>decide (0<cmpE x.fEnd e.fEnd)) hl (fun fu i=>ZaM l e fu (l.length:Int) i) (fun i=>i) ?_ ?_ _ 0 (by omega) (by omega)]
 ·rfl
 ·intro fu i hi;simp only[ZaM,ZmC,ZBc,Zao,Option.bind_some];rw[if_pos (by omega),Zaz ⟨by omega,by omega⟩];simp
 ·intro fu;simp only[ZaM,Zao];rw[if_neg (by omega)]
def putS(l:List Zaa)(e:Zaa):List Zaa:=l.takeWhile (fun x=>!decide (0<cmpE x.fEnd e.fEnd))++[e]++l.dropWhile (fun x=>!decide (0<cmpE x.fEnd e.fEnd))
def addS(l:List Zaa)(e:Zaa)(most:Int):List Zaa×Int:=if ZlF e then if 0≤ZkW l e.fEnd then([],7)else if(l.length:Int)≥most then([],5)else(putS l e,0)else([],1)
theorem ZBj(l:List Zaa)(h:l.length≤10000):ZaP l=some l:=by
 unfold ZaP;rw[Zaz ⟨by omega,ZkF (by omega)⟩]
theorem ZxZ(l:List Zaa)(i:Int)(e:Zaa)(h:l.length≤10000)(h0:0≤i)(h1:i.toNat≤l.length):Zbc l i [e]=some (l.take i.toNat++[e]++l.drop i.toNat):=by
 unfold Zbc;rw[Zaz ⟨h0,h1,by simp,by simp only[List.length_cons,List.length_nil];omega,ZkF (by simp only[List.length_cons,List.length_nil];omega)⟩]
theorem ZFT(l:List Zaa)(e:Zaa)(most:Int)(h:l.length≤10000)(he:e.ok):Zny l e most=some (addS l e most):=by
 have hm:l.length≤maxLen:=ZkF (by omega);have hs:=ZvB (fun x:Zaa=>decide (0<cmpE x.fEnd e.fEnd)) l 0;have hle:=Zzy (fun x:Zaa=>decide (0<cmpE x.fEnd e.fEnd)) l 0;simp only[Zny,Zqz e he,ZrB l _ hm,ZCx l e hm,ZBj l h,Option.bind_some,addS];cases ZlF e
 ·rfl
 ·simp only[Bool.not_true,cond_false,if_true,Zao,ge_iff_le];by_cases h1:0≤ZkW l e.fEnd
  ·simp only[h1,if_true]
  ·simp only[h1,if_false];by_cases h2:most≤(l.length:Int)
   ·simp only[h2,if_true]
   ·simp only[h2,if_false];by_cases h3:ZvQ l e.fEnd<0
    ·rw[if_pos h3,ZxZ l _ e h (by omega) (by simp)];simp only[Option.bind_some];obtain⟨h4,h5⟩:=hs.1 h3;unfold putS;rw[h4,h5];simp
    ·rw[if_neg h3];have h3':0≤ZvQ l e.fEnd:=by omega
     unfold ZvQ at h3';rw[ZxZ l _ e h (by omega) (by unfold ZvQ;omega)];simp only[Option.bind_some];obtain⟨_,h4,h5⟩:=hs.2 h3';unfold putS ZvQ;rw[h4,h5];rfl
theorem ZGU(l:List Zaa)(e:Zaa)(h:l.length≤10000):∀fu (i:Nat),i≤l.length→l.length-i<fu →
  Zdc l fu (i:Int) e=some (l.take i++putS (l.drop i) e,0):=by
 have hm:l.length≤maxLen:=ZkF (by omega);have hfin:∀i:Nat,i≤l.length→(need (0≤(i:Int)∧(i:Int)≤((l.length:Nat):Int)) <|
   need ((([]:List Zaa)++(l.take (i:Int).toNat)).length * 56≤140737488355328∧(([]:List Zaa)++(l.take (i:Int).toNat)).length≤maxLen) <|
   need (((([]:List Zaa)++(l.take (i:Int).toNat))++([e]:List Zaa)).length * 56≤140737488355328∧((([]:List Zaa)++(l.take (i:Int).toNat))++([e]:List Zaa)).length≤maxLen) <|
   need ((((([]:List Zaa)++(l.take (i:Int).toNat))++([e]:List Zaa))++(l.drop (i:Int).toNat)).length * 56≤140737488355328∧(((([]:List Zaa)++(l.take (i:Int).toNat))++([e]:List Zaa))++(l.drop (i:Int).toNat)).length≤maxLen) <|
   some ((((([]:List Zaa)++(l.take (i:Int).toNat))++([e]:List Zaa))++(l.drop (i:Int).toNat)),(0:Int)))=some (l.take i++[e]++l.drop i,0):=by
  intro i hi;have b:∀n:Nat,n≤10001→n * 56≤140737488355328∧n≤maxLen:=fun n hn=>⟨by omega,ZkF (by omega)⟩;rw[Zaz ⟨by omega,by omega⟩,Zaz (b _ (by simp;omega)),Zaz (b _ (by simp;omega)),Zaz (b _ (by simp;omega))];simp
 intro fu;induction fu with
 |zero=>intro i _ h;omega
 |succ fu ih=>
  intro i hi hf;simp only[Zdc,ZAy,Option.bind_some,Zao];by_cases hlt:i<l.length
  ·rw[if_pos (by omega),Zaz ⟨by omega,by omega⟩];have hd:=Zgx l Zaa.d i hlt;by_cases hc:cmpE (l.getD i Zaa.d).fEnd e.fEnd≤0
   ·rw[if_pos (by simpa using hc),add1 hlt hm,ih (i+1) (by omega) (by omega)];congr 2;unfold putS;rw[hd,List.takeWhile_cons,List.dropWhile_cons,if_pos (by simp;simpa using hc),if_pos (by simp;simpa using hc),List.take_succ_eq_append_getElem hlt];rw[Zjh l Zaa.d i hlt];simp only[List.append_assoc,List.cons_append,List.nil_append]
   ·rw[if_neg (by simpa using hc),hfin i hi];congr 2;unfold putS;rw[hd,List.takeWhile_cons,List.dropWhile_cons,if_neg (by simp;simpa using hc),if_neg (by simp;simpa using hc)];simp
  ·rw[if_neg (by omega),hfin i hi];have:l.drop i=[]:=List.drop_eq_nil_of_le (by omega);rw[this];simp[putS]
theorem ZDj(l:List Zaa)(e:Zaa)(most:Int)(h:l.length≤10000)(he:e.ok):Zfb l e most=some (addS l e most):=by
 have hm:l.length≤maxLen:=ZkF (by omega);simp only[Zfb,ZmD e he,ZsK l _ hm,Option.bind_some,addS];cases ZlF e
 ·rfl
 ·simp only[Bool.not_true,cond_false,if_true,Zao,ge_iff_le];by_cases h1:0≤ZkW l e.fEnd
  ·simp only[h1,if_true]
  ·simp only[h1,if_false];by_cases h2:most≤(l.length:Int)
   ·simp only[h2,if_true]
   ·simp only[h2,if_false];have:=ZGU l e h ((((l.length:Nat):Int)-(0:Int)).toNat+2) 0 (by omega) (by omega);rw[show ((0:Nat):Int)=0 from rfl]at this;rw[this];rfl
def setS(l:List Zaa)(e:Zaa):List Zaa:=if 0≤ZkW l e.fEnd then l.set (ZkW l e.fEnd).toNat e else l
theorem Zsg(l:List Zaa)(e:Zaj):ZkW l e<(l.length:Int):=by
 have:=Zzy (fun x:Zaa=>decide (x.fEnd=e)) l 0;simpa[ZkW]using this
theorem ZFS(l:List Zaa)(e:Zaa)(h:l.length≤10000):ZlB l e=some (setS l e):=by
 have hm:l.length≤maxLen:=ZkF (by omega);have:=Zsg l e.fEnd;simp only[ZlB,ZBj l h,ZrB l _ hm,Option.bind_some,Zao,setS,ge_iff_le];split
 ·rename_i h1;rw[Zaz ⟨h1,this⟩]
 ·rfl
theorem ZDh(l:List Zaa)(e:Zaa)(h:l.length≤10000):Zgq l e=some (setS l e):=by
 have hm:l.length≤maxLen:=ZkF (by omega);have:=Zsg l e.fEnd;simp only[Zgq,ZsK l _ hm,Option.bind_some,Zao,setS,List.nil_append];split
 ·rename_i h1;rw[if_neg (by omega)]
 ·rename_i h1;rw[Zaz ⟨by omega,hm⟩,Zaz ⟨by omega,this⟩,if_pos (by omega)]
theorem ZFu(l:List Zaa)(e:Zaa):(putS l e).length=l.length+1:=by
 unfold putS;have:=congrArg List.length (List.takeWhile_append_dropWhile (p:=fun x:Zaa=>!decide (0<cmpE x.fEnd e.fEnd)) (l:=l));simp only[List.length_append,List.length_cons,List.length_nil]at this ⊢;omega
theorem ZGa(l:List Zaa)(e:Zaa)(most:Int):(addS l e most).1.length≤l.length+1:=by
 unfold addS
 repeat' split
 all_goals simp[ZFu]
theorem ZFc(l:List Zaa)(e:Zaa):(setS l e).length=l.length:=by
 unfold setS;split<;>simp
theorem ZDT{l:List Zaa}{e:Zaj}:ZkW l e<0↔∀x∈l,x.fEnd≠e:=by
 unfold ZkW;rw[ZsR];simp
def fitI(n:Int):Int:=if n<0 then 0 else if n>1099511627776 then 1099511627776 else n
theorem ZmZ(n:Int):Zgh n=some (fitI n):=by
 unfold Zgh fitI;congr 1
 repeat' split
 all_goals omega
theorem ZoL(n:Int):Zco n=some (fitI n):=by
 unfold Zco fitI;simp only[Zao]
 repeat' split
 all_goals first|rfl|omega
theorem Zsf(n:Int):0≤fitI n∧fitI n≤1099511627776:=by
 unfold fitI
 repeat' split
 all_goals omega
def Zyk(l:List Zab)(e:Zaj):Int:=ixOf (fun x=>decide (x.fEnd=e)) l 0
theorem ZBx(l:List Zab)(e:Zaj)(hl:l.length≤maxLen):Zjr l e=some (Zyk l e):=by
 simp only[Zjr,Zch];have:=ZrP l Zab.d (fun x=>decide (x.fEnd=e)) hl (fun fu i=>ZaO l e fu (l.length:Int) i) (fun i=>i) (fun fu i hi=>by
   simp only[ZaO,Zkw,Zao,Option.bind_some];rw[if_pos (by omega),Zaz ⟨by omega,by omega⟩];simp) (fun fu=>by
   simp only[ZaO,Zao];rw[if_neg (by omega)]) ((((l.length:Nat):Int)-(0:Int)).toNat+2) 0 (by omega) (by omega)
 simp only[Int.natCast_zero,List.drop_zero]at this;rw[this];rfl
theorem ZxC(l:List Zab)(e:Zaj)(hl:l.length≤maxLen):Zee l e=some (Zyk l e):=by
 simp only[Zee];have:=ZrP l Zab.d (fun x=>decide (x.fEnd=e)) hl (fun fu i=>Zcl l fu i e) (fun i=>i) (fun fu i hi=>by
   simp only[Zcl,Zao];rw[if_pos (by omega),Zaz ⟨by omega,by omega⟩];simp) (fun fu=>by
   simp only[Zcl,Zao];rw[if_neg (by omega)]) ((((l.length:Nat):Int)-(0:Int)).toNat+2) 0 (by omega) (by omega)
 simp only[Int.natCast_zero,List.drop_zero]at this;rw[this];rfl
def wid(a:Zag):Nat:=if a.fV6 then 128 else 32
def num(a:Zag):Nat:=if a.fV6 then 2 ^ 64*a.fHi.toNat+a.fLo.toNat else a.fLo.toNat
def bitN(a:Zag)(i:Nat):Bool:=(num a).testBit (wid a-1-i)
structure Fits (a:Zag):Prop where
 hi0:0≤a.fHi
 hi1:a.fHi≤18446744073709551615
 lo0:0≤a.fLo
 lo1:a.fLo≤18446744073709551615
 v4:a.fV6=false→a.fHi=0∧a.fLo<4294967296
theorem Zog{a:Zag}(h:a.ok)(hr:ZcP a=true):Fits a:=by
 have h1:=ZjC h.2.1;have h2:=ZjC h.2.2.1;refine⟨h1.1,h1.2,h2.1,h2.2,fun hv=>?_⟩;unfold ZcP at hr;rw[hv]at hr;simpa using hr
theorem Fits.ok{a:Zag}(h:Fits a):a.ok:=by
 refine⟨trivial,?_,?_,trivial⟩
 ·have:=h.hi0;have:=h.hi1;simp only[okI,Lit.wf,IntKind.min,IntKind.max,IntKind.bits,IntKind.signed];simp;omega
 ·have:=h.lo0;have:=h.lo1;simp only[okI,Lit.wf,IntKind.min,IntKind.max,IntKind.bits,IntKind.signed];simp;omega
theorem ZGt{a:Zag}(h:Fits a):num a<2 ^ wid a:=by
 have:=h.hi0;have:=h.hi1;have:=h.lo0;have:=h.lo1;unfold num wid;cases hv:a.fV6
 ·have:=h.v4 hv;simp only[Bool.false_eq_true,if_false];omega
 ·simp only[if_true];omega
theorem ZrD{a b:Zag}(ha:Fits a)(hb:Fits b)(hv:a.fV6=b.fV6)(h:∀i,i<wid a→bitN a i=bitN b i):a=b:=by
 have hn:num a=num b:=by
  apply Nat.eq_of_testBit_eq;intro j;have hw:wid a=wid b:=by unfold wid;rw[hv]
  by_cases hj:j<wid a
  ·have:=h (wid a-1-j) (by omega);unfold bitN at this;rw[←hw]at this;rw[show wid a-1-(wid a-1-j)=j by omega]at this;exact this
  ·rw[Nat.testBit_lt_two_pow (Nat.lt_of_lt_of_le (ZGt ha) (Nat.pow_le_pow_right (by omega) (by omega))),Nat.testBit_lt_two_pow (Nat.lt_of_lt_of_le (ZGt hb) (Nat.pow_le_pow_right (by omega) (by omega)))]
 have:=ha.hi0;have:=ha.hi1;have:=ha.lo0;have:=ha.lo1;have:=hb.hi0;have:=hb.hi1;have:=hb.lo0;have:=hb.lo1;obtain⟨v,hi,lo⟩:=a;obtain⟨v',hi',lo'⟩:=b;simp only at hv;subst hv;simp only[num]at hn;simp only[Zag.mk.injEq,true_and];cases v
 ·have:=ha.v4 rfl;have:=hb.v4 rfl;simp only[Bool.false_eq_true,if_false]at *
  omega
 ·simp only[if_true]at *
  omega
theorem Zxa(n k T:Nat)(hk:k≤T)(h:n<2 ^ T):n &&& (2 ^ T-2 ^ k)=n-n % 2 ^ k:=by
 have h1:n-n % 2 ^ k=2 ^ k*(n / 2 ^ k):=by have:=Nat.div_add_mod n (2 ^ k);omega
 rw[h1];apply Nat.eq_of_testBit_eq;intro i;have h2:2 ^ T-2 ^ k=2 ^ k*(2 ^ (T-k)-1):=by
  rw[Nat.mul_sub,←Nat.pow_add,Nat.mul_one];congr 2;omega
 rw[Nat.testBit_and,h2,Nat.testBit_two_pow_mul,Nat.testBit_two_pow_mul,Nat.testBit_two_pow_sub_one,Nat.testBit_div_two_pow];by_cases hi:k≤i
 ·by_cases h3:i<T
  ·simp[hi,show i-k<T-k by omega,show i-k+k=i by omega]
  ·have:n.testBit i=false:=Nat.testBit_lt_two_pow (Nat.lt_of_lt_of_le h (Nat.pow_le_pow_right (by omega) (by omega)));simp[hi,this,show i-k+k=i by omega]
 ·simp[hi]
theorem ZAa(n k j:Nat):(n-n % 2 ^ k).testBit j=(decide (k≤j)&&n.testBit j):=by
 have h1:n-n % 2 ^ k=2 ^ k*(n / 2 ^ k):=by have:=Nat.div_add_mod n (2 ^ k);omega
 rw[h1,Nat.testBit_two_pow_mul,Nat.testBit_div_two_pow];by_cases h:k≤j
 ·simp[h,show j-k+k=j by omega]
 ·simp[h]
theorem ZpK(a b:Nat)(ha:a<2 ^ 64)(hb:b<2 ^ 64):IntKind.u64.wrap (((BitVec.ofInt (IntKind.bits .u64) (a:Int)) &&& (BitVec.ofInt (IntKind.bits .u64) (b:Int))).toNat:Int)=((a &&& b:Nat):Int):=by
 rw[ZAg a b ha hb];have:a &&& b<2 ^ 64:=Nat.and_lt_two_pow _ hb;exact Zhi (by omega) (by omega)
theorem ZHK:∀n:Fin 65,ZeI ((n.val:Nat):Int)=some (((2 ^ 64-2 ^ (64-n.val):Nat)):Int):=by decide +kernel
theorem Zxn(n:Nat)(h:n≤64):ZeI ((n:Nat):Int)=some (((2 ^ 64-2 ^ (64-n):Nat)):Int):=ZHK ⟨n,by omega⟩
theorem Zxo(n:Int):ZeI n=ZeI (if(64:Int)<(if(0:Int)>n then(0:Int)else n)then(64:Int)else(if(0:Int)>n then(0:Int)else n)):=by
 unfold ZeI;have e:∀m:Int,0≤m→m≤64→(if(64:Int)<(if(0:Int)>m then(0:Int)else m)then(64:Int)else(if(0:Int)>m then(0:Int)else m))=m:=fun m h1 h2=>by
  repeat' split
  all_goals omega
 rw[e (if(64:Int)<(if(0:Int)>n then(0:Int)else n)then(64:Int)else(if(0:Int)>n then(0:Int)else n)) (by repeat' split<;>omega) (by repeat' split<;>omega)]
theorem ZGK(n:Int)(h:n≤0):ZeI n=some 0:=by
 rw[Zxo,show (if(64:Int)<(if(0:Int)>n then(0:Int)else n)then(64:Int)else(if(0:Int)>n then(0:Int)else n))=((0:Nat):Int)by repeat' split<;>omega,Zxn 0 (by omega)]
 rfl
theorem ZEY(n:Int)(h:64≤n):ZeI n=some 18446744073709551615:=by
 rw[Zxo,show (if(64:Int)<(if(0:Int)>n then(0:Int)else n)then(64:Int)else(if(0:Int)>n then(0:Int)else n))=((64:Nat):Int)by repeat' split<;>omega,Zxn 64 (by omega)]
 rfl
def Zjg(a:Zag)(n:Nat):Zag:=if a.fV6 then(if n≤64 then⟨true,((a.fHi.toNat-a.fHi.toNat % 2 ^ (64-n):Nat):Int),0⟩else⟨true,a.fHi,((a.fLo.toNat-a.fLo.toNat % 2 ^ (128-n):Nat):Int)⟩)else⟨false,a.fHi,((a.fLo.toNat-a.fLo.toNat % 2 ^ (32-n):Nat):Int)⟩
theorem ZDx{a:Zag}(h:a.ok)(hr:ZcP a=true)(n:Nat)(hn:n≤wid a):Zhu a (n:Int)=some (Zjg a n):=by
 have hf:=Zog h hr;have hright:=Zjy a h;have hA:=hf.hi0;have hB:=hf.hi1;have hC:=hf.lo0;have hD:=hf.lo1;obtain⟨v,hi,lo⟩:=a;obtain⟨p,hp⟩:=ZiK hf.hi0;obtain⟨q,hq⟩:=ZiK hf.lo0;simp only at hp hq hA hB hC hD;subst hp hq;cases v with
 |false=>
  have hv:=hf.v4 rfl;simp only at hv;have hn:n≤32:=hn;have hmin:(if(32:Int)<(if(0:Int)>(n:Int)then(0:Int)else(n:Int))then(32:Int)else(if(0:Int)>(n:Int)then(0:Int)else(n:Int)))=(n:Int):=by repeat' split<;>omega
  simp only[Zhu,hright,hr,Option.bind_some,Bool.not_true,cond_false,Zdt,Bool.not_false,cond_true,hmin,Zxn n (by omega)];have hp:(2:Nat) ^ (64-n)=2 ^ 32 * 2 ^ (32-n):=by rw[←Nat.pow_add];congr 1;omega
  have hp1:(2:Nat) ^ (32-n)≤2 ^ 32:=Nat.pow_le_pow_right (by omega) (by omega);have hp0:0<(2:Nat) ^ (32-n):=Nat.pow_pos (by omega);have hd:(2 ^ 64-2 ^ (64-n):Nat) / 4294967296=2 ^ 32-2 ^ (32-n):=by
   rw[hp];generalize (2:Nat) ^ (32-n)=z at *
   omega
  have e3:Int.fdiv ((2 ^ 64-2 ^ (64-n):Nat):Int) (2 ^ (min (32:Int).toNat (IntKind.bits .u64)))=((2 ^ 32-2 ^ (32-n):Nat):Int):=by
   rw[show (2:Int) ^ (min (32:Int).toNat (IntKind.bits .u64))=4294967296 from rfl,Int.fdiv_eq_ediv_of_nonneg _ (by omega),←hd];rfl
  rw[e3,ZpK q _ (by omega) (by generalize (2:Nat) ^ (32-n)=z at *;omega),Zxa q (32-n) 32 (by omega) (by omega)];simp[Zjg]
 |true=>
  have hn:n≤128:=hn;have hmin:(if(128:Int)<(if(0:Int)>(n:Int)then(0:Int)else(n:Int))then(128:Int)else(if(0:Int)>(n:Int)then(0:Int)else(n:Int)))=(n:Int):=by repeat' split<;>omega
  simp only[Zhu,hright,hr,Option.bind_some,Bool.not_true,cond_false,Zdt,cond_true,hmin,Zka];have hs:Zby (n:Int) 64=(n:Int)-64:=ZhO (by omega) (by omega);rw[hs];by_cases h64:n≤64
  ·rw[Zxn n h64,ZGK _ (by omega)];simp only[Option.bind_some];rw[ZpK p _ (by omega) (by have:=Nat.pow_pos (a:=2) (n:=64-n) (by omega);omega),Zxa p (64-n) 64 (by omega) (by omega)];have:=ZpK q 0 (by omega) (by omega);rw[Nat.and_zero]at this;rw[show (0:Int)=((0:Nat):Int)from rfl,this];simp[Zjg,h64]
  ·rw[ZEY _ (by omega),show (n:Int)-64=((n-64:Nat):Int)by omega,Zxn (n-64) (by omega)];simp only[Option.bind_some];have e1:=ZpK p 18446744073709551615 (by omega) (by omega);have e2:=Zxa p 0 64 (by omega) (by omega);rw[show (2:Nat) ^ 64-2 ^ 0=18446744073709551615 from rfl,Nat.pow_zero,Nat.mod_one,Nat.sub_zero]at e2;rw[e2]at e1;rw[show (18446744073709551615:Int)=((18446744073709551615:Nat):Int)from rfl,e1];rw[show 64-(n-64)=128-n by omega,ZpK q _ (by omega) (by have:=Nat.pow_pos (a:=2) (n:=128-n) (by omega);omega),Zxa q (128-n) 64 (by omega) (by omega)];simp[Zjg,h64]
theorem Ziq(a:Zag)(n:Nat):(Zjg a n).fV6=a.fV6:=by
 unfold Zjg;cases h:a.fV6
 ·rfl
 ·simp only[if_true];split<;>rfl
theorem Zjp{a:Zag}(h:Fits a)(n:Nat):Fits (Zjg a n):=by
 have:=h.hi0;have:=h.hi1;have:=h.lo0;have:=h.lo1;have l:∀x y:Nat,x-x % y≤x:=fun x y=>Nat.sub_le _ _;have l1:=l a.fHi.toNat (2 ^ (64-n));have l2:=l a.fLo.toNat (2 ^ (128-n));have l3:=l a.fLo.toNat (2 ^ (32-n));unfold Zjg;cases hv:a.fV6
 ·have:=h.v4 hv;simp only[Bool.false_eq_true,if_false];exact⟨by simp only;omega,by simp only;omega,by simp only;omega,by simp only;omega,fun _=>⟨this.1,by simp only;omega⟩⟩
 ·simp only[if_true];split
  ·exact⟨by simp only;omega,by simp only;omega,by simp only;omega,by simp only;omega,fun h=>by simp at h⟩
  ·exact⟨by simp only;omega,by simp only;omega,by simp only;omega,by simp only;omega,fun h=>by simp at h⟩
theorem ZnK{hi lo j:Nat}(hl:lo<2 ^ 64):(2 ^ 64*hi+lo).testBit j=if j<64 then lo.testBit j else hi.testBit (j-64):=Nat.testBit_two_pow_mul_add hi hl j
theorem ZkD{a:Zag}(h:Fits a)(n i:Nat)(hn:n≤wid a)(hi:i<wid a):bitN (Zjg a n) i=(decide (i<n)&&bitN a i):=by
 have h1:=h.hi0;have h2:=h.hi1;have h3:=h.lo0;have h4:=h.lo1;unfold bitN;have hw:wid (Zjg a n)=wid a:=by unfold wid;rw[Ziq]
 rw[hw];unfold wid at hn hi ⊢;unfold num Zjg;cases hv:a.fV6
 ·simp only[hv,Bool.false_eq_true,if_false]at *
  rw[Int.toNat_natCast,ZAa];congr 1;rw[decide_eq_decide];omega
 ·simp only[hv,if_true]at *
  have hlo:a.fLo.toNat<2 ^ 64:=by omega
  by_cases h64:n≤64
  ·simp only[h64,if_true,Int.toNat_natCast];rw[ZnK (by simp),ZnK hlo];by_cases hj:128-1-i<64
   ·simp only[hj,if_true];rw[show (decide (i<n))=false by rw[decide_eq_false_iff_not];omega];simp
   ·simp only[hj,if_false];rw[ZAa];congr 1;rw[decide_eq_decide];omega
  ·simp only[h64,if_false,if_true,Int.toNat_natCast];rw[ZnK (Nat.lt_of_le_of_lt (Nat.sub_le _ _) hlo),ZnK hlo];by_cases hj:128-1-i<64
   ·simp only[hj,if_true];rw[ZAa];congr 1;rw[decide_eq_decide];omega
   ·simp only[hj,if_false];rw[show (decide (i<n))=true by rw[decide_eq_true_eq];omega];simp
theorem ZBX{a:Zag}(h:Fits a)(hr:ZcP a=true)(n:Nat):ZcP (Zjg a n)=true:=by
 have h1:=h.hi0;have h2:=h.hi1;have h3:=h.lo0;have h4:=h.lo1;unfold Zjg;cases hv:a.fV6
 ·have:=h.v4 hv;have l3:a.fLo.toNat-a.fLo.toNat % 2 ^ (32-n)≤a.fLo.toNat:=Nat.sub_le _ _;simp[ZcP,this.1];omega
 ·simp only[if_true];split
  ·simp[ZcP]
  ·rename_i h64;unfold ZcP at hr ⊢;rw[hv]at hr;simp only[if_true,Bool.not_eq_true',Bool.and_eq_false_iff,decide_eq_false_iff_not]at hr ⊢;rcases hr with hr|hr
   ·exact .inl hr
   ·refine .inr fun e=>hr ?_;have e':(a.fLo.toNat-a.fLo.toNat % 2 ^ (128-n)) / 4294967296=65535:=by omega
    have hx:a.fLo.toNat-a.fLo.toNat % 2 ^ (128-n)=2 ^ (128-n)*(a.fLo.toNat / 2 ^ (128-n)):=by have:=Nat.div_add_mod a.fLo.toNat (2 ^ (128-n));omega
    rw[hx]at e';by_cases hk:128-n≤32
    ·have hp:(4294967296:Nat)=2 ^ (128-n) * 2 ^ (32-(128-n)):=by
      rw[←Nat.pow_add,show 128-n+(32-(128-n))=32 by omega]
     rw[hp,Nat.mul_div_mul_left _ _ (Nat.pow_pos (by omega)),Nat.div_div_eq_div_mul,←hp]at e';omega
    ·have hp:(2:Nat) ^ (128-n)=4294967296*(2 * 2 ^ (128-n-33)):=by
      rw[show (4294967296:Nat)*(2 * 2 ^ (128-n-33))=2 ^ 33 * 2 ^ (128-n-33)by omega,←Nat.pow_add];congr 1;omega
     rw[hp,Nat.mul_assoc,Nat.mul_div_cancel_left _ (by omega),Nat.mul_assoc]at e';omega
def ZhU(p:Zai):Bool:=ZcP p.fAddr&&decide (0≤p.fBits)&&decide (p.fBits≤(wid p.fAddr:Int))&&decide (Zjg p.fAddr p.fBits.toNat=p.fAddr)
structure RN (p:Zai):Prop where
 ok:p.fAddr.ok
 right:ZcP p.fAddr=true
 nn:0≤p.fBits
 le:p.fBits≤(wid p.fAddr:Int)
 cut:Zjg p.fAddr p.fBits.toNat=p.fAddr
theorem RN.fits{p:Zai}(h:RN p):Fits p.fAddr:=Zog h.ok h.right
theorem Zvi{p:Zai}(h:p.fAddr.ok):ZhU p=true↔RN p:=by
 unfold ZhU;simp only[Bool.and_eq_true,decide_eq_true_eq];exact⟨fun⟨⟨⟨a,b⟩,c⟩,d⟩=>⟨h,a,b,c,d⟩,fun⟨_,a,b,c,d⟩=>⟨⟨⟨a,b⟩,c⟩,d⟩⟩
theorem ZAe(a:Zag):Zdt a=some (wid a:Int):=by
 unfold Zdt wid;cases a.fV6<;>rfl
theorem Zzw(a:Zag)(h:a.ok)(n:Int):Zfd a n=some (if ZcP a=true∧0≤n∧n≤(wid a:Int)then(⟨Zjg a n.toNat,n⟩,true)else(⟨⟨false,0,0⟩,0⟩,false)):=by
 simp only[Zfd,Zjy a h,ZAe,Option.bind_some,Zao];cases hr:ZcP a
 ·simp
 ·simp only[Bool.not_true,cond_false,true_and];by_cases h0:n<0
  ·rw[if_pos h0,if_neg (by omega)]
  ·rw[if_neg h0];by_cases h1:n>(wid a:Int)
   ·rw[if_pos h1,if_neg (by omega)]
   ·rw[if_neg h1,if_pos (by omega)];have:=ZDx h hr n.toNat (by omega);rw[Int.toNat_of_nonneg (by omega)]at this;rw[this];rfl
theorem ZnD(p:Zai)(h:p.fAddr.ok):Zhg p=some (ZhU p):=by
 simp only[Zhg,Zzw _ h,Option.bind_some];unfold ZhU;split
 ·rename_i hh;simp only[cond_true,hh.1,hh.2.1,hh.2.2,decide_true,Bool.true_and,Option.some.injEq];rw[decide_eq_decide];obtain⟨x,n⟩:=p;simp
 ·rename_i hh;simp only[cond_false,Option.some.injEq];rw[eq_comm,Bool.eq_false_iff];intro hq;simp only[Bool.and_eq_true,decide_eq_true_eq]at hq;exact hh ⟨hq.1.1.1,hq.1.1.2,hq.1.2⟩
def bs(p:Zai):List Bool:=(List.range p.fBits.toNat).map (bitN p.fAddr)
theorem ZGB(p:Zai):(bs p).length=p.fBits.toNat:=by simp[bs]
theorem ZGC(p:Zai)(i:Nat)(h:i<p.fBits.toNat):(bs p)[i]?=some (bitN p.fAddr i):=by simp[bs,h]
theorem ZCZ{p:Zai}(h:RN p)(i:Nat)(hi:i<wid p.fAddr)(hn:p.fBits.toNat≤i):bitN p.fAddr i=false:=by
 have h1:=ZkD h.fits p.fBits.toNat i (by have:=h.le;omega) hi;rw[h.cut]at h1;rw[h1];rw[show decide (i<p.fBits.toNat)=false by rw[decide_eq_false_iff_not];omega];rfl
theorem ZHP{p q:Zai}(hp:RN p)(hq:RN q)(hv:p.fAddr.fV6=q.fAddr.fV6)(hb:bs p=bs q):p=q:=by
 have hw:wid p.fAddr=wid q.fAddr:=by unfold wid;rw[hv]
 have hn:p.fBits=q.fBits:=by
  have:=congrArg List.length hb;rw[ZGB,ZGB]at this;have:=hp.nn;have:=hq.nn;omega
 have ha:p.fAddr=q.fAddr:=by
  refine ZrD hp.fits hq.fits hv fun i hi=>?_;by_cases h:i<p.fBits.toNat
  ·have h1:=ZGC p i h;rw[hb,ZGC q i (by omega)]at h1;exact(Option.some.inj h1).symm
  ·rw[ZCZ hp i hi (by omega),ZCZ hq i (by omega) (by omega)]
 obtain⟨x,n⟩:=p;obtain⟨y,m⟩:=q;simp only at hn ha;rw[hn,ha]
theorem ZGR{a:Zag}(h:a.ok)(hr:ZcP a=true)(n:Nat)(hn:n≤wid a):RN ⟨Zjg a n,(n:Int)⟩∧bs ⟨Zjg a n,(n:Int)⟩=(List.range n).map (bitN a):=by
 have hf:=Zog h hr;have hw:wid (Zjg a n)=wid a:=by unfold wid;rw[Ziq]
 refine⟨⟨(Zjp hf n).ok,ZBX hf hr n,by simp only;omega,by simp only;omega,?_⟩,?_⟩
 ·simp only[Int.toNat_natCast];refine ZrD (Zjp (Zjp hf n) n) (Zjp hf n) (Ziq _ _) fun i hi=>?_;have hi:i<wid a:=by unfold wid at hi ⊢;rwa [Ziq,Ziq]at hi
  rw[ZkD (Zjp hf n) n i (by omega) (by omega),ZkD hf n i hn hi];cases decide (i<n)<;>simp
 ·unfold bs;simp only[Int.toNat_natCast];apply List.map_congr_left;intro i hi;have hi:i<n:=by simpa using hi
  rw[ZkD hf n i hn (by omega),show decide (i<n)=true by rw[decide_eq_true_eq];exact hi];rfl
theorem ZHY(p:Zai)(a:Zag)(hp:RN p)(ha:a.ok):Znx p a=some (ZcP a&&decide (p.fAddr.fV6=a.fV6)&&decide (∀i,i<p.fBits.toNat→bitN a i=bitN p.fAddr i)):=by
 have hrc:=(Zvi hp.ok).2 hp;simp only[Znx,ZnD p hp.ok,hrc,Zjy a ha,Option.bind_some,cond_true];cases hr:ZcP a
 ·rfl
 ·simp only[cond_true,Bool.true_and];by_cases hv:p.fAddr.fV6=a.fV6
  ·have hw:wid p.fAddr=wid a:=by unfold wid;rw[hv]
   have hm:=ZDx ha hr p.fBits.toNat (by have:=hp.le;omega);rw[Int.toNat_of_nonneg hp.nn]at hm;have hf:=Zog ha hr;rw[show (p.fAddr.fV6==a.fV6)=true by simp[hv],cond_true,hm,decide_eq_true hv];simp only[Option.bind_some,Bool.true_and,Option.some.injEq];rw[decide_eq_decide];have hle:p.fBits.toNat≤wid a:=by have:=hp.le;omega
   constructor
   ·intro e i hi;have h1:=ZkD hf p.fBits.toNat i hle (by omega);rw[e,decide_eq_true hi]at h1;simpa using h1.symm
   ·intro h;refine ZrD (Zjp hf _) hp.fits (by rw[Ziq];exact hv.symm) fun i hi=>?_;have hi:i<wid a:=by unfold wid at hi ⊢;rwa [Ziq]at hi
    rw[ZkD hf p.fBits.toNat i hle hi];by_cases hb:i<p.fBits.toNat
    ·rw[decide_eq_true hb,h i hb];rfl
    ·rw[decide_eq_false hb,ZCZ hp i (by omega) (by omega)];rfl
  ·rw[show (p.fAddr.fV6==a.fV6)=false by simp[hv],cond_false,decide_eq_false hv];rfl
theorem Zsl(n k:Nat)(hk:k<64)(hn:n<2 ^ 64):IntKind.i64.wrap (IntKind.u64.wrap (((BitVec.ofInt (IntKind.bits .u64) (Int.fdiv (n:Int) (2 ^ (min ((k:Nat):Int).toNat (IntKind.bits .u64))))) &&& (BitVec.ofInt (IntKind.bits .u64) (1:Int))).toNat:Int))=if n.testBit k then 1 else 0:=by
 rw[Int.toNat_natCast,show min k (IntKind.bits .u64)=k from Nat.min_eq_left (by simp[IntKind.bits];omega)];have e:Int.fdiv (n:Int) (2 ^ k)=((n / 2 ^ k:Nat):Int):=by
  rw[Int.fdiv_eq_ediv_of_nonneg _ (by have:(0:Int)<2 ^ k:=Int.pow_pos (by omega);omega)];simp
 have h1:n / 2 ^ k<2 ^ 64:=Nat.lt_of_le_of_lt (Nat.div_le_self _ _) hn;rw[e,show (1:Int)=((1:Nat):Int)from rfl,ZpK _ 1 h1 (by omega),Nat.and_one_is_mod,Nat.testBit_eq_decide_div_mod_eq];have h2:n / 2 ^ k % 2<2:=Nat.mod_lt _ (by omega);have h3:IntKind.i64.wrap ((n / 2 ^ k % 2:Nat):Int)=((n / 2 ^ k % 2:Nat):Int):=by
  simp only[IntKind.wrap,IntKind.bits,IntKind.signed];simp;omega
 rw[h3];simp only[decide_eq_true_eq];split<;>omega
theorem ZEL{a:Zag}(h:Fits a)(i:Nat)(hi:i<wid a):Zhd a (i:Int)=some (if bitN a i then 1 else 0):=by
 have h1:=h.hi0;have h2:=h.hi1;have h3:=h.lo0;have h4:=h.lo1;obtain⟨v,hi',lo⟩:=a;obtain⟨p,hp⟩:=ZiK h.hi0;obtain⟨q,hq⟩:=ZiK h.lo0;simp only at hp hq h1 h2 h3 h4;subst hp hq;cases v with
 |false=>
  have hi:i<32:=hi;have hv:=h.v4 rfl;simp only at hv;have e:Zby (Zby (32:Int) 1) (i:Int)=((31-i:Nat):Int):=by rw[show Zby (32:Int) 1=31 from rfl,ZhO (by omega) (by omega)];omega
  simp only[Zhd,Zdt,cond_false,Option.bind_some,Zao,e];rw[if_neg (by omega),if_neg (by omega),if_neg (by omega),Zaz (by omega),Zsl q _ (by omega) (by omega)];rfl
 |true=>
  have hi:i<128:=hi;have e:Zby (Zby (128:Int) 1) (i:Int)=((127-i:Nat):Int):=by rw[show Zby (128:Int) 1=127 from rfl,ZhO (by omega) (by omega)];omega
  simp only[Zhd,Zdt,cond_true,Option.bind_some,Zao,e];rw[if_neg (by omega),if_neg (by omega)];have hb:bitN ⟨true,(p:Int),(q:Int)⟩ i=if 127-i<64 then q.testBit (127-i)else p.testBit (127-i-64):=by
   unfold bitN num wid;simp only[if_true,Int.toNat_natCast];rw[ZnK (by omega)]
  rw[hb];by_cases h64:i<64
  ·have e2:Zby ((127-i:Nat):Int) 64=((127-i-64:Nat):Int):=by rw[ZhO (by omega) (by omega)];omega
   rw[if_pos (by omega),e2,Zaz (by omega),Zsl p _ (by omega) (by omega),if_neg (show ¬127-i<64 by omega)]
  ·rw[if_neg (by omega),Zaz (by omega),Zsl q _ (by omega) (by omega),if_pos (show 127-i<64 by omega)]
theorem ZvX{p:Zai}(h:RN p)(i:Nat)(hi:i<wid p.fAddr):ZhF p (i:Int)=some (if bitN p.fAddr i then 1 else 0):=by
 simp only[ZhF,ZEL h.fits i hi,Option.bind_some]
def Len(z r:Nat):Prop:=z<2 ^ r∧(0<r→2 ^ (r-1)≤z)
theorem ZtG{z r:Nat}(k:Nat)(hz:2 ^ k≤z)(h:Len (z / 2 ^ k) r):Len z (r+k)∧0<r:=by
 have hk:0<2 ^ k:=Nat.pow_pos (by omega);have h1:1≤z / 2 ^ k:=(Nat.le_div_iff_mul_le hk).2 (by omega);have hr:0<r:=by
  rcases Nat.eq_zero_or_pos r with e|e
  ·subst e;have:=h.1;simp at this;omega
  ·exact e
 refine⟨⟨?_,fun _=>?_⟩,hr⟩
 ·rw[Nat.pow_add];exact(Nat.div_lt_iff_lt_mul hk).1 h.1
 ·have:=(Nat.le_div_iff_mul_le hk).1 (h.2 hr);rw[←Nat.pow_add]at this;rwa [show r+k-1=r-1+k by omega]
set_option maxRecDepth 100000 in
theorem ZHV:∃T:ByteArray,T.size=256∧(∀i:Fin 256,i.val<2 ^ Zkp T i.val∧(0<Zkp T i.val→2 ^ (Zkp T i.val-1)≤i.val)∧Zkp T i.val≤8)∧∀v0 v2:Int,Zeb v0 v2 =
  bif(decide (v0≥(256:Int)))then
   need (0≤(IntKind.wrap .u8 (Int.fdiv v0 (2 ^ (min (8:Int).toNat (IntKind.bits .u64)))))∧(IntKind.wrap .u8 (Int.fdiv v0 (2 ^ (min (8:Int).toNat (IntKind.bits .u64)))))<((T.size:Nat):Int)) <|
   some (ZaC (ZaC v2 (8:Int)) (IntKind.wrap .i64 ((Zkp T (IntKind.wrap .u8 (Int.fdiv v0 (2 ^ (min (8:Int).toNat (IntKind.bits .u64))))).toNat:Nat):Int)))
  else
   need (0≤(IntKind.wrap .u8 v0)∧(IntKind.wrap .u8 v0)<((T.size:Nat):Int)) <|
   some (ZaC v2 (IntKind.wrap .i64 ((Zkp T (IntKind.wrap .u8 v0).toNat:Nat):Int))):=by
 refine⟨_,?_,?_,fun v0 v2=>rfl⟩
 ·rfl
 ·decide +kernel
theorem ZCJ{a:Int}(h:0≤a)(h':a<256):IntKind.u8.wrap a=a:=by
 simp only[IntKind.wrap,IntKind.bits,IntKind.signed];simp;omega
theorem Zxi{a:Int}(h:0≤a)(h':a<256):IntKind.i64.wrap a=a:=by
 simp only[IntKind.wrap,IntKind.bits,IntKind.signed];simp;omega
theorem ZHX(z v:Nat)(hz:z<65536)(hv:v≤1000):∃r,Len z r∧r≤16∧Zeb (z:Int) (v:Int)=some ((v+r:Nat):Int):=by
 obtain⟨T,hT,hi,he⟩:=ZHV;rw[he,Zao,hT];by_cases h:256≤z
 ·rw[if_pos (by omega)];have e:Int.fdiv (z:Int) (2 ^ (min (8:Int).toNat (IntKind.bits .u64)))=((z / 256:Nat):Int):=by
   rw[show (2:Int) ^ (min (8:Int).toNat (IntKind.bits .u64))=256 from rfl,Int.fdiv_eq_ediv_of_nonneg _ (by omega)];rfl
  obtain⟨h1,h2,h3⟩:=hi ⟨z / 256,by omega⟩;simp only at h1 h2 h3;rw[e,ZCJ (by omega) (by omega),Zaz (by omega),Int.toNat_natCast,Zxi (by omega) (by omega)];obtain⟨h4,h5⟩:=ZtG (z:=z) (r:=Zkp T (z / 256)) 8 (by omega) ⟨by rw[show (2:Nat) ^ 8=256 from rfl];exact h1,by rw[show (2:Nat) ^ 8=256 from rfl];exact h2⟩;refine⟨_,h4,by omega,?_⟩;rw[ZgM (a:=(v:Int)) (by omega) (by omega),ZgM (by omega) (by omega)];congr 1;omega
 ·rw[if_neg (by omega)];obtain⟨h1,h2,h3⟩:=hi ⟨z,by omega⟩;simp only at h1 h2 h3;rw[ZCJ (by omega) (by omega),Zaz (by omega),Int.toNat_natCast,Zxi (by omega) (by omega)];refine⟨_,⟨h1,h2⟩,by omega,?_⟩;rw[ZgM (by omega) (by omega)];congr 1
theorem ZHW(z v:Nat)(hz:z<4294967296)(hv:v≤900):∃r,Len z r∧r≤32∧Zec (z:Int) (v:Int)=some ((v+r:Nat):Int):=by
 simp only[Zec,Zao];by_cases h:65536≤z
 ·rw[if_pos (by omega)];have e:Int.fdiv (z:Int) (2 ^ (min (16:Int).toNat (IntKind.bits .u64)))=((z / 65536:Nat):Int):=by
   rw[show (2:Int) ^ (min (16:Int).toNat (IntKind.bits .u64))=65536 from rfl,Int.fdiv_eq_ediv_of_nonneg _ (by omega)];rfl
  rw[e,show ZaC (v:Int) 16=((v+16:Nat):Int)by rw[ZgM (by omega) (by omega)];omega];obtain⟨r,h1,h2,h3⟩:=ZHX (z / 65536) (v+16) (by omega) (by omega);obtain⟨h4,_⟩:=ZtG (z:=z) 16 (by omega) (by rw[show (2:Nat) ^ 16=65536 from rfl];exact h1);exact⟨r+16,h4,by omega,by rw[h3];congr 2;omega⟩
 ·rw[if_neg (by omega)];obtain⟨r,h1,h2,h3⟩:=ZHX z v (by omega) (by omega);exact⟨r,h1,by omega,h3⟩
theorem len64(z:Nat)(hz:z<2 ^ 64):∃r,Len z r∧r≤64∧Zha (z:Int)=some ((r:Nat):Int):=by
 simp only[Zha,Zao];by_cases h:4294967296≤z
 ·rw[if_pos (by omega)];have e:Int.fdiv (z:Int) (2 ^ (min (32:Int).toNat (IntKind.bits .u64)))=((z / 4294967296:Nat):Int):=by
   rw[show (2:Int) ^ (min (32:Int).toNat (IntKind.bits .u64))=4294967296 from rfl,Int.fdiv_eq_ediv_of_nonneg _ (by omega)];rfl
  rw[e];obtain⟨r,h1,h2,h3⟩:=ZHW (z / 4294967296) 32 (by omega) (by omega);obtain⟨h4,_⟩:=ZtG (z:=z) 32 (by omega) (by rw[show (2:Nat) ^ 32=4294967296 from rfl];exact h1);exact⟨r+32,h4,by omega,by rw[show (32:Int)=((32:Nat):Int)from rfl,h3];congr 2;omega⟩
 ·rw[if_neg (by omega)];obtain⟨r,h1,h2,h3⟩:=ZHW z 0 (by omega) (by omega);exact⟨r,h1,by omega,by rw[show (0:Int)=((0:Nat):Int)from rfl,h3];congr 2;omega⟩
theorem ZCH(a b:Nat)(ha:a<2 ^ 64)(hb:b<2 ^ 64):IntKind.u64.wrap (((BitVec.ofInt (IntKind.bits .u64) (a:Int)) ^^^ (BitVec.ofInt (IntKind.bits .u64) (b:Int))).toNat:Int)=((a ^^^ b:Nat):Int):=by
 have h1:∀c:Nat,c<2 ^ 64→(BitVec.ofInt 64 (c:Int)).toNat=c:=fun c hc=>by
  rw[BitVec.ofInt_natCast,BitVec.toNat_ofNat];exact Nat.mod_eq_of_lt hc
 have h2:((BitVec.ofInt (IntKind.bits .u64) (a:Int)) ^^^ (BitVec.ofInt (IntKind.bits .u64) (b:Int))).toNat=a ^^^ b:=by
  show (BitVec.ofInt 64 (a:Int) ^^^ BitVec.ofInt 64 (b:Int)).toNat=a ^^^ b;rw[BitVec.toNat_xor,h1 a ha,h1 b hb]
 rw[h2];have:a ^^^ b<2 ^ 64:=Nat.xor_lt_two_pow ha hb;exact Zhi (by omega) (by omega)
theorem lead(a b:Nat)(ha:a<2 ^ 64)(hb:b<2 ^ 64):∃k,k≤64∧ZcH ((a ^^^ b:Nat):Int)=some ((k:Nat):Int)∧(∀j,64-k≤j→a.testBit j=b.testBit j)∧(k<64→a.testBit (63-k)≠b.testBit (63-k))∧(k=64↔a ^^^ b=0):=by
 have hx:a ^^^ b<2 ^ 64:=Nat.xor_lt_two_pow ha hb;obtain⟨r,h1,h2,h3⟩:=len64 (a ^^^ b) hx;refine⟨64-r,by omega,?_,fun j hj=>?_,fun hk=>?_,?_⟩
 ·simp only[ZcH,h3,Option.bind_some];rw[ZhO (by omega) (by omega)];congr 1;omega
 ·have h4:(a ^^^ b).testBit j=false:=Nat.testBit_lt_two_pow (Nat.lt_of_lt_of_le h1.1 (Nat.pow_le_pow_right (by omega) (by omega)));rw[Nat.testBit_xor]at h4
  revert h4
  cases a.testBit j<;>cases b.testBit j<;>simp
 ·have h4:(a ^^^ b).testBit (r-1)=true:=by
   have h5:=h1.2 (by omega);have h6:a ^^^ b<2 ^ (r-1) * 2:=by rw[←Nat.pow_succ,show (r-1).succ=r by omega];exact h1.1
   rw[Nat.testBit_eq_decide_div_mod_eq,decide_eq_true_eq];have h7:(a ^^^ b) / 2 ^ (r-1)=1:=by
    have hp:0<2 ^ (r-1):=Nat.pow_pos (by omega);have:=(Nat.le_div_iff_mul_le hp).2 (show 1 * 2 ^ (r-1)≤a ^^^ b by omega);have:=(Nat.div_lt_iff_lt_mul hp).2 (show a ^^^ b<2 * 2 ^ (r-1)by omega);omega
   rw[h7]
  rw[show 63-(64-r)=r-1 by omega];rw[Nat.testBit_xor]at h4
  revert h4
  cases a.testBit (r-1)<;>cases b.testBit (r-1)<;>simp
 ·constructor
  ·intro e;have:r=0:=by omega
   subst this;have:=h1.1;simpa using this
  ·intro e;rw[e]at h1;rcases Nat.eq_zero_or_pos r with h|h
   ·omega
   ·have:=h1.2 h;have:0<2 ^ (r-1):=Nat.pow_pos (by omega);omega
theorem ZEu{p q:Zai}(hp:RN p)(hq:RN q)(hv:p.fAddr.fV6=q.fAddr.fV6) :
  ∃k:Nat,ZjE p q=some (k:Int)∧k≤p.fBits.toNat∧k≤q.fBits.toNat∧(∀i,i<k→bitN p.fAddr i=bitN q.fAddr i)∧(k<p.fBits.toNat→k<q.fBits.toNat→bitN p.fAddr k≠bitN q.fAddr k):=by
 have fp:=hp.fits;have fq:=hq.fits;have a1:=fp.hi0;have a2:=fp.hi1;have a3:=fp.lo0;have a4:=fp.lo1;have b1:=fq.hi0;have b2:=fq.hi1;have b3:=fq.lo0;have b4:=fq.lo1;have n1:=hp.nn;have n2:=hq.nn;have l1:=hp.le;have l2:=hq.le;have v4p:=fp.v4;have v4q:=fq.v4;clear hp hq fp fq;obtain⟨⟨v,hi,lo⟩,n⟩:=p;obtain⟨⟨v',hi',lo'⟩,n'⟩:=q;simp only at hv a1 a2 a3 a4 b1 b2 b3 b4 n1 n2 v4p v4q;subst hv;obtain⟨x,rfl⟩:=ZiK a1;obtain⟨y,rfl⟩:=ZiK a3;obtain⟨x',rfl⟩:=ZiK b1;obtain⟨y',rfl⟩:=ZiK b3;obtain⟨n,rfl⟩:=ZiK n1;obtain⟨n',rfl⟩:=ZiK n2;have hmin:(if(n':Int)<(n:Int)then(n':Int)else(n:Int))=((min n n':Nat):Int):=by split<;>omega
 have hmn:∀k:Nat,(if((min n n':Nat):Int)<(k:Int)then((min n n':Nat):Int)else(k:Int))=((min k (min n n'):Nat):Int):=fun k=>by split<;>omega
 obtain⟨k1,c1,c2,c3,c4,c5⟩:=lead x x' (by omega) (by omega);obtain⟨k2,d1,d2,d3,d4,d5⟩:=lead y y' (by omega) (by omega);simp only[ZjE,ZCH x x' (by omega) (by omega),ZCH y y' (by omega) (by omega),c2,d2,Option.bind_some,hmin]
 -- what is to be shown of a number
 have fin:∀k:Nat,(∀i,i<k→i<wid ⟨v,x,y⟩→bitN ⟨v,x,y⟩ i=bitN ⟨v,x',y'⟩ i)→(k<wid ⟨v,x,y⟩→bitN ⟨v,x,y⟩ k≠bitN ⟨v,x',y'⟩ k) →
   (min k (min n n'))≤n∧(min k (min n n'))≤n'∧(∀i,i<min k (min n n')→bitN ⟨v,x,y⟩ i=bitN ⟨v,x',y'⟩ i)∧((min k (min n n'))<n→(min k (min n n'))<n'→bitN ⟨v,x,y⟩ (min k (min n n'))≠bitN ⟨v,x',y'⟩ (min k (min n n'))):=by
  intro k h1 h2;simp only at l1 l2;refine⟨by omega,by omega,fun i hi=>h1 i (by omega) (by omega),fun h3 h4=>?_⟩;have e:min k (min n n')=k:=by omega
  rw[e];exact h2 (by omega)
 cases v with
 |false=>
  have e1:=(v4p rfl).1;have e2:=(v4q rfl).1;have e3:=(v4p rfl).2;have e4:=(v4q rfl).2;have hx0:x ^^^ x'=0:=by rw[show x=x' by omega,Nat.xor_self]
  have hk2:32≤k2:=by
   rcases Nat.lt_or_ge k2 32 with h|h
   ·exfalso;apply d4 (by omega);rw[Nat.testBit_lt_two_pow (Nat.lt_of_lt_of_le (show y<2 ^ 32 by omega) (Nat.pow_le_pow_right (by omega) (by omega))),Nat.testBit_lt_two_pow (Nat.lt_of_lt_of_le (show y'<2 ^ 32 by omega) (Nat.pow_le_pow_right (by omega) (by omega)))]
   ·exact h
  rw[hx0,show (((0:Nat):Int)==0)=true from rfl,cond_true];have e5:Zby (ZaC 64 (k2:Int)) (Zby 128 32)=((k2-32:Nat):Int):=by
   rw[ZgM (by omega) (by omega),show Zby (128:Int) 32=96 from rfl,ZhO (by omega) (by omega)];omega
  simp only[Zfc,Bool.not_false,cond_true,Zdt,cond_false,Option.bind_some,e5,hmn];refine⟨_,rfl,?_⟩;refine fin (k2-32) (fun i h1 h2=>?_) (fun h=>?_)
  ·have h2:i<32:=h2;show (y.testBit (32-1-i))=(y'.testBit (32-1-i));exact d3 _ (by omega)
  ·have h:k2-32<32:=h;show (y.testBit (32-1-(k2-32)))≠(y'.testBit (32-1-(k2-32)));rw[show 32-1-(k2-32)=63-k2 by omega];exact d4 (by omega)
 |true=>
  have hb:∀(x y:Nat),y<2 ^ 64→∀i,bitN ⟨true,(x:Int),(y:Int)⟩ i=if 127-i<64 then y.testBit (127-i)else x.testBit (127-i-64):=fun x y hy i=>by
   unfold bitN num wid;simp only[if_true,Int.toNat_natCast];rw[ZnK (by omega)]
  by_cases hx:x ^^^ x'=0
  ·rw[hx,show (((0:Nat):Int)==0)=true from rfl,cond_true];have hxx:x=x':=by
    apply Nat.eq_of_testBit_eq;intro j;exact c3 j (by have:=c5.2 hx;omega)
   have e5:ZaC 64 (k2:Int)=((64+k2:Nat):Int):=by rw[ZgM (by omega) (by omega)];omega
   simp only[Zfc,Bool.not_true,cond_false,e5,hmn];refine⟨_,rfl,?_⟩;refine fin (64+k2) (fun i h1 h2=>?_) (fun h=>?_)
   ·have h2:i<128:=h2;rw[hb x y (by omega),hb x' y' (by omega),hxx];split
    ·exact d3 _ (by omega)
    ·rfl
   ·have h:64+k2<128:=h;rw[hb x y (by omega),hb x' y' (by omega),if_pos (by omega),if_pos (by omega)];rw[show 127-(64+k2)=63-k2 by omega];exact d4 (by omega)
  ·have hk:k1<64:=by
    rcases Nat.lt_or_ge k1 64 with h|h
    ·exact h
    ·exact absurd (c5.1 (by omega)) hx
   have hne:(((x ^^^ x':Nat):Int)==0)=false:=by
    rw[beq_eq_false_iff_ne];intro e;exact hx (by omega)
   rw[hne,cond_false];simp only[Zfc,Bool.not_true,cond_false,hmn];refine⟨_,rfl,?_⟩;refine fin k1 (fun i h1 h2=>?_) (fun h=>?_)
   ·rw[hb x y (by omega),hb x' y' (by omega),if_neg (by omega),if_neg (by omega)];exact c3 _ (by omega)
   ·rw[hb x y (by omega),hb x' y' (by omega),if_neg (by omega),if_neg (by omega)];rw[show 127-k1-64=63-k1 by omega];exact c4 hk
def Bel'(n:Nat)(f:Nat→Bool)(p:Zai):Prop:=n≤p.fBits.toNat∧∀i,i<n→bitN p.fAddr i=f i
def ext'(p:Zai)(b:Bool):Nat→Bool:=fun i=>if i<p.fBits.toNat then bitN p.fAddr i else b
theorem Zjn{p q:Zai}{b:Bool}:Bel' (p.fBits.toNat+1) (ext' p b) q↔p.fBits.toNat<q.fBits.toNat∧(∀i,i<p.fBits.toNat→bitN q.fAddr i=bitN p.fAddr i)∧bitN q.fAddr p.fBits.toNat=b:=by
 unfold Bel' ext';constructor
 ·rintro ⟨h1,h2⟩;refine⟨by omega,fun i hi=>?_,?_⟩
  ·have:=h2 i (by omega);rwa [if_pos hi]at this
  ·have:=h2 p.fBits.toNat (by omega);rwa [if_neg (by omega)]at this
 ·rintro ⟨h1,h2,h3⟩;refine⟨by omega,fun i hi=>?_⟩;by_cases h:i<p.fBits.toNat
  ·rw[if_pos h];exact h2 i h
  ·rw[if_neg h,show i=p.fBits.toNat by omega];exact h3
def ZnE(v:Bool):Zau→Nat→(Nat→Bool)→Prop | .nil,_,_=>True | .mk h has k0 k1,n,f=>RN h.fNet∧h.fNet.fAddr.fV6=v∧Bel' n f h.fNet∧ZnE v k0 (h.fNet.fBits.toNat+1) (ext' h.fNet false)∧ZnE v k1 (h.fNet.fBits.toNat+1) (ext' h.fNet true)
def Zbp:Zau→List Zav | .nil=>[] | .mk h has k0 k1=>(if has then[h]else[])++Zbp k0++Zbp k1
theorem ZbA{v:Bool}:∀{nd:Zau}{n:Nat}{f:Nat→Bool},ZnE v nd n f→∀x∈Zbp nd,RN x.fNet∧x.fNet.fAddr.fV6=v∧Bel' n f x.fNet
 | .nil,_,_,_,x,hx=>by simp[Zbp]at hx
 | .mk h has k0 k1,n,f,hg,x,hx=>by
  obtain⟨g1,g2,g3,g4,g5⟩:=hg
  have kid:∀b,Bel' (h.fNet.fBits.toNat+1) (ext' h.fNet b) x.fNet→Bel' n f x.fNet:=fun b hb=>by
   obtain⟨b1,b2,_⟩:=Zjn.1 hb
   have:=g3.1
   exact⟨by omega,fun i hi=>by rw[b2 i (by omega)];exact g3.2 i hi⟩
  simp only[Zbp,List.mem_append]at hx
  rcases hx with (hx|hx)|hx
  ·split at hx
   ·rw[List.mem_singleton]at hx;rw[hx];exact⟨g1,g2,g3⟩
   ·simp at hx
  ·obtain⟨h1,h2,h3⟩:=ZbA g4 x hx
   exact⟨h1,h2,kid _ h3⟩
  ·obtain⟨h1,h2,h3⟩:=ZbA g5 x hx
   exact⟨h1,h2,kid _ h3⟩
theorem ZnE.rebase{v:Bool}{nd:Zau}{n m:Nat}{f g:Nat→Bool}(h:ZnE v nd n f)(hb:∀x has k0 k1,nd=.mk x has k0 k1→Bel' m g x.fNet):ZnE v nd m g:=by
 cases nd with
 |nil=>trivial
 |mk x has k0 k1=>exact⟨h.1,h.2.1,hb x has k0 k1 rfl,h.2.2.2⟩
def Zlk(l:List Zav)(n:Zai):Int×Bool:=match l.find? (fun x=>decide (x.fNet=n))with
 |some x=>(x.fV,true)
 |none=>(0,false)
theorem ZkV{l:List Zav}{n:Zai}(h:∀x∈l,x.fNet≠n):l.find? (fun x=>decide (x.fNet=n))=none:=by
 rw[List.find?_eq_none];intro x hx;simpa using h x hx
theorem ZAW{v:Bool}{n:Zai}(hn:RN n)(hv:n.fAddr.fV6=v):∀fu (nd:Zau) (m:Nat) (f:Nat→Bool),ZnE v nd m f→n.fBits.toNat+1<fu+m →
  ZcW fu nd n=some (Zlk (Zbp nd) n)∨(n.fBits.toNat<m∧fu=0):=by
 intro fu;induction fu with
 |zero=>intro nd m f _ h;exact .inr ⟨by omega,rfl⟩
 |succ fu ih=>
  intro nd m f hg hf;refine .inl ?_;cases nd with
  |nil=>rfl
  |mk h has k0 k1=>
   obtain⟨g1,g2,g3,g4,g5⟩:=hg;have hw:wid h.fNet.fAddr=wid n.fAddr:=by unfold wid;rw[g2,hv]
   have b0:=fun x hx=>Zjn.1 (ZbA g4 x hx).2.2;have b1:=fun x hx=>Zjn.1 (ZbA g5 x hx).2.2;have hnn:=g1.nn;have hnn':=hn.nn;simp only[ZcW,Zao];by_cases hlt:h.fNet.fBits<n.fBits
   ·rw[if_pos hlt];have ht:=ZvX hn h.fNet.fBits.toNat (by have:=hn.le;omega);rw[Int.toNat_of_nonneg hnn]at ht;rw[ht];have hh:∀x∈(if has then[h]else[]),x.fNet≠n:=fun x hx e=>by
     split at hx
     ·rw[List.mem_singleton]at hx;subst hx;rw[e]at hlt;omega
     ·simp at hx
    have gm:=g3.1;cases hb:bitN n.fAddr h.fNet.fBits.toNat with
    |false=>
     simp only[Bool.false_eq_true,if_false,Option.bind_some];rw[Zaz (by omega)];have he:Zlk (Zbp (.mk h has k0 k1)) n=Zlk (Zbp k0) n:=by
      unfold Zlk;simp only[Zbp];rw[List.find?_append,List.find?_append,ZkV hh,ZkV (l:=Zbp k1) fun x hx e=>by have:=(b1 x hx).2.2;rw[e,hb]at this;cases this];simp
     rw[he];rcases ih k0 _ _ g4 (by omega)with h|h
     ·exact h
     ·omega
    |true=>
     simp only[if_true,Option.bind_some];rw[Zaz (by omega)];have he:Zlk (Zbp (.mk h has k0 k1)) n=Zlk (Zbp k1) n:=by
      unfold Zlk;simp only[Zbp];rw[List.find?_append,List.find?_append,ZkV hh,ZkV (l:=Zbp k0) fun x hx e=>by have:=(b0 x hx).2.2;rw[e,hb]at this;cases this];simp
     rw[he];rcases ih k1 _ _ g5 (by omega)with h|h
     ·exact h
     ·omega
   ·rw[if_neg hlt];have he:Zlk (Zbp (.mk h has k0 k1)) n=Zlk (if has then[h]else[]) n:=by
     unfold Zlk;simp only[Zbp];rw[List.find?_append,List.find?_append,ZkV (l:=Zbp k0) fun x hx e=>by have:=(b0 x hx).1;rw[e]at this;omega,ZkV (l:=Zbp k1) fun x hx e=>by have:=(b1 x hx).1;rw[e]at this;omega];simp
    rw[he];cases has with
    |false=>rfl
    |true=>
     by_cases e:h.fNet=n
     ·simp[Zlk,e]
     ·simp[Zlk,e]
theorem Zxk{v:Bool}{hit:Zav}(hn:RN hit.fNet)(hv:hit.fNet.fAddr.fV6=v):∀fu (nd:Zau) (m:Nat) (f:Nat→Bool),ZnE v nd m f→Bel' m f hit.fNet→hit.fNet.fBits.toNat+1<fu+m →
  ∃nd',ZeA fu nd hit=some nd'∧ZnE v nd' m f∧∀x,x∈Zbp nd'↔x=hit∨(x∈Zbp nd∧x.fNet≠hit.fNet):=by
 intro fu;induction fu with
 |zero=>intro nd m f _ hb h;have:=hb.1;omega
 |succ fu ih=>
  intro nd m f hg hbel hf;cases nd with
  |nil=>exact⟨_,rfl,⟨hn,hv,hbel,trivial,trivial⟩,fun x=>by simp[Zbp]⟩
  |mk h has k0 k1=>
   have hg0:=hg;obtain⟨g1,g2,g3,g4,g5⟩:=hg;have hwd:wid h.fNet.fAddr=wid hit.fNet.fAddr:=by unfold wid;rw[g2,hv]
   have b0:=fun x hx=>Zjn.1 (ZbA g4 x hx).2.2;have b1:=fun x hx=>Zjn.1 (ZbA g5 x hx).2.2;have ball:∀x∈Zbp (.mk h has k0 k1),h.fNet.fBits.toNat≤x.fNet.fBits.toNat∧∀i,i<h.fNet.fBits.toNat→bitN x.fNet.fAddr i=bitN h.fNet.fAddr i:=fun x hx=>by
    simp only[Zbp,List.mem_append]at hx;rcases hx with (hx|hx)|hx
    ·split at hx
     ·rw[List.mem_singleton]at hx;rw[hx];exact⟨Nat.le_refl _,fun _ _=>rfl⟩
     ·simp at hx
    ·obtain⟨x1,x2,_⟩:=b0 x hx;exact⟨by omega,x2⟩
    ·obtain⟨x1,x2,_⟩:=b1 x hx;exact⟨by omega,x2⟩
   have n1:=g1.nn;have n2:=hn.nn;have l1:=g1.le;have l2:=hn.le;obtain⟨k,c1,c2,c3,c4,c5⟩:=ZEu g1 hn (g2.trans hv.symm);simp only[ZeA,c1,Option.bind_some,Zao];by_cases hk:k<h.fNet.fBits.toNat
   ·rw[if_pos (by omega)];have hbit:=ZvX g1 k (by omega);by_cases hkh:k=hit.fNet.fBits.toNat
    ·-- the new one stands above
     have e:((k:Int)==hit.fNet.fBits)=true:=by rw[beq_iff_eq];omega
     have hne:∀x∈Zbp (.mk h has k0 k1),x.fNet≠hit.fNet:=fun x hx e=>by have:=(ball x hx).1;rw[e]at this;omega
     have hB:Bel' (hit.fNet.fBits.toNat+1) (ext' hit.fNet (bitN h.fNet.fAddr k)) h.fNet:=Zjn.2 ⟨by omega,fun i hi=>c4 i (by omega),by rw[←hkh]⟩;have hG:ZnE v (.mk h has k0 k1) (hit.fNet.fBits.toNat+1) (ext' hit.fNet (bitN h.fNet.fAddr k)):=hg0.rebase fun x _ _ _ e=>by cases e;exact hB
     simp only[ZjF,e,cond_true,hbit,Option.bind_some];cases hb:bitN h.fNet.fAddr k with
     |false=>
      rw[hb]at hG;simp only[Bool.false_eq_true,if_false];rw[Zaz (by omega)];refine⟨_,rfl,⟨hn,hv,hbel,hG,trivial⟩,fun x=>?_⟩;have:Zbp (.mk hit true (.mk h has k0 k1) .nil)=[hit]++Zbp (.mk h has k0 k1):=by simp[Zbp]
      rw[this,List.mem_append,List.mem_singleton];exact or_congr Iff.rfl ⟨fun hx=>⟨hx,hne x hx⟩,fun hx=>hx.1⟩
     |true=>
      rw[hb]at hG;simp only[if_true];rw[Zaz (by omega)];refine⟨_,rfl,⟨hn,hv,hbel,trivial,hG⟩,fun x=>?_⟩;have:Zbp (.mk hit true .nil (.mk h has k0 k1))=[hit]++Zbp (.mk h has k0 k1):=by simp[Zbp]
      rw[this,List.mem_append,List.mem_singleton];exact or_congr Iff.rfl ⟨fun hx=>⟨hx,hne x hx⟩,fun hx=>hx.1⟩
    ·-- they part
     have hk2:k<hit.fNet.fBits.toNat:=by omega
     have e:((k:Int)==hit.fNet.fBits)=false:=by rw[beq_eq_false_iff_ne];omega
     have hdiff:=c5 hk hk2;have hne:∀x∈Zbp (.mk h has k0 k1),x.fNet≠hit.fNet:=fun x hx e=>hdiff (by rw[←(ball x hx).2 k hk,e]);obtain⟨r1,r2⟩:=ZGR hn.ok hn.right k (by omega);have hmk:Zfd hit.fNet.fAddr (k:Int)=some (⟨Zjg hit.fNet.fAddr k,(k:Int)⟩,true):=by
      rw[Zzw _ hn.ok,if_pos ⟨hn.right,by omega,by omega⟩,Int.toNat_natCast]
     have hkb:(⟨Zjg hit.fNet.fAddr k,(k:Int)⟩ : Zai).fBits.toNat=k:=Int.toNat_natCast k;have hpb:∀i,i<k→bitN (Zjg hit.fNet.fAddr k) i=bitN hit.fNet.fAddr i:=fun i hi=>by
      rw[ZkD hn.fits k i (by omega) (by omega),decide_eq_true hi];rfl
     have hm:m≤k:=by
      rcases Nat.lt_or_ge k m with hh|hh
      ·exact absurd ((g3.2 k hh).trans (hbel.2 k hh).symm) hdiff
      ·exact hh
     have hP:Bel' m f ⟨Zjg hit.fNet.fAddr k,(k:Int)⟩:=⟨by rw[hkb];exact hm,fun i hi=>by rw[hpb i (by omega)];exact hbel.2 i hi⟩;have hO:ZnE v (.mk h has k0 k1) ((⟨Zjg hit.fNet.fAddr k,(k:Int)⟩ : Zai).fBits.toNat+1) (ext' ⟨Zjg hit.fNet.fAddr k,(k:Int)⟩ (bitN h.fNet.fAddr k)):=hg0.rebase fun x _ _ _ e=>by
      cases e;exact Zjn.2 ⟨by rw[hkb];exact hk,fun i hi=>by rw[hkb]at hi;rw[hpb i hi];exact c4 i hi,by rw[hkb]⟩
     have hL:ZnE v (.mk hit true .nil .nil) ((⟨Zjg hit.fNet.fAddr k,(k:Int)⟩ : Zai).fBits.toNat+1) (ext' ⟨Zjg hit.fNet.fAddr k,(k:Int)⟩ (bitN hit.fNet.fAddr k)):=
      ⟨hn,hv,Zjn.2 ⟨by rw[hkb];exact hk2,fun i hi=>by rw[hkb]at hi;rw[hpb i hi],by rw[hkb]⟩,trivial,trivial⟩
     have hb2:=ZvX hn k (by omega);simp only[ZjF,e,cond_false,hmk,hbit,hb2,Option.bind_some];cases hb:bitN h.fNet.fAddr k with
     |false=>
      have hb':bitN hit.fNet.fAddr k=true:=by
       cases hq:bitN hit.fNet.fAddr k
       ·rw[hb,hq]at hdiff;exact absurd rfl hdiff
       ·rfl
      rw[hb]at hO;rw[hb']at hL;simp only[hb',Bool.false_eq_true,if_false,if_true];rw[Zaz (by omega)];have e1:∀(A B:Option Zau),ix2 0 A B=A:=fun _ _=>rfl;have e2:∀(A B:Option Zau),ix2 1 A B=B:=fun _ _=>rfl;rw[e1,Zaz (by omega),e2];refine⟨_,rfl,⟨r1,by simp only[Ziq];exact hv,hP,hO,hL⟩,fun x=>?_⟩;have:Zbp (.mk ⟨⟨Zjg hit.fNet.fAddr k,(k:Int)⟩,0⟩ false (.mk h has k0 k1) (.mk hit true .nil .nil))=Zbp (.mk h has k0 k1)++[hit]:=by simp[Zbp]
      rw[this,List.mem_append,List.mem_singleton,or_comm];exact or_congr Iff.rfl ⟨fun hx=>⟨hx,hne x hx⟩,fun hx=>hx.1⟩
     |true=>
      have hb':bitN hit.fNet.fAddr k=false:=by
       cases hq:bitN hit.fNet.fAddr k
       ·rfl
       ·rw[hb,hq]at hdiff;exact absurd rfl hdiff
      rw[hb]at hO;rw[hb']at hL;simp only[hb',Bool.false_eq_true,if_false,if_true];rw[Zaz (by omega)];have e1:∀(A B:Option Zau),ix2 0 A B=A:=fun _ _=>rfl;have e2:∀(A B:Option Zau),ix2 1 A B=B:=fun _ _=>rfl;rw[e2,Zaz (by omega),e1];refine⟨_,rfl,⟨r1,by simp only[Ziq];exact hv,hP,hL,hO⟩,fun x=>?_⟩;have:Zbp (.mk ⟨⟨Zjg hit.fNet.fAddr k,(k:Int)⟩,0⟩ false (.mk hit true .nil .nil) (.mk h has k0 k1))=[hit]++Zbp (.mk h has k0 k1):=by simp[Zbp]
      rw[this,List.mem_append,List.mem_singleton];exact or_congr Iff.rfl ⟨fun hx=>⟨hx,hne x hx⟩,fun hx=>hx.1⟩
   ·rw[if_neg (by omega)];have hkh:k=h.fNet.fBits.toNat:=by omega
    by_cases hke:k=hit.fNet.fBits.toNat
    ·-- it is there
     have e:((k:Int)==hit.fNet.fBits)=true:=by rw[beq_iff_eq];omega
     have hpq:h.fNet=hit.fNet:=ZHP g1 hn (g2.trans hv.symm) (by
      unfold bs;rw[←hkh,←hke];apply List.map_congr_left;intro i hi;exact c4 i (by simpa using hi))
     rw[e,cond_true];refine⟨_,rfl,⟨hn,hv,hbel,by rw[←hpq];exact g4,by rw[←hpq];exact g5⟩,fun x=>?_⟩;have n0:x∈Zbp k0→x.fNet≠hit.fNet:=fun hx e=>by have:=(b0 x hx).1;rw[e]at this;omega
     have n1:x∈Zbp k1→x.fNet≠hit.fNet:=fun hx e=>by have:=(b1 x hx).1;rw[e]at this;omega
     simp only[Zbp,List.mem_append,if_true,List.mem_singleton];constructor
     ·rintro ((hx|hx)|hx)
      ·exact .inl hx
      ·exact .inr ⟨.inl (.inr hx),n0 hx⟩
      ·exact .inr ⟨.inr hx,n1 hx⟩
     ·rintro (hx|⟨(hx|hx)|hx,hne⟩)
      ·exact .inl (.inl hx)
      ·split at hx
       ·rw[List.mem_singleton]at hx;rw[hx]at hne;exact absurd hpq hne
       ·simp at hx
      ·exact .inl (.inr hx)
      ·exact .inr hx
    ·have e:((k:Int)==hit.fNet.fBits)=false:=by rw[beq_eq_false_iff_ne];omega
     have hbit:=ZvX hn k (by omega);have hB:Bel' (h.fNet.fBits.toNat+1) (ext' h.fNet (bitN hit.fNet.fAddr k)) hit.fNet:=Zjn.2 ⟨by omega,fun i hi=>(c4 i (by omega)).symm,by rw[←hkh]⟩;have nh:∀x∈(if has then[h]else[]),x.fNet≠hit.fNet:=fun x hx e=>by
      split at hx
      ·rw[List.mem_singleton]at hx;rw[hx]at e;rw[e]at hkh;omega
      ·simp at hx
     have gm:=g3.1;simp only[e,cond_false,hbit,Option.bind_some];cases hb:bitN hit.fNet.fAddr k with
     |false=>
      rw[hb]at hB;simp only[Bool.false_eq_true,if_false];rw[Zaz (by omega)];obtain⟨nd',w1,w2,w3⟩:=ih k0 _ _ g4 hB (by omega);have e1:∀(A B:Option Zau),ix2 0 A B=A:=fun _ _=>rfl;rw[e1,w1];refine⟨_,rfl,⟨g1,g2,g3,w2,g5⟩,fun x=>?_⟩;have n1:x∈Zbp k1→x.fNet≠hit.fNet:=fun hx e=>by have:=(b1 x hx).2.2;rw[e,←hkh,hb]at this;cases this
      simp only[Zbp,List.mem_append,w3];constructor
      ·rintro ((hx|hx|hx)|hx)
       ·exact .inr ⟨.inl (.inl hx),nh x hx⟩
       ·exact .inl hx
       ·exact .inr ⟨.inl (.inr hx.1),hx.2⟩
       ·exact .inr ⟨.inr hx,n1 hx⟩
      ·rintro (hx|⟨(hx|hx)|hx,hne⟩)
       ·exact .inl (.inr (.inl hx))
       ·exact .inl (.inl hx)
       ·exact .inl (.inr (.inr ⟨hx,hne⟩))
       ·exact .inr hx
     |true=>
      rw[hb]at hB;simp only[if_true];rw[Zaz (by omega)];obtain⟨nd',w1,w2,w3⟩:=ih k1 _ _ g5 hB (by omega);have e2:∀(A B:Option Zau),ix2 1 A B=B:=fun _ _=>rfl;rw[e2,w1];refine⟨_,rfl,⟨g1,g2,g3,g4,w2⟩,fun x=>?_⟩;have n1:x∈Zbp k0→x.fNet≠hit.fNet:=fun hx e=>by have:=(b0 x hx).2.2;rw[e,←hkh,hb]at this;cases this
      simp only[Zbp,List.mem_append,w3];constructor
      ·rintro ((hx|hx)|hx|hx)
       ·exact .inr ⟨.inl (.inl hx),nh x hx⟩
       ·exact .inr ⟨.inl (.inr hx),n1 hx⟩
       ·exact .inl hx
       ·exact .inr ⟨.inr hx.1,hx.2⟩
      ·rintro (hx|⟨(hx|hx)|hx,hne⟩)
       ·exact .inr (.inl hx)
       ·exact .inl (.inl hx)
       ·exact .inl (.inr hx)
       ·exact .inr (.inr ⟨hx,hne⟩)
def cov(a:Zag)(x:Zav):Bool:=decide (∀i,i<x.fNet.fBits.toNat→bitN a i=bitN x.fNet.fAddr i)
theorem Zme{α:Type}{p:α→Bool}{l:List α}(h:∀x∈l,p x=false):l.filter p=[]:=by
 rw[List.filter_eq_nil_iff];intro x hx;rw[h x hx];simp
theorem ZvM{v:Bool}{a:Zag}(ha:a.ok)(hr:ZcP a=true)(hv:a.fV6=v):∀fu (nd:Zau) (m:Nat) (f:Nat→Bool) (w:List Zav),ZnE v nd m f→(∀i,i<m→i<wid a→bitN a i=f i)→m≤wid a+1→wid a+1<fu+m→w.length≤m →
  Zbs fu nd w a=some (w++(Zbp nd).filter (cov a)):=by
 have hwa:wid a≤128:=by unfold wid;split<;>omega
 intro fu;induction fu with
 |zero=>intro nd m f w _ _ _ h;omega
 |succ fu ih=>
  intro nd m f w hg hp hmw hf hl;cases nd with
  |nil=>simp[Zbs,Zbp]
  |mk h has k0 k1=>
   obtain⟨g1,g2,g3,g4,g5⟩:=hg;have hwd:wid h.fNet.fAddr=wid a:=by unfold wid;rw[g2,hv]
   have b0:=fun x hx=>Zjn.1 (ZbA g4 x hx).2.2;have b1:=fun x hx=>Zjn.1 (ZbA g5 x hx).2.2;have w0:=fun x hx=>(ZbA g4 x hx);have w1:=fun x hx=>(ZbA g5 x hx);have n1:=g1.nn;have l1:=g1.le;have gm:=g3.1;simp only[Zbs,ZHY _ a g1 ha,hr,decide_eq_true (g2.trans hv.symm),Bool.true_and,Option.bind_some,Zao];by_cases hc:∀i,i<h.fNet.fBits.toNat→bitN a i=bitN h.fNet.fAddr i
   ·rw[if_pos hc];have hcov:cov a h=true:=by unfold cov;rw[decide_eq_true_eq];exact hc
    -- what lies below
    have hkid:∀w':List Zav,w'.length≤h.fNet.fBits.toNat+1→((Zhd a h.fNet.fBits).bind fun x6=>need (0≤x6∧x6<((2:Nat):Int))<|ix2 x6 (Zbs fu k0 w' a) (Zbs fu k1 w' a))=some (w'++((Zbp k0).filter (cov a)++(Zbp k1).filter (cov a))):=by
     intro w' hw';by_cases hb:h.fNet.fBits.toNat<wid a
     ·have ht:=ZEL (Zog ha hr) h.fNet.fBits.toNat hb;rw[Int.toNat_of_nonneg n1]at ht;rw[ht];cases hbit:bitN a h.fNet.fBits.toNat with
      |false=>
       simp only[Bool.false_eq_true,if_false,Option.bind_some];rw[Zaz (by omega),show ∀(A B:Option (List Zav)),ix2 0 A B=A from fun _ _=>rfl];rw[ih k0 _ _ w' g4 (fun i hi hi'=>by
        unfold ext';by_cases h3:i<h.fNet.fBits.toNat
        ·rw[if_pos h3];exact hc i h3
        ·rw[if_neg h3,show i=h.fNet.fBits.toNat by omega];exact hbit) (by omega) (by omega) hw']
       rw[Zme (l:=Zbp k1) fun x hx=>?_]
       ·simp
       ·unfold cov;rw[decide_eq_false_iff_not];intro hq;obtain⟨x1,x2,x3⟩:=b1 x hx;have:=hq _ x1;rw[hbit,x3]at this;cases this
      |true=>
       simp only[if_true,Option.bind_some];rw[Zaz (by omega),show ∀(A B:Option (List Zav)),ix2 1 A B=B from fun _ _=>rfl];rw[ih k1 _ _ w' g5 (fun i hi hi'=>by
        unfold ext';by_cases h3:i<h.fNet.fBits.toNat
        ·rw[if_pos h3];exact hc i h3
        ·rw[if_neg h3,show i=h.fNet.fBits.toNat by omega];exact hbit) (by omega) (by omega) hw']
       rw[Zme (l:=Zbp k0) fun x hx=>?_]
       ·simp
       ·unfold cov;rw[decide_eq_false_iff_not];intro hq;obtain⟨x1,x2,x3⟩:=b0 x hx;have:=hq _ x1;rw[hbit,x3]at this;cases this
     ·-- a whole address: nothing lies below
      have hno:∀(kid:Zau)(b:Bool),ZnE v kid (h.fNet.fBits.toNat+1) (ext' h.fNet b)→kid=.nil:=fun kid b hgk=>by
       cases kid with
       |nil=>rfl
       |mk x hs q0 q1=>
        have h1:=hgk.2.2.1.1;have h2:=hgk.1.le;have h3:wid x.fNet.fAddr=wid a:=by unfold wid;rw[hgk.2.1,hv]
        omega
      rw[hno k0 _ g4,hno k1 _ g5];have hbits:Zhd a h.fNet.fBits=some 0:=by
       simp only[Zhd,ZAe,Option.bind_some,Zao];rw[if_neg (by omega),if_pos (by omega)]
      rw[hbits];simp only[Option.bind_some];rw[Zaz (by omega),show ∀(A B:Option (List Zav)),ix2 0 A B=A from fun _ _=>rfl];have:=ih .nil (h.fNet.fBits.toNat+1) (ext' h.fNet false) w' trivial (fun i hi hi'=>by
        unfold ext';rw[if_pos (by omega)];exact hc i (by omega)) (by omega) (by omega) hw'
      rw[this];simp[Zbp]
    cases has with
    |true=>
     simp only[cond_true,Zbp,if_true];rw[Zaz ⟨by simp;omega,by unfold maxLen;simp;omega⟩,hkid _ (by simp;omega)];simp[hcov]
    |false=>
     simp only[cond_false,Zbp,Bool.false_eq_true,if_false];rw[hkid _ (by omega)];simp
   ·rw[if_neg hc];rw[Zme]
    ·simp
    ·intro x hx;unfold cov;rw[decide_eq_false_iff_not];intro hq;apply hc;intro i hi;simp only[Zbp,List.mem_append]at hx;rcases hx with (hx|hx)|hx
     ·split at hx
      ·rw[List.mem_singleton]at hx;rw[hx]at hq;exact hq i hi
      ·simp at hx
     ·obtain⟨x1,x2,_⟩:=b0 x hx;rw[hq i (by omega)];exact x2 i hi
     ·obtain⟨x1,x2,_⟩:=b1 x hx;rw[hq i (by omega)];exact x2 i hi
theorem Zzj{a:Zag}(h:Fits a)(i:Nat)(hi:i<wid a):Zbn a (i:Int)=some (if bitN a i then 1 else 0):=by
 have h1:=h.hi0;have h2:=h.hi1;have h3:=h.lo0;have h4:=h.lo1;obtain⟨v,hi',lo⟩:=a;obtain⟨p,hp⟩:=ZiK h.hi0;obtain⟨q,hq⟩:=ZiK h.lo0;simp only at hp hq h1 h2 h3 h4;subst hp hq;have hw:∀k:Nat,k<64→(IntKind.u64.wrap ((k:Nat):Int))=((k:Nat):Int):=fun k hk=>Zhi (by omega) (by omega);cases v with
 |false=>
  have hi:i<32:=hi;have e:Zby (31:Int) (i:Int)=((31-i:Nat):Int):=by rw[ZhO (by omega) (by omega)];omega
  simp only[Zbn,Zbx,Zcm,Zao,Option.bind_some,cond_false,Bool.not_false,cond_true,e,hw (31-i) (by omega)];rw[if_neg (by omega),if_neg (by omega),Zaz (by omega),Zsl q _ (by omega) (by omega)];rfl
 |true=>
  have hi:i<128:=hi;have hb:bitN ⟨true,(p:Int),(q:Int)⟩ i=if 127-i<64 then q.testBit (127-i)else p.testBit (127-i-64):=by
   unfold bitN num wid;simp only[if_true,Int.toNat_natCast];rw[ZnK (by omega)]
  rw[hb];have et:Int.tmod (i:Int) 64=((i % 64:Nat):Int):=by rw[Int.tmod_eq_emod_of_nonneg (by omega)];rfl
  have hm:i % 64<64:=Nat.mod_lt _ (by omega);have e:Zby (63:Int) ((i % 64:Nat):Int)=((63-i % 64:Nat):Int):=by rw[ZhO (by omega) (by omega)];omega
  simp only[Zbn,Zbx,Zcm,Zao,Option.bind_some,cond_false,Bool.not_true,cond_true,et,e,hw (63-i % 64) (by omega)];rw[if_neg (by omega),if_neg (by omega)];by_cases h64:i<64
  ·rw[if_pos (by omega),Zaz (by omega),Zsl p _ (by omega) (by omega),if_neg (show ¬127-i<64 by omega),show 63-i % 64=127-i-64 by omega]
  ·rw[if_neg (by omega),Zaz (by omega),Zsl q _ (by omega) (by omega),if_pos (show 127-i<64 by omega),show 63-i % 64=127-i by omega]
theorem ZsL(a:Zag):Zbx a=some (wid a:Int):=by
 unfold Zbx wid;cases a.fV6<;>rfl
theorem Ztb(a:Zag):wid a≤128:=by unfold wid;split<;>omega
theorem ZIi{i:Nat}(h:i≤1000000):ZaC (i:Int) 1=((i+1:Nat):Int):=by rw[ZgM (by omega) (by omega)];omega
theorem ZDk{p:Zai}(hf:Fits p.fAddr):∀fu (i:Nat),i≤wid p.fAddr→wid p.fAddr-i<fu→∃r,ZcO fu (i:Int) p=some r∧(r=true↔∀j,i≤j→j<wid p.fAddr→bitN p.fAddr j=false):=by
 have hw:=Ztb p.fAddr;intro fu;induction fu with
 |zero=>intro _ _ h;omega
 |succ fu ih=>
  intro i hi hfu;simp only[ZcO,ZsL,Option.bind_some,Zao];by_cases h:i<wid p.fAddr
  ·rw[if_pos (by omega),Zzj hf i h,ZIi (by omega)];simp only[Option.bind_some];obtain⟨r,h1,h2⟩:=ih (i+1) (by omega) (by omega);cases hb:bitN p.fAddr i with
   |true=>
    simp only[if_true,beq_self_eq_true,cond_true];refine⟨false,rfl,?_⟩;simp only[Bool.false_eq_true,false_iff];intro hq;have:=hq i (Nat.le_refl _) h;rw[hb]at this;cases this
   |false=>
    simp only[Bool.false_eq_true,if_false];rw[show ((0:Int)==1)=false from rfl,cond_false];refine⟨r,h1,h2.trans ⟨fun q j h3 h4=>?_,fun q j h3 h4=>q j (by omega) h4⟩⟩;by_cases h5:j=i
    ·subst h5;exact hb
    ·exact q j (by omega) h4
  ·rw[if_neg (by omega)];exact⟨true,rfl,by simp;intro j h3 h4;omega⟩
theorem Zvm(p:Zai)(h:p.fAddr.ok):Zeh p=some (ZhU p):=by
 simp only[Zeh,ZjB p.fAddr h,ZsL,Option.bind_some,Zao];unfold ZhU;cases hr:ZcP p.fAddr
 ·simp
 ·have hf:=Zog h hr;simp only[Bool.not_true,cond_false,Bool.true_and];by_cases h0:p.fBits<0
  ·rw[if_pos h0,show decide (0≤p.fBits)=false by rw[decide_eq_false_iff_not];omega];simp
  ·rw[if_neg h0];by_cases h1:p.fBits>(wid p.fAddr:Int)
   ·rw[if_pos h1,show decide (p.fBits≤(wid p.fAddr:Int))=false by rw[decide_eq_false_iff_not];omega];simp
   ·rw[if_neg h1,show decide (0≤p.fBits)=true by rw[decide_eq_true_eq];omega,show decide (p.fBits≤(wid p.fAddr:Int))=true by rw[decide_eq_true_eq];omega];have hw:=Ztb p.fAddr;obtain⟨r,r1,r2⟩:=ZDk hf 1000000 p.fBits.toNat (by omega) (by omega);rw[Int.toNat_of_nonneg (by omega)]at r1;rw[r1,Option.some.injEq,Bool.true_and,Bool.true_and,Bool.eq_iff_iff,r2,decide_eq_true_eq];constructor
    ·intro q;refine ZrD (Zjp hf _) hf (Ziq _ _) fun i hi=>?_;have hi:i<wid p.fAddr:=by unfold wid at hi ⊢;rwa [Ziq]at hi
     rw[ZkD hf p.fBits.toNat i (by omega) hi];by_cases hb:i<p.fBits.toNat
     ·rw[decide_eq_true hb];rfl
     ·rw[decide_eq_false hb,q i (by omega) hi];rfl
    ·intro q j h3 h4;have:=ZkD hf p.fBits.toNat j (by omega) h4;rw[q,decide_eq_false (by omega)]at this;exact this
def hasS(p:Zai)(a:Zag):Bool:=ZhU p&&(ZcP a&&decide (p.fAddr.fV6=a.fV6)&&decide (∀i,i<p.fBits.toNat→bitN a i=bitN p.fAddr i))
theorem ZxD{p:Zai}{a:Zag}(hp:RN p)(ha:Fits a)(hv:p.fAddr.fV6=a.fV6):∀fu (i:Nat),i≤p.fBits.toNat→p.fBits.toNat-i<fu→∃r,ZcF fu (i:Int) p a=some r∧(r=true↔∀j,i≤j→j<p.fBits.toNat→bitN a j=bitN p.fAddr j):=by
 have hw:=Ztb p.fAddr;have hwa:wid p.fAddr=wid a:=by unfold wid;rw[hv]
 have n1:=hp.nn;have l1:=hp.le;intro fu;induction fu with
 |zero=>intro _ _ h;omega
 |succ fu ih=>
  intro i hi hfu;simp only[ZcF,Zao];by_cases h:i<p.fBits.toNat
  ·rw[if_pos (by omega),Zzj hp.fits i (by omega),Zzj ha i (by omega),ZIi (by omega)];simp only[Option.bind_some];obtain⟨r,h1,h2⟩:=ih (i+1) (by omega) (by omega);by_cases hb:bitN a i=bitN p.fAddr i
   ·rw[hb];simp only[bne_self_eq_false,cond_false];refine⟨r,h1,h2.trans ⟨fun q j h3 h4=>?_,fun q j h3 h4=>q j (by omega) h4⟩⟩;by_cases h5:j=i
    ·subst h5;exact hb
    ·exact q j (by omega) h4
   ·have hne:((if bitN p.fAddr i=true then(1:Int)else 0) != if bitN a i=true then 1 else 0)=true:=by
     revert hb
     cases bitN a i<;>cases bitN p.fAddr i<;>simp
    rw[hne,cond_true];refine⟨false,rfl,?_⟩;simp only[Bool.false_eq_true,false_iff];intro hq;exact hb (hq i (Nat.le_refl _) h)
  ·rw[if_neg (by omega)];exact⟨true,rfl,by simp;intro j h3 h4;omega⟩
theorem ZFr(p:Zai)(a:Zag)(hp:p.fAddr.ok)(ha:a.ok):Zgv p a=some (hasS p a):=by
 simp only[Zgv,Zvm p hp,ZjB a ha,Option.bind_some];unfold hasS;cases hc:ZhU p
 ·rfl
 ·have hrn:=(Zvi hp).1 hc;simp only[Bool.not_true,cond_false,Bool.true_and];cases hr:ZcP a
  ·rfl
  ·simp only[Bool.not_true,cond_false,Bool.true_and];by_cases hv:p.fAddr.fV6=a.fV6
   ·rw[show (!(p.fAddr.fV6==a.fV6))=false by simp[hv],cond_false,decide_eq_true hv,Bool.true_and];have hw:=Ztb p.fAddr;have n1:=hrn.nn;have l1:=hrn.le;obtain⟨r,r1,r2⟩:=ZxD hrn (Zog ha hr) hv 1000000 0 (by omega) (by omega);have r1:ZcF 1000000 0 p a=some r:=r1;rw[r1,Option.some.injEq,Bool.eq_iff_iff,r2,decide_eq_true_eq];exact⟨fun q j hj=>q j (by omega) hj,fun q j _ hj=>q j hj⟩
   ·rw[show (!(p.fAddr.fV6==a.fV6))=true by simp[hv],cond_true,decide_eq_false hv];rfl
def f0:Nat→Bool:=fun _=>false
def GT:ZaE→Prop | .nil=>False | .mk r4 r6 _=>ZnE false r4 0 f0∧ZnE true r6 0 f0
def ZhV:ZaE→List Zav | .nil=>[] | .mk r4 r6 _=>Zbp r4++Zbp r6
theorem bel0(p:Zai):Bel' 0 f0 p:=⟨Nat.zero_le _,fun i hi=>by omega⟩
theorem ZxX{t:ZaE}(h:GT t):∀x∈ZhV t,RN x.fNet:=by
 cases t with
 |nil=>exact h.elim
 |mk r4 r6 n=>
  intro x hx;simp only[ZhV,List.mem_append]at hx;rcases hx with hx|hx
  ·exact(ZbA h.1 x hx).1
  ·exact(ZbA h.2 x hx).1
theorem ZDU(a:Zag):Zgb a=some (if a.fV6 then 1 else 0):=by
 unfold Zgb;cases a.fV6<;>rfl
theorem ZAp{t:ZaE}(h:GT t)(n:Zai)(hn:n.fAddr.ok):ZgT t n=some (if ZhU n then Zlk (ZhV t) n else(0,false)):=by
 cases t with
 |nil=>exact h.elim
 |mk r4 r6 k=>
  simp only[ZgT,ZnD n hn,Option.bind_some,ZDU];cases hr:ZhU n
  ·rfl
  ·have hrn:=(Zvi hn).1 hr;have hb:n.fBits.toNat≤128:=by have:=hrn.le;have:=hrn.nn;have:=Ztb n.fAddr;omega
   simp only[Bool.not_true,cond_false,if_true];cases hv:n.fAddr.fV6 with
   |false=>
    simp only[Bool.false_eq_true,if_false];rw[Zaz (by omega),show ∀(A B:Option (Int×Bool)),ix2 0 A B=A from fun _ _=>rfl];rcases ZAW hrn hv 1000000 r4 0 f0 h.1 (by omega)with e|e
    ·rw[e];unfold Zlk;simp only[ZhV];rw[List.find?_append,ZkV (l:=Zbp r6) fun x hx e=>by have:=(ZbA h.2 x hx).2.1;rw[e,hv]at this;cases this];simp
    ·omega
   |true=>
    simp only[if_true];rw[Zaz (by omega),show ∀(A B:Option (Int×Bool)),ix2 1 A B=B from fun _ _=>rfl];rcases ZAW hrn hv 1000000 r6 0 f0 h.2 (by omega)with e|e
    ·rw[e];unfold Zlk;simp only[ZhV];rw[List.find?_append,ZkV (l:=Zbp r4) fun x hx e=>by have:=(ZbA h.1 x hx).2.1;rw[e,hv]at this;cases this];simp
    ·omega
theorem ZCN{t:ZaE}(h:GT t)(n:Zai)(hn:n.fAddr.ok)(val:Int)(hr:ZhU n=true):∃t',Zel t n val=some t'∧GT t'∧∀x,x∈ZhV t'↔x=⟨n,val⟩∨(x∈ZhV t∧x.fNet≠n):=by
 cases t with
 |nil=>exact h.elim
 |mk r4 r6 k=>
  have hrn:=(Zvi hn).1 hr;have hb:n.fBits.toNat≤128:=by have:=hrn.le;have:=hrn.nn;have:=Ztb n.fAddr;omega
  have hg:=ZAp h n hn;simp only[Zel,ZeB,ZnD n hn,hr,hg,if_true,Option.bind_some,Bool.not_true,cond_false,ZDU];have part4:n.fAddr.fV6=false→∃r,ZeA 1000 r4 ⟨n,val⟩=some r∧ZnE false r 0 f0∧∀x,(x∈Zbp r∨x∈Zbp r6)↔x=⟨n,val⟩∨((x∈Zbp r4∨x∈Zbp r6)∧x.fNet≠n):=fun hv=>by
   obtain⟨r,w1,w2,w3⟩:=Zxk (hit:=⟨n,val⟩) hrn hv 1000 r4 0 f0 h.1 (bel0 _) (by simp only;omega);refine⟨r,w1,w2,fun x=>?_⟩;rw[w3 x];have h6:x∈Zbp r6→x.fNet≠n:=fun hx e=>by have:=(ZbA h.2 x hx).2.1;rw[e,hv]at this;cases this
   constructor
   ·rintro ((hx|hx)|hx)
    ·exact .inl hx
    ·exact .inr ⟨.inl hx.1,hx.2⟩
    ·exact .inr ⟨.inr hx,h6 hx⟩
   ·rintro (hx|⟨hx|hx,hne⟩)
    ·exact .inl (.inl hx)
    ·exact .inl (.inr ⟨hx,hne⟩)
    ·exact .inr hx
  have part6:n.fAddr.fV6=true→∃r,ZeA 1000 r6 ⟨n,val⟩=some r∧ZnE true r 0 f0∧∀x,(x∈Zbp r4∨x∈Zbp r)↔x=⟨n,val⟩∨((x∈Zbp r4∨x∈Zbp r6)∧x.fNet≠n):=fun hv=>by
   obtain⟨r,w1,w2,w3⟩:=Zxk (hit:=⟨n,val⟩) hrn hv 1000 r6 0 f0 h.2 (bel0 _) (by simp only;omega);refine⟨r,w1,w2,fun x=>?_⟩;rw[w3 x];have h4:x∈Zbp r4→x.fNet≠n:=fun hx e=>by have:=(ZbA h.1 x hx).2.1;rw[e,hv]at this;cases this
   constructor
   ·rintro (hx|hx|hx)
    ·exact .inr ⟨.inl hx,h4 hx⟩
    ·exact .inl hx
    ·exact .inr ⟨.inr hx.1,hx.2⟩
   ·rintro (hx|⟨hx|hx,hne⟩)
    ·exact .inr (.inl hx)
    ·exact .inl hx
    ·exact .inr (.inr ⟨hx,hne⟩)
  have e1:∀(A B:Option ZaE),ix2 0 A B=A:=fun _ _=>rfl;have e2:∀(A B:Option ZaE),ix2 1 A B=B:=fun _ _=>rfl;cases hv:n.fAddr.fV6 with
  |false=>
   obtain⟨r,w1,w2,w3⟩:=part4 hv;cases(Zlk (ZhV (.mk r4 r6 k)) n).2 <;>
   ·simp only[Bool.not_false,Bool.not_true,cond_true,cond_false,Bool.false_eq_true,if_false];rw[Zaz (by omega),e1,w1];exact⟨_,rfl,⟨w2,h.2⟩,fun x=>by simp only[ZhV,List.mem_append];exact w3 x⟩
  |true=>
   obtain⟨r,w1,w2,w3⟩:=part6 hv;cases(Zlk (ZhV (.mk r4 r6 k)) n).2 <;>
   ·simp only[Bool.not_false,Bool.not_true,cond_true,cond_false,if_true];rw[Zaz (by omega),e2,w1];exact⟨_,rfl,⟨h.1,w2⟩,fun x=>by simp only[ZhV,List.mem_append];exact w3 x⟩
theorem ZnN{v:Bool}:∀{nd:Zau}{n:Nat}{f:Nat→Bool},ZnE v nd n f→(Zbp nd).Pairwise fun x y=>x.fNet≠y.fNet
 | .nil,_,_,_=>List.Pairwise.nil
 | .mk h has k0 k1,n,f,hg=>by
  obtain⟨g1,g2,g3,g4,g5⟩:=hg
  have b0:=fun x hx=>Zjn.1 (ZbA g4 x hx).2.2
  have b1:=fun x hx=>Zjn.1 (ZbA g5 x hx).2.2
  have hh:∀x∈(if has then[h]else[]),x.fNet=h.fNet:=fun x hx=>by
   split at hx
   ·rw[List.mem_singleton]at hx;rw[hx]
   ·simp at hx
  simp only[Zbp]
  rw[List.pairwise_append,List.pairwise_append]
  refine⟨⟨?_,ZnN g4,fun x hx y hy e=>?_⟩,ZnN g5,fun x hx y hy e=>?_⟩
  ·split
   ·exact List.pairwise_singleton _ _
   ·exact List.Pairwise.nil
  ·have:=(b0 y hy).1
   rw[←e,hh x hx]at this;omega
  ·rcases List.mem_append.1 hx with hx|hx
   ·have:=(b1 y hy).1
    rw[←e,hh x hx]at this;omega
   ·have h1:=(b0 x hx).2.2
    have h2:=(b1 y hy).2.2
    rw[e,h2]at h1;cases h1
theorem ZxY{t:ZaE}(h:GT t):(ZhV t).Pairwise fun x y=>x.fNet≠y.fNet:=by
 cases t with
 |nil=>exact h.elim
 |mk r4 r6 k=>
  simp only[ZhV];rw[List.pairwise_append];refine⟨ZnN h.1,ZnN h.2,fun x hx y hy e=>?_⟩;have h1:=(ZbA h.1 x hx).2.1;have h2:=(ZbA h.2 y hy).2.1;rw[e,h2]at h1;cases h1
theorem ZDE{l:List Zav}{n:Zai}(h:(Zlk l n).2=true):∃x∈l,x.fNet=n∧x.fV=(Zlk l n).1:=by
 unfold Zlk at h ⊢;cases hq:l.find? (fun x=>decide (x.fNet=n))with
 |none=>rw[hq]at h;cases h
 |some x=>
  have:=List.find?_some hq;exact⟨x,List.mem_of_find?_eq_some hq,by simpa using this,rfl⟩
theorem ZFB{l:List Zav}{n:Zai}(h:(Zlk l n).2=false):∀x∈l,x.fNet≠n:=by
 unfold Zlk at h;cases hq:l.find? (fun x=>decide (x.fNet=n))with
 |none=>rw[List.find?_eq_none]at hq;intro x hx;simpa using hq x hx
 |some x=>rw[hq]at h;cases h
theorem ZFX{l:List Zav}(h:l.Pairwise fun x y=>x.fNet≠y.fNet){x y:Zav}(hx:x∈l)(hy:y∈l)(e:x.fNet=y.fNet):x=y:=by
 obtain⟨i,hi,rfl⟩:=List.getElem_of_mem hx;obtain⟨j,hj,rfl⟩:=List.getElem_of_mem hy;have hp:=List.pairwise_iff_getElem.1 h;rcases Nat.lt_trichotomy i j with h1|h1|h1
 ·exact absurd e (hp i j hi hj h1)
 ·subst h1;rfl
 ·exact absurd e.symm (hp j i hj hi h1)
theorem Zry{v:Bool}{a:Zag}(hv:a.fV6=v):∀{nd:Zau}{m:Nat}{f:Nat→Bool},ZnE v nd m f→m≤wid a+1→((Zbp nd).filter (cov a)).length+m≤wid a+1
 | .nil,m,f,_,h=>by simp[Zbp];exact h
 | .mk h has k0 k1,m,f,hg,hm=>by
  obtain⟨g1,g2,g3,g4,g5⟩:=hg
  have b0:=fun x hx=>Zjn.1 (ZbA g4 x hx).2.2
  have b1:=fun x hx=>Zjn.1 (ZbA g5 x hx).2.2
  have hw:wid h.fNet.fAddr=wid a:=by unfold wid;rw[g2,hv]
  have n1:=g1.nn;have l1:=g1.le;have gm:=g3.1
  have i0:=Zry hv g4 (by omega)
  have i1:=Zry hv g5 (by omega)
  have hh:((if has then[h]else[]).filter (cov a)).length≤1:=by
   split
   ·exact List.length_filter_le _ _
   ·simp
  have hz:((Zbp k0).filter (cov a)).length=0∨((Zbp k1).filter (cov a)).length=0:=by
   cases hb:bitN a h.fNet.fBits.toNat with
   |false=>
    refine .inr ?_;rw[Zme]
    ·rfl
    ·intro x hx;unfold cov;rw[decide_eq_false_iff_not];intro hq;obtain⟨x1,x2,x3⟩:=b1 x hx;have:=hq _ x1;rw[hb,x3]at this;cases this
   |true=>
    refine .inl ?_;rw[Zme]
    ·rfl
    ·intro x hx;unfold cov;rw[decide_eq_false_iff_not];intro hq;obtain⟨x1,x2,x3⟩:=b0 x hx;have:=hq _ x1;rw[hb,x3]at this;cases this
  simp only[Zbp,List.filter_append,List.length_append];omega
theorem ZBv{t:ZaE}(h:GT t)(a:Zag)(ha:a.ok):∃L,Zfz t a=some L∧L.length≤maxLen∧∀x,x∈L↔x∈ZhV t∧hasS x.fNet a=true:=by
 cases t with
 |nil=>exact h.elim
 |mk r4 r6 k=>
  simp only[Zfz,Zjy a ha,Option.bind_some,ZDU];cases hr:ZcP a
  ·exact⟨[],rfl,by simp,fun x=>by simp[hasS,hr]⟩
  ·simp only[Bool.not_true,cond_false];have hw:=Ztb a;have e1:∀(A B:Option (List Zav)),ix2 0 A B=A:=fun _ _=>rfl;have e2:∀(A B:Option (List Zav)),ix2 1 A B=B:=fun _ _=>rfl;have hs:∀x:Zav,RN x.fNet→hasS x.fNet a=(decide (x.fNet.fAddr.fV6=a.fV6)&&cov a x):=fun x hx=>by
    unfold hasS cov;rw[(Zvi hx.ok).2 hx,hr,Bool.true_and,Bool.true_and]
   cases hv:a.fV6 with
   |false=>
    simp only[Bool.false_eq_true,if_false];rw[Zaz (by omega),e1,ZvM ha hr hv 1000000 r4 0 f0 [] h.1 (fun i hi=>by omega) (by omega) (by omega) (by simp)];refine⟨_,rfl,by have:=Zry hv h.1 (by omega);unfold maxLen;simp only[List.nil_append];omega,fun x=>?_⟩;simp only[List.nil_append,List.mem_filter,ZhV,List.mem_append];constructor
    ·rintro ⟨hx,hc⟩;have:=ZbA h.1 x hx;rw[hs x this.1,this.2.1,hv,hc];exact⟨.inl hx,rfl⟩
    ·rintro ⟨hx|hx,hc⟩
     ·have:=ZbA h.1 x hx;rw[hs x this.1,Bool.and_eq_true]at hc;exact⟨hx,hc.2⟩
     ·have:=ZbA h.2 x hx;rw[hs x this.1,this.2.1,hv]at hc;simp at hc
   |true=>
    simp only[if_true];rw[Zaz (by omega),e2,ZvM ha hr hv 1000000 r6 0 f0 [] h.2 (fun i hi=>by omega) (by omega) (by omega) (by simp)];refine⟨_,rfl,by have:=Zry hv h.2 (by omega);unfold maxLen;simp only[List.nil_append];omega,fun x=>?_⟩;simp only[List.nil_append,List.mem_filter,ZhV,List.mem_append];constructor
    ·rintro ⟨hx,hc⟩;have:=ZbA h.2 x hx;rw[hs x this.1,this.2.1,hv,hc];exact⟨.inr hx,rfl⟩
    ·rintro ⟨hx|hx,hc⟩
     ·have:=ZbA h.1 x hx;rw[hs x this.1,this.2.1,hv]at hc;simp at hc
     ·have:=ZbA h.2 x hx;rw[hs x this.1,Bool.and_eq_true]at hc;exact⟨hx,hc.2⟩
structure Idx (now:Int) (t:ZaE) (l:List Zah):Prop where
 gt:GT t
 from_:∀x∈ZhV t,∃b∈l,now<b.fUntil∧b.fNet=x.fNet∧b.fUntil=x.fV
 has:∀b∈l,now<b.fUntil→ZhU b.fNet=true→∃x∈ZhV t,x.fNet=b.fNet∧b.fUntil≤x.fV
theorem ZwD{now:Int}{t:ZaE}{l:List Zah}{b:Zah}(h:Idx now t l)(hb:now<b.fUntil→ZhU b.fNet=true→∃x∈ZhV t,x.fNet=b.fNet∧b.fUntil≤x.fV):Idx now t (l++[b]):=
 ⟨h.gt,fun x hx=>by obtain⟨c,h1,h2⟩:=h.from_ x hx;exact⟨c,by simp[h1],h2⟩,fun c hc h1 h2=>by
  rcases List.mem_append.1 hc with hc|hc
  ·exact h.has c hc h1 h2
  ·rw[List.mem_singleton]at hc;subst hc;exact hb h1 h2⟩
theorem ZwC{now:Int}{t:ZaE}{l:List Zah}{b:Zah}(h:Idx now t l)(hb:b.fNet.fAddr.ok)(hl:now<b.fUntil)(hold:∀x∈ZhV t,x.fNet=b.fNet→x.fV≤b.fUntil):∃t',Zel t b.fNet b.fUntil=some t'∧Idx now t' (l++[b]):=by
 cases hr:ZhU b.fNet with
 |true=>
  obtain⟨t',w1,w2,w3⟩:=ZCN h.gt b.fNet hb b.fUntil hr;refine⟨t',w1,w2,fun x hx=>?_,fun c hc h1 h2=>?_⟩
  ·rcases(w3 x).1 hx with e|⟨hx,hne⟩
   ·subst e;exact⟨b,by simp,hl,rfl,rfl⟩
   ·obtain⟨c,h1,h2⟩:=h.from_ x hx;exact⟨c,by simp[h1],h2⟩
  ·by_cases e:c.fNet=b.fNet
   ·refine⟨⟨b.fNet,b.fUntil⟩,(w3 _).2 (.inl rfl),e.symm,?_⟩;rcases List.mem_append.1 hc with hc|hc
    ·obtain⟨x,x1,x2,x3⟩:=h.has c hc h1 h2;have:=hold x x1 (x2.trans e);simp only;omega
    ·rw[List.mem_singleton]at hc;subst hc;exact Int.le_refl _
   ·rcases List.mem_append.1 hc with hc|hc
    ·obtain⟨x,x1,x2,x3⟩:=h.has c hc h1 h2;exact⟨x,(w3 x).2 (.inr ⟨x1,fun q=>e (x2.symm.trans q)⟩),x2,x3⟩
    ·rw[List.mem_singleton]at hc;subst hc;exact absurd rfl e
 |false=>
  refine⟨t,?_,ZwD h fun _ q=>by rw[hr]at q;cases q⟩;cases t with
  |nil=>exact h.gt.elim
  |mk r4 r6 k=>
   simp only[Zel,ZeB,ZnD b.fNet hb,hr,Option.bind_some,Bool.not_false,cond_true]
theorem ZEH(b:Zah)(now:Int):Zof b now=some (decide (now<b.fUntil)):=rfl
theorem ZCc(l:List Zah)(now:Int)(hl:l.length≤maxLen)(hok:∀b∈l,b.ok):∀fu (i:Nat) (t:ZaE),i≤l.length→l.length-i<fu→Idx now t (l.take i)→∃t',Zdh now fu t l (l.length:Int) (i:Int)=some t'∧Idx now t' l:=by
 intro fu;induction fu with
 |zero=>intro _ _ _ h;omega
 |succ fu ih=>
  intro i t hi hf h;simp only[Zdh,Zao];by_cases hlt:i<l.length
  ·rw[if_pos (by omega),Zaz ⟨by omega,by omega⟩];simp only[Int.toNat_natCast];have hko:=hok _ (Zga l Zah.d i hlt);have htk:l.take (i+1)=l.take i++[l.getD i Zah.d]:=by rw[List.take_succ_eq_append_getElem hlt,Zjh l _ i hlt]
   generalize l.getD i Zah.d=b at hko htk ⊢;rw[ZAp h.gt b.fNet hko.1.1,ZEH];simp only[Option.bind_some];rw[add1 hlt hl];have next:∀t',Idx now t' (l.take i++[b])→∃t'',Zdh now fu t' l (l.length:Int) ((i+1:Nat):Int)=some t''∧Idx now t'' l:=fun t' ht'=>ih (i+1) t' (by omega) (by omega) (by rw[htk];exact ht')
   by_cases hlv:now<b.fUntil
   ·rw[decide_eq_true hlv,cond_true];cases hr:ZhU b.fNet with
    |false=>
     simp only[Bool.false_eq_true,if_false,Bool.not_false,cond_true];obtain⟨t',s1,s2⟩:=ZwC h hko.1.1 hlv (fun x hx e=>by
      have:=(Zvi hko.1.1).2 (e ▸ ZxX h.gt x hx);rw[hr]at this;cases this)
     rw[s1];exact next t' s2
    |true=>
     simp only[if_true];cases hq:(Zlk (ZhV t) b.fNet).2 with
     |false=>
      simp only[Bool.not_false,cond_true];obtain⟨t',s1,s2⟩:=ZwC h hko.1.1 hlv (fun x hx e=>absurd e (ZFB hq x hx));rw[s1];exact next t' s2
     |true=>
      simp only[Bool.not_true,cond_false];obtain⟨y,y1,y2,y3⟩:=ZDE hq;by_cases hlt2:(Zlk (ZhV t) b.fNet).1<b.fUntil
      ·rw[if_pos hlt2];obtain⟨t',s1,s2⟩:=ZwC h hko.1.1 hlv (fun x hx e=>by
        have:=ZFX (ZxY h.gt) hx y1 (e.trans y2.symm);rw[this];omega)
       rw[s1];exact next t' s2
      ·rw[if_neg hlt2];exact next t (ZwD h fun _ _=>⟨y,y1,y2,by omega⟩)
   ·rw[decide_eq_false hlv,cond_false];exact next t (ZwD h fun q=>absurd q hlv)
  ·rw[if_neg (by omega)];refine⟨t,rfl,?_⟩;rw[List.take_of_length_le (by omega)]at h;exact h
theorem ZFA(l:List Zah)(now:Int)(hl:l.length≤maxLen)(hok:∀b∈l,b.ok):∃t,ZkU l now=some t∧Idx now t l:=by
 have:=ZCc l now hl hok ((((l.length:Nat):Int)-(0:Int)).toNat+2) 0 (.mk .nil .nil 0) (by omega) (by omega) ⟨⟨trivial,trivial⟩,fun x hx=>by simp[ZhV,Zbp]at hx,fun b hb=>by simp at hb⟩;simpa[ZkU,Znf]using this
def Zmk(l:List Zah)(a:Zag)(now:Int)(b:Zah):Prop:=b∈l∧now<b.fUntil∧hasS b.fNet a=true
def Zux(l:List Zah)(a:Zag)(now r:Int):Prop:=(r=0∧∀b,¬Zmk l a now b)∨∃b,Zmk l a now b∧r=b.fUntil∧∀c,Zmk l a now c→c.fUntil≤r
theorem Zvx{l l':List Zah}{a:Zag}{now r s:Int}(h:Zux l a now r)(h':Zux l' a now s)(e:∀b,Zmk l a now b↔Zmk l' a now b):r=s:=by
 rcases h with⟨h1,h2⟩|⟨b,h1,h2,h3⟩
 ·rcases h' with⟨g1,g2⟩|⟨c,g1,g2,g3⟩
  ·omega
  ·exact absurd ((e c).2 g1) (h2 c)
 ·rcases h' with⟨g1,g2⟩|⟨c,g1,g2,g3⟩
  ·exact absurd ((e b).1 h1) (g2 b)
  ·have:=h3 c ((e c).2 g1);have:=g3 b ((e b).1 h1);omega
theorem ZFz(L:List Zav)(hL:L.length≤maxLen):∀fu (i:Nat) (v:Int),i≤L.length→L.length-i<fu→∃r,ZfR fu v L (L.length:Int) (i:Int)=some r∧v≤r∧(∀x∈L.drop i,x.fV≤r)∧(r=v∨∃x∈L.drop i,r=x.fV):=by
 intro fu;induction fu with
 |zero=>intro _ _ _ h;omega
 |succ fu ih=>
  intro i v hi hf;simp only[ZfR,Zao];by_cases h:i<L.length
  ·rw[if_pos (by omega),Zaz ⟨by omega,by omega⟩];simp only[Int.toNat_natCast];rw[add1 h hL,Zgx L Zav.d i h];generalize L.getD i Zav.d=x;obtain⟨r,r1,r2,r3,r4⟩:=ih (i+1) (if x.fV>v then x.fV else v) (by omega) (by omega);refine⟨r,r1,by split at r2<;>omega,fun y hy=>?_,?_⟩
   ·rcases List.mem_cons.1 hy with e|hy
    ·subst e;split at r2<;>omega
    ·exact r3 y hy
   ·rcases r4 with e|⟨y,y1,y2⟩
    ·split at e
     ·exact .inr ⟨x,by simp,e⟩
     ·exact .inl e
    ·exact .inr ⟨y,by simp[y1],y2⟩
  ·rw[if_neg (by omega)];have:L.drop i=[]:=List.drop_eq_nil_of_le (by omega);exact⟨v,rfl,Int.le_refl _,by simp[this],.inl rfl⟩
theorem ZvV(l:List Zah)(a:Zag)(now:Int)(hl:l.length≤maxLen)(hok:∀b∈l,b.ok)(ha:a.ok):∃r,Zhh l a now=some r∧Zux l a now r:=by
 obtain⟨t,t1,t2⟩:=ZFA l now hl hok;obtain⟨L,c1,hL,c2⟩:=ZBv t2.gt a ha;simp only[Zhh,t1,c1,Option.bind_some];have one:∀x∈L,∃b,Zmk l a now b∧b.fUntil=x.fV:=fun x hx=>by
  obtain⟨x1,x2⟩:=(c2 x).1 hx;obtain⟨b,b1,b2,b3,b4⟩:=t2.from_ x x1;exact⟨b,⟨b1,b2,by rw[b3];exact x2⟩,b4⟩
 have two:∀b,Zmk l a now b→∃x∈L,b.fUntil≤x.fV:=fun b hb=>by
  have hr:ZhU b.fNet=true:=by have:=hb.2.2;unfold hasS at this;rw[Bool.and_eq_true]at this;exact this.1
  obtain⟨x,x1,x2,x3⟩:=t2.has b hb.1 hb.2.1 hr;exact⟨x,(c2 x).2 ⟨x1,by rw[x2];exact hb.2.2⟩,x3⟩
 by_cases h0:L=[]
 ·subst h0;refine⟨0,rfl,.inl ⟨rfl,fun b hb=>?_⟩⟩;obtain⟨x,hx,_⟩:=two b hb;simp at hx
 ·have hpos:0<L.length:=List.length_pos_iff.2 h0;rw[show (((L.length:Nat):Int)==0)=false by rw[beq_eq_false_iff_ne];omega,cond_false,Zaz ⟨by omega,by omega⟩];obtain⟨r,r1,r2,r3,r4⟩:=ZFz L hL ((((L.length:Nat):Int)-(0:Int)).toNat+2) 0 (L.getD (0:Int).toNat Zav.d).fV (by omega) (by omega);simp only[Int.natCast_zero,List.drop_zero]at r1 r3 r4;refine⟨r,r1,.inr ?_⟩;have hex:∃x∈L,r=x.fV:=by
   rcases r4 with e|e
   ·exact⟨_,Zga L Zav.d 0 hpos,e⟩
   ·exact e
  obtain⟨x,x1,x2⟩:=hex;obtain⟨b,b1,b2⟩:=one x x1;refine⟨b,b1,by omega,fun c hc=>?_⟩;obtain⟨y,y1,y2⟩:=two c hc;have:=r3 y y1;omega
theorem Zwk(l:List Zah)(a:Zag)(now:Int)(hl:l.length≤maxLen)(hok:∀b∈l,b.ok)(ha:a.ok):∀fu (i:Nat) (v:Int) (q:Bool),i≤l.length→l.length-i<fu →
  ∃r,Zbw l now fu v q (i:Int) a=some r∧(∀b,Zmk (l.drop i) a now b→b.fUntil≤r)∧(q=true→v≤r)∧(r=v∨∃b,Zmk (l.drop i) a now b∧r=b.fUntil)∧(q=false→(∃b,Zmk (l.drop i) a now b)→∃b,Zmk (l.drop i) a now b∧r=b.fUntil):=by
 intro fu;induction fu with
 |zero=>intro _ _ _ _ h;omega
 |succ fu ih=>
  intro i v q hi hf;simp only[Zbw,Zao];by_cases h:i<l.length
  ·rw[if_pos (by omega),Zaz ⟨by omega,by omega⟩];simp only[Int.toNat_natCast];have hko:=hok _ (Zga l Zah.d i h);rw[add1 h hl,Zgx l Zah.d i h];generalize l.getD i Zah.d=b at hko ⊢;have hhit:ZfO b a now=some (decide (now<b.fUntil)&&hasS b.fNet a):=by
    simp only[ZfO,ZFr _ _ hko.1.1 ha,Zao,gt_iff_lt,Option.bind_some];by_cases h:now<b.fUntil
    ·rw[if_pos h,decide_eq_true h];rfl
    ·rw[if_neg h,decide_eq_false h];rfl
   rw[hhit];simp only[Option.bind_some];have hsub:∀c,Zmk (l.drop (i+1)) a now c→Zmk (b :: l.drop (i+1)) a now c:=fun c hc=>⟨by simp[hc.1],hc.2⟩;cases hq:(decide (now<b.fUntil)&&hasS b.fNet a)with
   |false=>
    simp only[cond_false];have hno:∀c,Zmk (b :: l.drop (i+1)) a now c↔Zmk (l.drop (i+1)) a now c:=fun c=>by
     refine⟨fun hc=>⟨?_,hc.2⟩,hsub c⟩;rcases List.mem_cons.1 hc.1 with e|hm
     ·subst e;rw[decide_eq_true hc.2.1,hc.2.2]at hq;cases hq
     ·exact hm
    obtain⟨r,r1,r2,r3,r4,r5⟩:=ih (i+1) v q (by omega) (by omega);refine⟨r,r1,fun c hc=>r2 c ((hno c).1 hc),r3,?_,fun hf hx=>?_⟩
    ·rcases r4 with e|⟨c,c1,c2⟩
     ·exact .inl e
     ·exact .inr ⟨c,hsub c c1,c2⟩
    ·obtain⟨c,hc⟩:=hx;obtain⟨d,d1,d2⟩:=r5 hf ⟨c,(hno c).1 hc⟩;exact⟨d,hsub d d1,d2⟩
   |true=>
    simp only[cond_true];rw[Bool.and_eq_true,decide_eq_true_eq]at hq;have hb:Zmk (b :: l.drop (i+1)) a now b:=⟨by simp,hq⟩
    -- what follows from a step that took b's,or something longer
    have step:∀v',b.fUntil≤v'→(q=true→v≤v')→(v'=b.fUntil∨(q=true∧v'=v))→∃r,Zbw l now fu v' true ((i+1:Nat):Int) a=some r∧(∀c,Zmk (b :: l.drop (i+1)) a now c→c.fUntil≤r)∧(q=true→v≤r)∧(r=v∨∃c,Zmk (b :: l.drop (i+1)) a now c∧r=c.fUntil)∧(q=false→(∃c,Zmk (b :: l.drop (i+1)) a now c)→∃c,Zmk (b :: l.drop (i+1)) a now c∧r=c.fUntil):=by
     intro v' g1 g2 g3;obtain⟨r,r1,r2,r3,r4,r5⟩:=ih (i+1) v' true (by omega) (by omega);have r3':=r3 rfl;refine⟨r,r1,fun c hc=>?_,fun hq1=>by have:=g2 hq1;omega,?_,fun hf _=>?_⟩
     ·rcases List.mem_cons.1 hc.1 with e|hm
      ·subst e;omega
      ·exact r2 c ⟨hm,hc.2⟩
     ·rcases r4 with e|⟨c,c1,c2⟩
      ·rcases g3 with e2|⟨_,e2⟩
       ·exact .inr ⟨b,hb,by omega⟩
       ·exact .inl (by omega)
      ·exact .inr ⟨c,hsub c c1,c2⟩
     ·rcases r4 with e|⟨c,c1,c2⟩
      ·rcases g3 with e2|⟨e1,_⟩
       ·exact⟨b,hb,by omega⟩
       ·rw[hf]at e1;cases e1
      ·exact⟨c,hsub c c1,c2⟩
    cases q with
    |false=>
     rw[Bool.not_false,cond_true];exact step b.fUntil (Int.le_refl _) (fun h=>by cases h) (.inl rfl)
    |true=>
     rw[Bool.not_true,cond_false];by_cases hgt:b.fUntil>v
     ·rw[if_pos hgt];exact step b.fUntil (Int.le_refl _) (fun _=>by omega) (.inl rfl)
     ·rw[if_neg hgt];exact step v (by omega) (fun _=>Int.le_refl _) (.inr ⟨rfl,rfl⟩)
  ·rw[if_neg (by omega)];have:l.drop i=[]:=List.drop_eq_nil_of_le (by omega);rw[this];exact⟨v,rfl,fun b hb=>by simp[Zmk]at hb,fun _=>Int.le_refl _,.inl rfl,fun _ ⟨b,hb⟩=>by simp[Zmk]at hb⟩
theorem Ztn(l:List Zah)(a:Zag)(now:Int)(hl:l.length≤maxLen)(hok:∀b∈l,b.ok)(ha:a.ok):∃r,Zef l a now=some r∧Zux l a now r:=by
 obtain⟨r,r1,r2,r3,r4,r5⟩:=Zwk l a now hl hok ha ((((l.length:Nat):Int)-(0:Int)).toNat+2) 0 0 false (by omega) (by omega);simp only[Int.natCast_zero,List.drop_zero]at r1 r2 r4 r5;refine⟨r,r1,?_⟩;by_cases h:∃b,Zmk l a now b
 ·obtain⟨b,b1,b2⟩:=r5 trivial h;exact .inr ⟨b,b1,b2,r2⟩
 ·refine .inl ⟨?_,fun b hb=>h ⟨b,hb⟩⟩;rcases r4 with e|⟨b,b1,_⟩
  ·exact e
  ·exact absurd ⟨b,b1⟩ h
def u64r(x:Int):Prop:=0≤x∧x≤18446744073709551615
theorem ZnF(a:Int):u64r (IntKind.wrap .u64 a):=by
 unfold u64r;simp only[IntKind.wrap,IntKind.bits,IntKind.signed];simp;omega
theorem ZGn{a:Int}(h:u64r a):IntKind.wrap .u64 a=a:=Zhi h.1 h.2
theorem Zsn{a:Int}(h:u64r a)(k:Int)(hk:0<k):IntKind.wrap .u64 (Int.tdiv a k)=Int.fdiv a k:=by
 obtain⟨n,rfl⟩ : ∃n:Nat,a=n:=⟨a.toNat,by have:=h.1;omega⟩;obtain⟨m,rfl⟩ : ∃m:Nat,k=m:=⟨k.toNat,by omega⟩;have h1:=h.2;rw[Int.fdiv_eq_tdiv_of_nonneg (by omega) (by omega)];refine ZGn ⟨Int.tdiv_nonneg (by omega) (by omega),?_⟩;have:Int.tdiv (n:Int) (m:Int)≤(n:Int):=by
  rw[←Int.ofNat_tdiv];have:=Nat.div_le_self n m;omega
 omega
theorem pw30:(2:Int) ^ (min (30:Int).toNat (IntKind.bits .u64))=1073741824:=by decide
theorem pw27:(2:Int) ^ (min (27:Int).toNat (IntKind.bits .u64))=134217728:=by decide
theorem pw31:(2:Int) ^ (min (31:Int).toNat (IntKind.bits .u64))=2147483648:=by decide
theorem pw32:(2:Int) ^ (min (32:Int).toNat (IntKind.bits .u64))=4294967296:=by decide
theorem pw57:(2:Int) ^ (min (57:Int).toNat (IntKind.bits .u64))=144115188075855872:=by decide
theorem pw7:(2:Int) ^ (min (7:Int).toNat (IntKind.bits .u64))=128:=by decide
theorem Zzv(x:Int)(h:u64r x):∃y,ZlR x=some y∧ZdY x=some y∧u64r y:=by
 unfold ZlR ZdY;simp only[pw30,pw27,pw31,Zsn h 1073741824 (by omega),Zsn (ZnF _) 134217728 (by omega),Zsn (ZnF _) 2147483648 (by omega)];exact⟨_,rfl,rfl,ZnF _⟩
theorem ZHR(a b:Nat)(ha:a<2 ^ 64)(hb:b<2 ^ 64):IntKind.u64.wrap (((BitVec.ofInt (IntKind.bits .u64) (a:Int)) ||| (BitVec.ofInt (IntKind.bits .u64) (b:Int))).toNat:Int)=((a |||b:Nat):Int):=by
 have h1:∀c:Nat,c<2 ^ 64→(BitVec.ofInt 64 (c:Int)).toNat=c:=fun c hc=>by
  rw[BitVec.ofInt_natCast,BitVec.toNat_ofNat];exact Nat.mod_eq_of_lt hc
 have h2:((BitVec.ofInt (IntKind.bits .u64) (a:Int)) ||| (BitVec.ofInt (IntKind.bits .u64) (b:Int))).toNat=a |||b:=by
  show (BitVec.ofInt 64 (a:Int) |||BitVec.ofInt 64 (b:Int)).toNat=a |||b;rw[BitVec.toNat_or,h1 a ha,h1 b hb]
 rw[h2];have:=Nat.or_lt_two_pow ha hb;exact Zhi (by omega) (by omega)
theorem rot7(x:Int)(h:u64r x):ZdJ x 7=some (IntKind.wrap .u64 (IntKind.wrap .u64 (x * 128)+IntKind.wrap .u64 (Int.tdiv x 144115188075855872))):=by
 unfold ZdJ;have e7:IntKind.wrap .u64 (((BitVec.ofInt (IntKind.bits .u64) (IntKind.wrap .u64 (7:Int))) &&& (BitVec.ofInt (IntKind.bits .u64) (63:Int))).toNat:Int)=7:=by decide
 have e57:IntKind.wrap .u64 ((64:Int)-7)=57:=by decide
 simp only[e7,e57,pw57,pw7];rw[Zaz (by omega),Zaz (by omega),Zsn h 144115188075855872 (by omega)];obtain⟨n,rfl⟩ : ∃n:Nat,x=n:=⟨x.toNat,by have:=h.1;omega⟩;have h1:=h.2;have e1:IntKind.wrap .u64 ((n:Int) * 128)=((n % 2 ^ 57 * 128:Nat):Int):=by
  simp only[IntKind.wrap,IntKind.bits,IntKind.signed];simp;omega
 have e2:Int.fdiv (n:Int) 144115188075855872=((n / 2 ^ 57:Nat):Int):=by
  rw[Int.fdiv_eq_tdiv_of_nonneg (by omega) (by omega)];exact(Int.ofNat_tdiv n 144115188075855872).symm
 have hlt:n % 2 ^ 57 * 128<2 ^ 64:=by omega
 have hlt2:n / 2 ^ 57<2 ^ 7:=by omega
 rw[e1,e2,ZHR _ _ hlt (by omega)];have e3:n % 2 ^ 57 * 128 |||n / 2 ^ 57=n % 2 ^ 57 * 128+n / 2 ^ 57:=by
  have:=Nat.shiftLeft_add_eq_or_of_lt hlt2 (n % 2 ^ 57);rw[Nat.shiftLeft_eq]at this;exact this.symm
 rw[e3];congr 1;rw[Zhi (by omega) (by omega)];omega
theorem ZGu(k:Int)(l:List Int)(hl:l.length≤1000):∃h,ZpG k l=some h∧ZfE k l=some h∧u64r h:=by
 have hL:l.length≤maxLen:=by unfold maxLen;omega
 have main:∀fu (i:Nat) (v:Int),u64r v→i≤l.length→l.length-i<fu→∃h,Zjj fu v l (l.length:Int) (i:Int)=some h∧Zds l fu v (i:Int)=some h∧u64r h:=by
  intro fu;induction fu with
  |zero=>intro i v _ _ h;omega
  |succ fu ih=>
   intro i v hv hi hf;unfold Zjj Zds;simp only[Zao];by_cases h:i<l.length
   ·rw[if_pos (by omega),if_pos (by omega),Zaz ⟨by omega,by omega⟩,Zaz ⟨by omega,by omega⟩,rot7 v hv];obtain⟨y,h1,h2,h3⟩:=Zzv _ (ZnF ((l.getD ((i:Int)).toNat (0:Int))+(11400714819323198485:Int)));simp only[h1,h2,Option.bind_some];obtain⟨z,h4,h5,h6⟩:=Zzv _ (ZnF (((BitVec.ofInt (IntKind.bits .u64) (IntKind.wrap .u64 (IntKind.wrap .u64 (v * 128)+IntKind.wrap .u64 (Int.tdiv v 144115188075855872)))) ^^^ (BitVec.ofInt (IntKind.bits .u64) y)).toNat:Int));simp only[h4,h5,Option.bind_some,add1 h hL];exact ih (i+1) z h6 (by omega) (by omega)
   ·rw[if_neg (by omega),if_neg (by omega)];exact⟨v,rfl,rfl,hv⟩
 unfold ZpG ZfE;obtain⟨y,h1,h2,h3⟩:=Zzv _ (ZnF (k+(11400714819323198485:Int)));simp only[h1,h2,Option.bind_some];exact main _ 0 y h3 (by omega) (by omega)
theorem ZHc(k:Int)(n:Zai):∃h,ZoW k n=some h∧Zgu k n=some h∧u64r h:=by
 unfold ZoW Zgu;cases n.fAddr.fV6
 ·obtain⟨h,h1,h2,h3⟩:=ZGu k [(4:Int),n.fAddr.fHi,n.fAddr.fLo,(IntKind.wrap .u64 n.fBits)] (by simp);simp only[cond_false,h1,h2,Option.bind_some];exact⟨h,rfl,rfl,h3⟩
 ·obtain⟨h,h1,h2,h3⟩:=ZGu k [(6:Int),n.fAddr.fHi,n.fAddr.fLo,(IntKind.wrap .u64 n.fBits)] (by simp);simp only[cond_true,h1,h2,Option.bind_some];exact⟨h,rfl,rfl,h3⟩
theorem ZFV(h n:Int)(hh:u64r h)(h1:1≤n)(h8:n≤8):∃r,ZlS h n=some r∧Zfp h n=some r∧0≤r∧r<n:=by
 unfold ZlS Zfp;simp only[Zao,pw32];rw[if_neg (by omega),if_neg (by omega),if_neg (by omega),if_neg (by omega),Zsn hh 4294967296 (by omega),Zsn (ZnF _) 4294967296 (by omega)];refine⟨_,rfl,rfl,?_⟩;obtain⟨a,rfl⟩ : ∃a:Nat,h=a:=⟨h.toNat,by have:=hh.1;omega⟩;have h2:=hh.2;have e1:Int.fdiv (a:Int) 4294967296=((a / 4294967296:Nat):Int):=by
  rw[Int.fdiv_eq_tdiv_of_nonneg (by omega) (by omega)];exact(Int.ofNat_tdiv a 4294967296).symm
 rw[e1,ZGn (a:=n) ⟨by omega,by omega⟩];have hb:∀m:Nat,1≤m→m≤8→a / 4294967296*m<4294967296*m:=fun m h1 h2=>by
  have:a / 4294967296<4294967296:=by omega
  exact Nat.mul_lt_mul_of_pos_right this (by omega)
 obtain⟨m,rfl⟩ : ∃m:Nat,n=m:=⟨n.toNat,by omega⟩;have hb:=hb m (by omega) (by omega);generalize hq:a / 4294967296*m=q at hb;have e2:((a / 4294967296:Nat):Int)*(m:Int)=(q:Int):=by rw[←hq];simp
 rw[e2,Zhi (a:=(q:Int)) (by omega) (by omega)];have e3:Int.fdiv (q:Int) 4294967296=((q / 4294967296:Nat):Int):=by
  rw[Int.fdiv_eq_tdiv_of_nonneg (by omega) (by omega)];exact(Int.ofNat_tdiv q 4294967296).symm
 rw[e3,Zlr (by omega) (by omega)];omega
theorem ZBY{a:Zag}(h:Fits a):Zjg a (wid a)=a:=by
 refine ZrD (Zjp h _) h (Ziq a _) fun i hi=>?_;have hw:wid (Zjg a (wid a))=wid a:=by unfold wid;rw[Ziq]
 rw[hw]at hi;rw[ZkD h (wid a) i (Nat.le_refl _) hi,decide_eq_true hi,Bool.true_and]
def ZDQ(a:Zag):Zai:=if ZcP a=true then⟨a,(wid a:Int)⟩else⟨⟨false,0,0⟩,0⟩
theorem ZED(a:Zag)(h:a.ok):Zmc a=some (ZDQ a):=by
 unfold Zmc ZDQ;simp only[ZAe,Option.bind_some,Zzw a h];by_cases hr:ZcP a=true
 ·rw[if_pos ⟨hr,by omega,by omega⟩,if_pos hr];simp only[Int.toNat_natCast,ZBY (Zog h hr)]
 ·rw[if_neg (fun x=>hr x.1),if_neg hr]
theorem ZFM(hi lo:Nat)(h1:hi<2 ^ 64)(h2:lo<2 ^ 64):∀fu (i:Nat) (z:Int),i≤64→64-i<fu→(i<64→z=((2 ^ (63-i):Nat):Int)) →
  Zbv (hi:Int) (lo:Int) 128 fu ((hi-hi % 2 ^ (64-i):Nat):Int) ((lo-lo % 2 ^ (64-i):Nat):Int) z (i:Int)=some ((hi:Int),(lo:Int)):=by
 intro fu;induction fu with
 |zero=>intro i z _ h;omega
 |succ fu ih=>
  intro i z hi64 hf hz;unfold Zbv;simp only[Zao];by_cases h:i<64
  ·have e1:ZaC (i:Int) 64=((i+64:Nat):Int):=by rw[ZgM (by omega) (by omega)];omega
   have e2:ZaC (i:Int) 1=((i+1:Nat):Int):=by rw[ZgM (by omega) (by omega)];omega
   have hz:=hz h;obtain⟨p,hp⟩ : ∃p:Nat,p=2 ^ (63-i):=⟨_,rfl⟩;have hp0:0<p:=by rw[hp];exact Nat.two_pow_pos _
   have hp1:2 ^ (64-i)=2*p:=by rw[hp,show 64-i=(63-i)+1 by omega,Nat.pow_succ];omega
   have hp3:p≤2 ^ 63:=by rw[hp];exact Nat.pow_le_pow_right (by omega) (by omega)
   have hp2:p<2 ^ 64:=by omega
   rw[←hp]at hz;subst hz;have hnext:IntKind.wrap .u64 (Int.tdiv (p:Int) 2)=((p / 2:Nat):Int):=by
    rw[Zsn ⟨by omega,by omega⟩ 2 (by omega),Int.fdiv_eq_tdiv_of_nonneg (by omega) (by omega)];exact(Int.ofNat_tdiv p 2).symm
   have hz2:i+1<64→((p / 2:Nat):Int)=((2 ^ (63-(i+1)):Nat):Int):=fun hh=>by
    have:p=2 * 2 ^ (63-(i+1)):=by rw[hp,show 63-i=(63-(i+1))+1 by omega,Nat.pow_succ];omega
    rw[this];congr 1;omega
   have bit:∀n:Nat,n<2 ^ 64→IntKind.wrap .u64 (Int.tdiv (n:Int) (p:Int))=((n / p:Nat):Int):=fun n hn=>by
    rw[Zsn ⟨by omega,by omega⟩ _ (by omega),Int.fdiv_eq_tdiv_of_nonneg (by omega) (by omega)];exact(Int.ofNat_tdiv n p).symm
   have step:∀n:Nat,n<2 ^ 64→(n / p % 2=1→IntKind.wrap .u64 (((n-n % 2 ^ (64-i):Nat):Int)+(p:Int))=((n-n % 2 ^ (64-(i+1)):Nat):Int))∧(n / p % 2≠1→((n-n % 2 ^ (64-i):Nat):Int)=((n-n % 2 ^ (64-(i+1)):Nat):Int)):=fun n hn=>by
    have e:2 ^ (64-(i+1))=p:=by rw[hp];congr 1;omega
    rw[e,hp1];have hm:n % (2*p)=n % p+p*(n / p % 2):=by rw[Nat.mul_comm 2 p];exact Nat.mod_mul
    have hm2:n % p<p:=Nat.mod_lt _ hp0;have hm3:n % (2*p)≤n:=Nat.mod_le _ _;refine⟨fun hb=>?_,fun hb=>?_⟩
    ·rw[hb,Nat.mul_one]at hm;rw[Zhi (by omega) (by omega)];omega
    ·have hb0:n / p % 2=0:=by omega
     rw[hb0,Nat.mul_zero]at hm;rw[hm];congr 1
   have tm:∀n:Nat,((Int.tmod ((n:Nat):Int) 2)==(1:Int))=decide (n % 2=1):=fun n=>by
    have:Int.tmod ((n:Nat):Int) 2=((n % 2:Nat):Int):=(Int.ofNat_tmod n 2).symm;rw[this];by_cases hh:n % 2=1
    ·rw[hh];rfl
    ·rw[decide_eq_false hh];exact beq_false_of_ne (by omega)
   have second:∀v8:Int,v8=((hi-hi % 2 ^ (64-(i+1)):Nat):Int)→Zdd (hi:Int) (lo:Int) 128 ((lo-lo % 2 ^ (64-i):Nat):Int) (p:Int) (i:Int) (Zbv (hi:Int) (lo:Int) 128 fu) v8=some ((hi:Int),(lo:Int)):=by
    rintro v8 rfl;unfold Zdd;simp only[Zao,e1,e2,hnext,bit lo h2,tm];rw[if_pos (by omega),Zaz (by omega)];by_cases hb:lo / p % 2=1
    ·rw[if_pos hb,(step lo h2).1 hb];exact ih (i+1) _ (by omega) (by omega) hz2
    ·rw[if_neg hb,(step lo h2).2 hb];exact ih (i+1) _ (by omega) (by omega) hz2
   rw[if_pos (by omega),if_pos (by omega),Zaz (by omega)];simp only[bit hi h1,tm,Zao];by_cases hb:hi / p % 2=1
   ·rw[if_pos hb];exact second _ ((step hi h1).1 hb)
   ·rw[if_neg hb];exact second _ ((step hi h1).2 hb)
  ·have:i=64:=by omega
   subst this;rw[if_neg (by omega)];simp[Nat.mod_one]
theorem ZDi(hi lo:Nat)(h1:hi<2 ^ 64)(h2:lo<2 ^ 64):Zdw (hi:Int) (lo:Int) 128=some ((hi:Int),(lo:Int)):=by
 unfold Zdw;have:=ZFM hi lo h1 h2 66 0 9223372036854775808 (by omega) (by omega) (fun _=>by decide);have e1:hi-hi % 2 ^ (64-0)=0:=by rw[Nat.sub_zero,Nat.mod_eq_of_lt h1];omega
 have e2:lo-lo % 2 ^ (64-0)=0:=by rw[Nat.sub_zero,Nat.mod_eq_of_lt h2];omega
 rw[e1,e2]at this;exact this
theorem ZFo(a:Zag)(h:a.ok):ZfP a=some (ZDQ a):=by
 unfold ZfP Zhs ZDQ;simp only[ZsL,Option.bind_some,ZjB a h,Zao];by_cases hr:ZcP a=true
 ·rw[hr,Bool.not_true,cond_false,if_neg (by omega),if_neg (by omega),if_pos rfl];unfold Zhr Zex Zew;simp only[ZjB a h,hr,Bool.not_true,cond_false,Option.bind_some,Zao,ZsL];rw[if_neg (by omega),if_neg (by omega)];have hf:=Zog h hr;obtain⟨v6,hi,lo⟩:=a;have a1:=hf.hi0;have a2:=hf.hi1;have a3:=hf.lo0;have a4:=hf.lo1;simp only at a1 a2 a3 a4;obtain⟨x,rfl⟩ : ∃x:Nat,hi=x:=⟨hi.toNat,by omega⟩;obtain⟨y,rfl⟩ : ∃y:Nat,lo=y:=⟨lo.toNat,by omega⟩;cases v6
  ·have hv:=hf.v4 rfl;have e:wid ⟨false,(x:Int),(y:Int)⟩=32:=rfl;have e1:ZaC (96:Int) ((32:Nat):Int)=128:=by decide
   simp only[e,e1,cond_false];have:=ZDi 0 y (by omega) (by omega);have e0:Zdw (0:Int) (y:Int) 128=some (((0:Nat):Int),(y:Int)):=this;rw[e0,Option.bind_some];simp only at hv;simp[hv.1]
  ·have e:wid ⟨true,(x:Int),(y:Int)⟩=128:=rfl;simp only[e,cond_true];have:=ZDi x y (by omega) (by omega);have e0:Zdw (x:Int) (y:Int) ((128:Nat):Int)=some ((x:Int),(y:Int)):=this;rw[e0,Option.bind_some];rfl
 ·simp[hr]
def Zzn(a:Zag)(s n:Int):Int:=(Zjs a s n).getD 0
def ZoO(p:Int):Int:=if p<1 then 1 else if p>8 then 8 else p
theorem ZvZ(a:Zag)(h:a.ok)(s n:Int):Zjs a s n=some (Zzn a s n)∧ZeE a s n=some (Zzn a s n)∧0≤Zzn a s n∧Zzn a s n<ZoO n:=by
 have e1:ZjO n=some (ZoO n):=by
  unfold ZjO ZoO;congr 1
  repeat' split
  all_goals omega
 have e2:Zcw n=some (ZoO n):=by
  unfold Zcw ZoO;simp only[Zao]
  repeat' split
  all_goals rfl
 have e3:1≤ZoO n∧ZoO n≤8:=by
  unfold ZoO
  repeat' split
  all_goals omega
 obtain⟨m,h1,h2,h3⟩:=ZHc s (ZDQ a);obtain⟨r,h4,h5,h6,h7⟩:=ZFV m (ZoO n) h3 e3.1 e3.2;have q1:Zjs a s n=some r:=by
  unfold Zjs;simp only[ZED a h,h1,e1,h4,Option.bind_some]
 have q2:ZeE a s n=some r:=by
  unfold ZeE;simp only[ZFo a h,h2,e2,h5,Option.bind_some]
 have q3:Zzn a s n=r:=by unfold Zzn;rw[q1];rfl
 rw[q3];exact⟨q1,q2,h6,h7⟩
def addT(a b:Int):Int:=fitI (fitI a+fitI b)
theorem Zzg(a b:Int):Zng a b=some (addT a b)∧ZdZ a b=some (addT a b):=by
 have h1:=Zsf a;have h2:=Zsf b;have e:ZaC (fitI a) (fitI b)=fitI a+fitI b:=ZgM (by omega) (by omega);constructor
 ·unfold Zng addT;simp only[ZmZ,Option.bind_some,e]
 ·unfold ZdZ addT;simp only[ZoL,Option.bind_some,e]
end Go.Proofs.YtdjfoojllbfcgaaGreat
