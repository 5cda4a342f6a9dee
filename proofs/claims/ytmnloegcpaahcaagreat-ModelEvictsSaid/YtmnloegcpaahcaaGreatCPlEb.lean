import Derived.Test.YtmnloegcpaahcaaGreatCPlA
import Derived.Test.YtmnloegcpaahcaaGreatCMoeA4
namespace Go.Proofs.YtmnloegcpaahcaaGreat
set_option linter.unusedSimpArgs false
set_option linter.unusedVariables false
theorem ZjH{a:Int}(h:0<=a):∃n:Nat,a=n:=⟨a.toNat,by omega⟩
def Zdc(a:Zaf):Bool:=if a.fV6 then !(decide (a.fHi=0)&&decide (a.fLo / 4294967296=65535))else decide (a.fHi=0)&&decide (a.fLo<4294967296)
theorem ZKU(n:Nat)(h:n<=18446744073709551615):IntKind.u32.wrap (IntKind.u64.wrap (((BitVec.ofInt (IntKind.bits .u64) (n:Int)) &&& (BitVec.ofInt (IntKind.bits .u64) (4294967295:Int))).toNat:Int))=((n % 4294967296:Nat):Int):=by
 have:=ZCr n 4294967295 (by omega) (by omega);rw[show ((4294967295:Nat):Int)=(4294967295:Int)from rfl]at this;rw[this,show (4294967295:Nat)=2 ^ 32-1 from rfl,Nat.and_two_pow_sub_one_eq_mod];rw[show (2:Nat) ^ 32=4294967296 from rfl];have b:n % 4294967296<4294967296:=Nat.mod_lt _ (by omega);rw[ZhF (by omega) (by omega)];simp only[IntKind.wrap,IntKind.bits,IntKind.signed];simp
theorem ZKJ(n:Nat)(h:n<4294967296):ZoJ ((n:Nat):Int)=some ⟨false,0,n⟩:=by
 unfold ZoJ;rw[ZhF (by omega) (by omega)]
theorem Zki(a:Zaf)(h:a.ok):Zfe a=some (Zdc a):=by
 obtain⟨v,j,lo⟩:=a;obtain⟨_,d,b,_⟩:=h;have d:=ZjB d;have b:=ZjB b;simp only at d b;obtain⟨n,rfl⟩:=ZjH b.1;have g:=ZKU n (by omega);have hlt:n % 4294967296<4294967296:=Nat.mod_lt _ (by omega);have hd:Int.fdiv (n:Int) (2 ^ (min (32:Int).toNat (IntKind.bits .u64)))=(n:Int) / 4294967296:=by
  rw[show (2:Int) ^ (min (32:Int).toNat (IntKind.bits .u64))=4294967296 from rfl,Int.fdiv_eq_ediv_of_nonneg _ (by omega)]
 cases v with
 |true=>
  simp only[Zfe,ZsR,Zdc,cond_true,hd,g];have hb:∀(p q:Int),(p==q)=decide (p=q):=fun p q=>by rw[Bool.eq_iff_iff];simp
  have o:=ZKJ _ hlt;by_cases e:j=0
  .by_cases i:(n:Int) / 4294967296=65535
   .rw[hb,hb,decide_eq_true e,decide_eq_true i,cond_true,cond_true,o];simp
   .rw[hb,hb,decide_eq_true e,decide_eq_false i,cond_true,cond_false];simp
  .rw[hb,decide_eq_false e,cond_false];simp
 |false=>
  simp only[Zfe,Zdc,cond_false,g,ZKJ _ hlt,Option.bind_some];congr 1;rw[Bool.eq_iff_iff];simp;constructor
  .rintro ⟨f,r⟩;exact⟨f.symm,by omega⟩
  .rintro ⟨f,r⟩;exact⟨f.symm,by omega⟩
theorem ZjG(a:Zaf)(h:a.ok):Zbv a=some (Zdc a):=by
 obtain⟨v,e,lo⟩:=a;obtain⟨_,d,b,_⟩:=h;have d:=ZjB d;have b:=ZjB b;simp only at d b;have hd:IntKind.u64.wrap (Int.tdiv lo 4294967296)=lo / 4294967296:=by
  rw[Int.tdiv_eq_ediv_of_nonneg b.1];exact ZhF (by omega) (by omega)
 cases v with
 |true=>
  simp only[Zbv,Zdc,hd,Bool.not_true,cond_false,if_true];generalize lo / 4294967296=q;simp only[Bool.cond_eq_ite,beq_iff_eq,bne_iff_ne,ne_eq,decide_eq_true_eq,Bool.not_eq_true',Bool.not_eq_false',decide_eq_false_iff_not]
  repeat' split
  all_goals first|rfl | (rw[Option.some.injEq,Bool.eq_iff_iff];simp only[Bool.and_eq_true,Bool.not_eq_true',Bool.not_eq_false',Bool.and_eq_false_iff,decide_eq_true_eq,decide_eq_false_iff_not,beq_iff_eq,bne_iff_ne,ne_eq,iff_true,iff_false,true_iff,false_iff,Bool.false_eq_true,Bool.true_eq_false,not_true_eq_false,not_false_eq_true];omega)
 |false=>
  simp only[Zbv,Zdc,Bool.not_false,cond_true,Bool.false_eq_true,if_false];simp only[Bool.cond_eq_ite,beq_iff_eq,bne_iff_ne,ne_eq,decide_eq_true_eq,Bool.not_eq_true',Bool.not_eq_false',decide_eq_false_iff_not]
  repeat' split
  all_goals first|rfl | (rw[Option.some.injEq,Bool.eq_iff_iff];simp only[Bool.and_eq_true,Bool.not_eq_true',Bool.not_eq_false',Bool.and_eq_false_iff,decide_eq_true_eq,decide_eq_false_iff_not,beq_iff_eq,bne_iff_ne,ne_eq,iff_true,iff_false,true_iff,false_iff,Bool.false_eq_true,Bool.true_eq_false,not_true_eq_false,not_false_eq_true];omega)
theorem ZCJ(a b:Zaf):Zed a b=some (cmpA a b):=by
 obtain⟨v,d,lo⟩:=a;obtain⟨v',ce,j7⟩:=b;simp only[Zed,Zej,Zei,cmpA,famA,cmpI,orI,Zaf.mk.injEq];simp only[Bool.cond_eq_ite,bne_iff_ne,ne_eq,ite_not,decide_eq_true_eq,Bool.not_eq_true',beq_eq_false_iff_ne];cases v<;>cases v'<;>simp only[true_and,Bool.false_eq_true,Bool.true_eq_false,false_and,not_true_eq_false,not_false_eq_true,if_true,if_false,ite_true,ite_false,Bool.not_true,Bool.not_false]
 all_goals (repeat' split)<;>first|rfl|omega | (congr 1;omega)|simp_all
theorem ZIs(a b:Zaj):Zfq a b=some (cmpN a b):=by
 simp only[Zfq,ZCJ,Option.bind_some,cmpN,orI,cmpI];simp only[Bool.cond_eq_ite,bne_iff_ne,ne_eq,ite_not,decide_eq_true_eq,beq_iff_eq];generalize cmpA a.fAddr b.fAddr=c
 (repeat' split)<;>first|rfl|omega | (congr 1;omega)|simp_all
def ZjF(a:Zai):Bool:=Zdc a.fAddr&&decide (1<=a.fPort)&&decide (a.fPort<=65535)
theorem ZtI(a:Zai)(h:a.ok):Zic a=some (ZjF a):=by
 simp only[Zic,Zki _ h.1,ZjF,Option.bind_some];generalize Zdc a.fAddr=b;cases b<;>simp only[cond_true,cond_false,Bool.true_and,Bool.false_and];simp only[Bool.cond_eq_ite,beq_iff_eq,bne_iff_ne,ne_eq,decide_eq_true_eq,Bool.not_eq_true',Bool.not_eq_false',decide_eq_false_iff_not]
 repeat' split
 all_goals first|rfl | (rw[Option.some.injEq,Bool.eq_iff_iff];simp only[Bool.and_eq_true,Bool.not_eq_true',Bool.not_eq_false',Bool.and_eq_false_iff,decide_eq_true_eq,decide_eq_false_iff_not,beq_iff_eq,bne_iff_ne,ne_eq,iff_true,iff_false,true_iff,false_iff,Bool.false_eq_true,Bool.true_eq_false,not_true_eq_false,not_false_eq_true];omega)
theorem ZtU(a:Zai)(h:a.ok):ZeY a=some (ZjF a):=by
 simp only[ZeY,ZjG _ h.1,ZjF,Option.bind_some];generalize Zdc a.fAddr=b;cases b<;>simp only[cond_true,cond_false,Bool.true_and,Bool.false_and];simp only[Bool.cond_eq_ite,beq_iff_eq,bne_iff_ne,ne_eq,decide_eq_true_eq,Bool.not_eq_true',Bool.not_eq_false',decide_eq_false_iff_not]
 repeat' split
 all_goals first|rfl | (rw[Option.some.injEq,Bool.eq_iff_iff];simp only[Bool.and_eq_true,Bool.not_eq_true',Bool.not_eq_false',Bool.and_eq_false_iff,decide_eq_true_eq,decide_eq_false_iff_not,beq_iff_eq,bne_iff_ne,ne_eq,iff_true,iff_false,true_iff,false_iff,Bool.false_eq_true,Bool.true_eq_false,not_true_eq_false,not_false_eq_true];omega)
def Znt(e:Zab):Bool:=ZjF e.fEnd&&decide (1<=e.fState)&&decide (e.fState<=3)&&decide (0<=e.fFails)&&decide (e.fFails<=1000)&&decide (0<=e.fNext)&&decide (e.fNext<=1099511627776)
theorem ZLc(n:Int):(n==(if(1099511627776:Int)<(if(0:Int)>n then(0:Int)else n)then(1099511627776:Int)else(if(0:Int)>n then(0:Int)else n)))=(decide (0<=n)&&decide (n<=1099511627776)):=by
 rw[Bool.eq_iff_iff];simp only[beq_iff_eq,Bool.and_eq_true,decide_eq_true_eq];constructor
 .intro h;(repeat' split at h)<;>omega
 .intro h;(repeat' split)<;>omega
theorem Zwg(e:Zab)(h:e.ok):Zim e=some (Znt e):=by
 simp only[Zim,ZtI _ h.1,Zer,ZLc,Znt,Option.bind_some];generalize ZjF e.fEnd=b;cases b<;>simp only[cond_true,cond_false,Bool.true_and,Bool.false_and]
 all_goals
  simp only[Bool.cond_eq_ite,beq_iff_eq,bne_iff_ne,ne_eq,decide_eq_true_eq,Bool.not_eq_true',Bool.not_eq_false',decide_eq_false_iff_not]
  repeat' split
  all_goals first|rfl | (rw[Option.some.injEq,Bool.eq_iff_iff];simp only[Bool.and_eq_true,Bool.not_eq_true',Bool.not_eq_false',Bool.and_eq_false_iff,decide_eq_true_eq,decide_eq_false_iff_not,beq_iff_eq,bne_iff_ne,ne_eq,iff_true,iff_false,true_iff,false_iff,Bool.false_eq_true,Bool.true_eq_false,not_true_eq_false,not_false_eq_true];omega)
theorem ZnB(e:Zab)(h:e.ok):ZdR e=some (Znt e):=by
 simp only[ZdR,ZtU _ h.1,Znt,Option.bind_some];generalize ZjF e.fEnd=b;cases b<;>simp only[cond_true,cond_false,Bool.true_and,Bool.false_and];simp only[Bool.cond_eq_ite,beq_iff_eq,bne_iff_ne,ne_eq,decide_eq_true_eq,Bool.not_eq_true',Bool.not_eq_false',decide_eq_false_iff_not]
 repeat' split
 all_goals first|rfl | (rw[Option.some.injEq,Bool.eq_iff_iff];simp only[Bool.and_eq_true,Bool.not_eq_true',Bool.not_eq_false',Bool.and_eq_false_iff,decide_eq_true_eq,decide_eq_false_iff_not,beq_iff_eq,bne_iff_ne,ne_eq,iff_true,iff_false,true_iff,false_iff,Bool.false_eq_true,Bool.true_eq_false,not_true_eq_false,not_false_eq_true];omega)
def cmpE(a b:Zai):Int:=orI (cmpA a.fAddr b.fAddr) (cmpI a.fPort b.fPort)
theorem ZuN(a b:Zai):ZfH a b=some (cmpE a b):=by
 simp only[ZfH,ZJf,ZtL,or2,Option.bind_some,cmpE]
theorem Zsm(a b:Zai):Zcn a b=some (cmpE a b):=by
 simp only[Zcn,ZCJ,Option.bind_some,cmpE,orI,cmpI];simp only[Bool.cond_eq_ite,bne_iff_ne,ne_eq,ite_not,decide_eq_true_eq,beq_iff_eq];generalize cmpA a.fAddr b.fAddr=c
 (repeat' split)<;>first|rfl|omega | (congr 1;omega)|simp_all
theorem ZHx{a b:Zai}:cmpE a b<0↔cmpA a.fAddr b.fAddr<0\/(a.fAddr=b.fAddr/\a.fPort<b.fPort):=by simp only[cmpE,Zxi,ZtM,ZoN]
theorem ZKz{a b:Zai}:0<cmpE a b↔0<cmpA a.fAddr b.fAddr\/(a.fAddr=b.fAddr/\b.fPort<a.fPort):=by simp only[cmpE,Zxj,ZtN,ZoN]
theorem ZiC{a b:Zai}:cmpE a b=0↔a=b:=by
 simp only[cmpE,ZuB,Zjj,ZoN];obtain⟨x,p⟩:=a;obtain⟨y,q⟩:=b;simp
theorem ZfS{a b:Zai}:0<cmpE a b↔cmpE b a<0:=by
 rw[ZKz,ZHx,ZAv];constructor<;>rintro (h|⟨d,e⟩)<;>first|exact .inl h|exact .inr ⟨d.symm,e⟩
theorem Zmy{a b c:Zai}(d:cmpE a b<0)(e:cmpE b c<0):cmpE a c<0:=by
 rw[ZHx]at *
 rcases d with d|⟨d,f⟩<;>rcases e with e|⟨e,g⟩
 .exact .inl (ZxI d e)
 .exact .inl (e ▸ d)
 .exact .inl (d ▸ e)
 .exact .inr ⟨d.trans e,by omega⟩
def ZnY(l:List Zab)(e:Zai):Int:=ixOf (fun x=>decide (x.fEnd=e)) l 0
theorem Zuy(l:List Zab)(e:Zai)(hl:l.length<=maxLen):Zdx l e=some (ZnY l e):=by
 simp only[Zdx];rw[show ((0:Int))=((0:Nat):Int)from rfl];rw[ZrG l Zab.d (fun x=>decide (x.fEnd=e)) hl (fun fu i=>ZcL l fu i e) (fun i=>i) ?_ ?_ _ 0 (by omega) (by omega)]
 .rfl
 .intro fu i b;simp only[ZcL,Zah];rw[if_pos (by omega),Zaq ⟨by omega,by omega⟩];simp
 .intro fu;simp only[ZcL,Zah];rw[if_neg (by omega)]
def putS(l:List Zab)(e:Zab):List Zab:=l.takeWhile (fun x=>!decide (0<cmpE x.fEnd e.fEnd))++[e]++l.dropWhile (fun x=>!decide (0<cmpE x.fEnd e.fEnd))
def addS(l:List Zab)(e:Zab)(bp:Int):List Zab×Int:=if Znt e then if 0<=ZnY l e.fEnd then([],7)else if(l.length:Int)>=bp then([],5)else(putS l e,0)else([],1)
theorem ZJR(l:List Zab)(e:Zab)(h:l.length<=10000):∀fu (i:Nat),i<=l.length->l.length-i<fu ->
  Zdy l fu (i:Int) e=some (l.take i++putS (l.drop i) e,0):=by
 have j:l.length<=maxLen:=Zoe (by omega);have bn:∀i:Nat,i<=l.length->(need (0<=(i:Int)/\(i:Int)<=((l.length:Nat):Int)) <|
   need ((([]:List Zab)++(l.take (i:Int).toNat)).length * 56<=140737488355328/\(([]:List Zab)++(l.take (i:Int).toNat)).length<=maxLen) <|
   need (((([]:List Zab)++(l.take (i:Int).toNat))++([e]:List Zab)).length * 56<=140737488355328/\((([]:List Zab)++(l.take (i:Int).toNat))++([e]:List Zab)).length<=maxLen) <|
   need ((((([]:List Zab)++(l.take (i:Int).toNat))++([e]:List Zab))++(l.drop (i:Int).toNat)).length * 56<=140737488355328/\(((([]:List Zab)++(l.take (i:Int).toNat))++([e]:List Zab))++(l.drop (i:Int).toNat)).length<=maxLen) <|
   some ((((([]:List Zab)++(l.take (i:Int).toNat))++([e]:List Zab))++(l.drop (i:Int).toNat)),(0:Int)))=some (l.take i++[e]++l.drop i,0):=by
  intro i g;have b:∀n:Nat,n<=10001->n * 56<=140737488355328/\n<=maxLen:=fun n o=>⟨by omega,Zoe (by omega)⟩;rw[Zaq ⟨by omega,by omega⟩,Zaq (b _ (by simp;omega)),Zaq (b _ (by simp;omega)),Zaq (b _ (by simp;omega))];simp
 intro fu;induction fu with
 |zero=>intro i _ h;omega
 |succ fu ih=>
  intro i g p;simp only[Zdy,Zsm,Option.bind_some,Zah];by_cases hlt:i<l.length
  .rw[if_pos (by omega),Zaq ⟨by omega,by omega⟩];have hd:=Zex l Zab.d i hlt;by_cases f:cmpE (l.getD i Zab.d).fEnd e.fEnd<=0
   .rw[if_pos (by simpa using f),add1 hlt j,ih (i+1) (by omega) (by omega)];congr 2;unfold putS;rw[hd,List.takeWhile_cons,List.dropWhile_cons,if_pos (by simp;simpa using f),if_pos (by simp;simpa using f),List.take_succ_eq_append_getElem hlt];rw[ZbX l Zab.d i hlt];simp only[List.append_assoc,List.cons_append,List.nil_append]
   .rw[if_neg (by simpa using f),bn i g];congr 2;unfold putS;rw[hd,List.takeWhile_cons,List.dropWhile_cons,if_neg (by simp;simpa using f),if_neg (by simp;simpa using f)];simp
  .rw[if_neg (by omega),bn i g];have:l.drop i=[]:=List.drop_eq_nil_of_le (by omega);rw[this];simp[putS]
theorem ZJV(l:List Zab)(e:Zab)(bp:Int)(h:l.length<=10000)(f:e.ok):Zho l e bp=some (addS l e bp):=by
 have g:l.length<=maxLen:=Zoe (by omega);simp only[Zho,ZnB e f,Zuy l _ g,Option.bind_some,addS];cases Znt e
 .rfl
 .simp only[Bool.not_true,cond_false,if_true,Zah,ge_iff_le];by_cases b:0<=ZnY l e.fEnd
  .simp only[b,if_true]
  .simp only[b,if_false];by_cases d:bp<=(l.length:Int)
   .simp only[d,if_true]
   .simp only[d,if_false];have:=ZJR l e h ((((l.length:Nat):Int)-(0:Int)).toNat+2) 0 (by omega) (by omega);rw[show ((0:Nat):Int)=0 from rfl]at this;rw[this];rfl
def ZxG(l:List Zab)(cJ:Int):Int:=((l.countP fun x=>decide (x.fState=cJ):Nat):Int)
theorem ZFQ(l:List Zab)(cJ:Int)(hl:l.length<=maxLen):Zgl l cJ=some (ZxG l cJ):=by
 simp only[Zgl];have:=Zts l Zab.d (fun x=>decide (x.fState=cJ)) hl (fun fu n i=>Zcb l cJ fu n i) (fun fu i n b=>by
   simp only[Zcb,Zah];rw[if_pos (by omega),Zaq ⟨by omega,by omega⟩];simp only[Bool.cond_eq_ite,beq_iff_eq,Int.toNat_natCast,decide_eq_true_eq]) (fun fu n=>by
   simp only[Zcb,Zah];rw[if_neg (by omega)]) ((((l.length:Nat):Int)-(0:Int)).toNat+2) 0 0 (by omega) (by omega) (by omega)
 simpa[ZxG]using this
def setS(l:List Zab)(e:Zab):List Zab:=if 0<=ZnY l e.fEnd then l.set (ZnY l e.fEnd).toNat e else l
theorem ZBF(l:List Zab)(e:Zai):ZnY l e<(l.length:Int):=by
 have:=ZBy (fun x:Zab=>decide (x.fEnd=e)) l 0;simpa[ZnY]using this
theorem Zvd(l:List Zab)(e:Zab)(h:l.length<=10000):Zdq l e=some (setS l e):=by
 have b:l.length<=maxLen:=Zoe (by omega);have:=ZBF l e.fEnd;simp only[Zdq,Zuy l _ b,Option.bind_some,Zah,setS,List.nil_append];split
 .rename_i d;rw[if_neg (by omega)]
 .rename_i d;rw[Zaq ⟨by omega,b⟩,Zaq ⟨by omega,this⟩,if_pos (by omega)]
theorem ZIu(l:List Zab)(e:Zab):(putS l e).length=l.length+1:=by
 unfold putS;have:=congrArg List.length (List.takeWhile_append_dropWhile (p:=fun x:Zab=>!decide (0<cmpE x.fEnd e.fEnd)) (l:=l));simp only[List.length_append,List.length_cons,List.length_nil]at this ⊢;omega
theorem ZJh(l:List Zab)(e:Zab)(bp:Int):(addS l e bp).1.length<=l.length+1:=by
 unfold addS
 repeat' split
 all_goals simp[ZIu]
theorem ZId(l:List Zab)(e:Zab):(setS l e).length=l.length:=by
 unfold setS;split<;>simp
theorem ZKD(l:List Zai)(e:Zai)(hl:l.length<=maxLen):Zhn l e=some (l.contains e):=by
 simp only[Zhn];have:=ZrG l Zai.d (fun x=>decide (x=e)) hl (fun fu i=>ZcV l fu i e) (fun i=>decide (0<=i)) (fun fu i n=>by
   simp only[ZcV,Zah];rw[if_pos (by omega),Zaq ⟨by omega,by omega⟩];simp) (fun fu=>by
   simp only[ZcV,Zah];rw[if_neg (by omega)];rfl) ((((l.length:Nat):Int)-(0:Int)).toNat+2) 0 (by omega) (by omega)
 simp only[Int.natCast_zero,List.drop_zero]at this;rw[this];congr 1;rw[Bool.eq_iff_iff,decide_eq_true_eq,List.contains_iff_mem];have f:=ZoX (fun x=>decide (x=e)) l 0;constructor
 .intro h;obtain⟨k,b,_,⟨x,g,j⟩,_⟩:=ZoW _ l 0 h;rw[<-of_decide_eq_true j];exact List.mem_of_getElem? g
 .intro h;apply Int.not_lt.1;intro b;have:=f.1 b e h;simp at this
def ZwU(ends:List Zai)(x:Zab):Zab:=if x.fState=3 then(if ends.contains x.fEnd then⟨x.fEnd,1,x.fFails,x.fNext⟩else x)else x
theorem ZCB{α:Type}(l:List α)(d:α)(i:Nat)(h:i<l.length):l.set i (l.getD i d)=l:=by
 apply List.ext_getElem?;intro k;rw[List.getElem?_set];split
 .rename_i e;subst e;rw[ZbX l d i h,List.getElem?_eq_getElem h]
 .rfl
theorem ZCI(l:List Zab)(ends:List Zai)(h:l.length<=10000)(b:ends.length<=maxLen):Zeo l ends=some (l.map (ZwU ends)):=by
 simp only[Zeo,List.nil_append];rw[Zaq ⟨by omega,Zoe (by omega)⟩];have:=ZID (ZwU ends) Zab.d l.length (Zoe (by omega)) (fun fu i w=>ZbV ends fu i w) some (fun fu i w e f=>by
   simp only[ZbV,Zah,ZKD ends _ b,Option.bind_some];rw[if_pos (by omega),Zaq ⟨by omega,by omega⟩];simp only[Int.toNat_natCast,ZwU,Bool.cond_eq_ite,beq_iff_eq];split
   .split
    .rfl
    .rw[ZCB w _ i (by omega)]
   .rw[ZCB w _ i (by omega)]) (fun fu w e=>by
   simp only[ZbV,Zah];rw[if_neg (by omega)]) ((((l.length:Nat):Int)-(0:Int)).toNat+2) 0 l rfl (by omega) (by omega)
 simpa using this
theorem ZzW{l:List Zab}{e:Zai}:ZnY l e<0↔∀x∈l,x.fEnd≠e:=by
 unfold ZnY;rw[ZoX];simp
theorem Zsg{α:Type}(p:α->Bool):∀(l:List α){x:α},x∈l.takeWhile p->p x=true
 | [],x,h=>by simp at h
 |y :: r,x,h=>by
  rw[List.takeWhile_cons]at h
  split at h
  .rename_i b
   rcases List.mem_cons.1 h with rfl|h
   .exact b
   .exact Zsg p r h
  .cases h
theorem ZJL{l:List Zab}{e:Zab}(h:∀x∈l,x.ok)(b:e.ok):∀x∈setS l e,x.ok:=by
 unfold setS;split
 .intro x hx;rcases List.mem_or_eq_of_mem_set hx with hx|rfl
  .exact h x hx
  .exact b
 .exact h
def fitI(n:Int):Int:=if n<0 then 0 else if n>1099511627776 then 1099511627776 else n
theorem Zkl(n:Int):Zer n=some (fitI n):=by
 unfold Zer fitI;congr 1
 repeat' split
 all_goals omega
theorem Zko(n:Int):Zbo n=some (fitI n):=by
 unfold Zbo fitI;simp only[Zah]
 repeat' split
 all_goals first|rfl|omega
theorem ZiN(n:Int):0<=fitI n/\fitI n<=1099511627776:=by
 unfold fitI
 repeat' split
 all_goals omega
theorem ZFj(p:Zaa)(n:Int):∃q,ZkA p n=some q/\Zev p n=some q:=by
 unfold ZkA Zev;simp only[Zkl,Zko,Option.bind_some,Zah];refine⟨_,rfl,?_⟩;split
 .rfl
 .rfl
theorem ZJW(p:Zaa)(n:Int):∃q,ZmJ p n=some q/\Zfz p n=some q:=by
 unfold ZmJ Zfz;simp only[Zah];by_cases f:n<1
 .rw[if_neg (by omega),if_pos f];exact⟨_,rfl,rfl⟩
 .rw[if_pos (by omega),if_neg f];by_cases g:n>1048576
  .rw[if_neg (by omega),if_pos g];exact⟨_,rfl,rfl⟩
  .rw[if_pos (by omega),if_neg g];by_cases b:p.fPing=0
   .have d:(p.fPing==0)=true:=by simp[b]
    have e:(p.fPing != 0)=false:=by simp[b]
    rw[d,e];exact⟨_,rfl,rfl⟩
   .have d:(p.fPing==0)=false:=by simp[b]
    have e:(p.fPing != 0)=true:=by simp[b]
    rw[d,e];simp only[cond_false,cond_true];by_cases h:n<p.fPing
    .rw[if_pos h,if_neg (by omega)];exact⟨_,rfl,rfl⟩
    .rw[if_neg h,if_pos (by omega)];exact⟨_,rfl,rfl⟩
theorem ZEm(k:Int):∃q,Zkx k=some q/\Zec k=some q/\0<=q/\q<=100:=by
 unfold Zkx Zec;simp only[Zah];by_cases i:k<0
 .rw[if_pos i];have b:(k==1)=false:=by simp;omega
  have d:(k==2)=false:=by simp;omega
  have e:(k==3)=false:=by simp;omega
  have f:(k==4)=false:=by simp;omega
  have g:(k==5)=false:=by simp;omega
  rw[b,d,e,f,g];exact⟨0,rfl,rfl,by omega,by omega⟩
 .rw[if_neg i];by_cases j:k>=6
  .rw[if_pos j];have b:(k==1)=false:=by simp;omega
   have d:(k==2)=false:=by simp;omega
   have e:(k==3)=false:=by simp;omega
   have f:(k==4)=false:=by simp;omega
   have g:(k==5)=false:=by simp;omega
   rw[b,d,e,f,g];exact⟨0,rfl,rfl,by omega,by omega⟩
  .rw[if_neg j];obtain h|h|h|h|h|h:k=0\/k=1\/k=2\/k=3\/k=4\/k=5:=by omega
   all_goals subst h;exact⟨_,rfl,rfl,by decide,by decide⟩
def Zhv(l:List Zaa)(e:Zai):Int:=ixOf (fun x=>decide (x.fEnd=e)) l 0
theorem Zti(l:List Zaa)(e:Zai)(hl:l.length<=maxLen):ZiW l e=some (Zhv l e):=by
 simp only[ZiW,Zcv];have:=ZrG l Zaa.d (fun x=>decide (x.fEnd=e)) hl (fun fu i=>ZaS l e fu (l.length:Int) i) (fun i=>i) (fun fu i b=>by
   simp only[ZaS,Zlw,Zah,Option.bind_some];rw[if_pos (by omega),Zaq ⟨by omega,by omega⟩];simp) (fun fu=>by
   simp only[ZaS,Zah];rw[if_neg (by omega)]) ((((l.length:Nat):Int)-(0:Int)).toNat+2) 0 (by omega) (by omega)
 simp only[Int.natCast_zero,List.drop_zero]at this;rw[this];rfl
theorem Zkn(l:List Zaa)(e:Zai)(hl:l.length<=maxLen):Zbi l e=some (Zhv l e):=by
 simp only[Zbi];have:=ZrG l Zaa.d (fun x=>decide (x.fEnd=e)) hl (fun fu i=>ZcA l fu i e) (fun i=>i) (fun fu i b=>by
   simp only[ZcA,Zah];rw[if_pos (by omega),Zaq ⟨by omega,by omega⟩];simp) (fun fu=>by
   simp only[ZcA,Zah];rw[if_neg (by omega)]) ((((l.length:Nat):Int)-(0:Int)).toNat+2) 0 (by omega) (by omega)
 simp only[Int.natCast_zero,List.drop_zero]at this;rw[this];rfl
def wid(a:Zaf):Nat:=if a.fV6 then 128 else 32
def num(a:Zaf):Nat:=if a.fV6 then 2 ^ 64*a.fHi.toNat+a.fLo.toNat else a.fLo.toNat
def bitN(a:Zaf)(i:Nat):Bool:=(num a).testBit (wid a-1-i)
structure Fits (a:Zaf):Prop where
 hi0:0<=a.fHi
 hi1:a.fHi<=18446744073709551615
 lo0:0<=a.fLo
 lo1:a.fLo<=18446744073709551615
 v4:a.fV6=false->a.fHi=0/\a.fLo<4294967296
theorem ZqK{a:Zaf}(h:a.ok)(b:Zdc a=true):Fits a:=by
 have d:=ZjB h.2.1;have e:=ZjB h.2.2.1;refine⟨d.1,d.2,e.1,e.2,fun f=>?_⟩;unfold Zdc at b;rw[f]at b;simpa using b
theorem Fits.ok{a:Zaf}(h:Fits a):a.ok:=by
 refine⟨trivial,?_,?_,trivial⟩
 .have:=h.hi0;have:=h.hi1;simp only[okI,Lit.wf,IntKind.min,IntKind.max,IntKind.bits,IntKind.signed];simp;omega
 .have:=h.lo0;have:=h.lo1;simp only[okI,Lit.wf,IntKind.min,IntKind.max,IntKind.bits,IntKind.signed];simp;omega
theorem ZJo{a:Zaf}(h:Fits a):num a<2 ^ wid a:=by
 have:=h.hi0;have:=h.hi1;have:=h.lo0;have:=h.lo1;unfold num wid;cases b:a.fV6
 .have:=h.v4 b;simp only[Bool.false_eq_true,if_false];omega
 .simp only[if_true];omega
theorem ZuQ{a b:Zaf}(d:Fits a)(hb:Fits b)(e:a.fV6=b.fV6)(h:∀i,i<wid a->bitN a i=bitN b i):a=b:=by
 have f:num a=num b:=by
  apply Nat.eq_of_testBit_eq;intro j;have g:wid a=wid b:=by unfold wid;rw[e]
  by_cases n:j<wid a
  .have:=h (wid a-1-j) (by omega);unfold bitN at this;rw[<-g]at this;rw[show wid a-1-(wid a-1-j)=j by omega]at this;exact this
  .rw[Nat.testBit_lt_two_pow (Nat.lt_of_lt_of_le (ZJo d) (Nat.pow_le_pow_right (by omega) (by omega))),Nat.testBit_lt_two_pow (Nat.lt_of_lt_of_le (ZJo hb) (Nat.pow_le_pow_right (by omega) (by omega)))]
 have:=d.hi0;have:=d.hi1;have:=d.lo0;have:=d.lo1;have:=hb.hi0;have:=hb.hi1;have:=hb.lo0;have:=hb.lo1;obtain⟨v,o,lo⟩:=a;obtain⟨v',ce,j7⟩:=b;simp only at e;subst e;simp only[num]at f;simp only[Zaf.mk.injEq,true_and];cases v
 .have:=d.v4 rfl;have:=hb.v4 rfl;simp only[Bool.false_eq_true,if_false]at *
  omega
 .simp only[if_true]at *
  omega
theorem ZyR(n k T:Nat)(f:k<=T)(h:n<2 ^ T):n &&& (2 ^ T-2 ^ k)=n-n % 2 ^ k:=by
 have d:n-n % 2 ^ k=2 ^ k*(n / 2 ^ k):=by have:=Nat.div_add_mod n (2 ^ k);omega
 rw[d];apply Nat.eq_of_testBit_eq;intro i;have e:2 ^ T-2 ^ k=2 ^ k*(2 ^ (T-k)-1):=by
  rw[Nat.mul_sub,<-Nat.pow_add,Nat.mul_one];congr 2;omega
 rw[Nat.testBit_and,e,Nat.testBit_two_pow_mul,Nat.testBit_two_pow_mul,Nat.testBit_two_pow_sub_one,Nat.testBit_div_two_pow];by_cases b:k<=i
 .by_cases g:i<T
  .simp[b,show i-k<T-k by omega,show i-k+k=i by omega]
  .have:n.testBit i=false:=Nat.testBit_lt_two_pow (Nat.lt_of_lt_of_le h (Nat.pow_le_pow_right (by omega) (by omega)));simp[b,this,show i-k+k=i by omega]
 .simp[b]
theorem ZCh(n k j:Nat):(n-n % 2 ^ k).testBit j=(decide (k<=j)&&n.testBit j):=by
 have b:n-n % 2 ^ k=2 ^ k*(n / 2 ^ k):=by have:=Nat.div_add_mod n (2 ^ k);omega
 rw[b,Nat.testBit_two_pow_mul,Nat.testBit_div_two_pow];by_cases h:k<=j
 .simp[h,show j-k+k=j by omega]
 .simp[h]
theorem Zri(a b:Nat)(d:a<2 ^ 64)(hb:b<2 ^ 64):IntKind.u64.wrap (((BitVec.ofInt (IntKind.bits .u64) (a:Int)) &&& (BitVec.ofInt (IntKind.bits .u64) (b:Int))).toNat:Int)=((a &&& b:Nat):Int):=by
 rw[ZCr a b d hb];have:a &&& b<2 ^ 64:=Nat.and_lt_two_pow _ hb;exact ZhF (by omega) (by omega)
theorem ZKM:∀n:Fin 65,ZfB ((n.val:Nat):Int)=some (((2 ^ 64-2 ^ (64-n.val):Nat)):Int):=by decide +kernel
theorem ZyZ(n:Nat)(h:n<=64):ZfB ((n:Nat):Int)=some (((2 ^ 64-2 ^ (64-n):Nat)):Int):=ZKM ⟨n,by omega⟩
theorem Zza(n:Int):ZfB n=ZfB (if(64:Int)<(if(0:Int)>n then(0:Int)else n)then(64:Int)else(if(0:Int)>n then(0:Int)else n)):=by
 unfold ZfB;have e:∀m:Int,0<=m->m<=64->(if(64:Int)<(if(0:Int)>m then(0:Int)else m)then(64:Int)else(if(0:Int)>m then(0:Int)else m))=m:=fun m b d=>by
  repeat' split
  all_goals omega
 rw[e (if(64:Int)<(if(0:Int)>n then(0:Int)else n)then(64:Int)else(if(0:Int)>n then(0:Int)else n)) (by repeat' split<;>omega) (by repeat' split<;>omega)]
theorem ZJF(n:Int)(h:n<=0):ZfB n=some 0:=by
 rw[Zza,show (if(64:Int)<(if(0:Int)>n then(0:Int)else n)then(64:Int)else(if(0:Int)>n then(0:Int)else n))=((0:Nat):Int)by repeat' split<;>omega,ZyZ 0 (by omega)]
 rfl
theorem ZHY(n:Int)(h:64<=n):ZfB n=some 18446744073709551615:=by
 rw[Zza,show (if(64:Int)<(if(0:Int)>n then(0:Int)else n)then(64:Int)else(if(0:Int)>n then(0:Int)else n))=((64:Nat):Int)by repeat' split<;>omega,ZyZ 64 (by omega)]
 rfl
def Zkq(a:Zaf)(n:Nat):Zaf:=if a.fV6 then(if n<=64 then⟨true,((a.fHi.toNat-a.fHi.toNat % 2 ^ (64-n):Nat):Int),0⟩else⟨true,a.fHi,((a.fLo.toNat-a.fLo.toNat % 2 ^ (128-n):Nat):Int)⟩)else⟨false,a.fHi,((a.fLo.toNat-a.fLo.toNat % 2 ^ (32-n):Nat):Int)⟩
theorem ZGn{a:Zaf}(h:a.ok)(f:Zdc a=true)(n:Nat)(d:n<=wid a):Ziv a (n:Int)=some (Zkq a n):=by
 have b:=ZqK h f;have eZ:=Zki a h;have o:=b.hi0;have r:=b.hi1;have t:=b.lo0;have u:=b.lo1;obtain⟨v,C,lo⟩:=a;obtain⟨p,e⟩:=ZjH b.hi0;obtain⟨q,g⟩:=ZjH b.lo0;simp only at e g o r t u;subst e g;cases v with
 |false=>
  have y:=b.v4 rfl;simp only at y;have d:n<=32:=d;have cR:(if(32:Int)<(if(0:Int)>(n:Int)then(0:Int)else(n:Int))then(32:Int)else(if(0:Int)>(n:Int)then(0:Int)else(n:Int)))=(n:Int):=by repeat' split<;>omega
  simp only[Ziv,eZ,f,Option.bind_some,Bool.not_true,cond_false,Zeq,Bool.not_false,cond_true,cR,ZyZ n (by omega)];have e:(2:Nat) ^ (64-n)=2 ^ 32 * 2 ^ (32-n):=by rw[<-Nat.pow_add];congr 1;omega
  have aS:(2:Nat) ^ (32-n)<=2 ^ 32:=Nat.pow_le_pow_right (by omega) (by omega);have gh:0<(2:Nat) ^ (32-n):=Nat.pow_pos (by omega);have hd:(2 ^ 64-2 ^ (64-n):Nat) / 4294967296=2 ^ 32-2 ^ (32-n):=by
   rw[e];generalize (2:Nat) ^ (32-n)=z at *
   omega
  have A:Int.fdiv ((2 ^ 64-2 ^ (64-n):Nat):Int) (2 ^ (min (32:Int).toNat (IntKind.bits .u64)))=((2 ^ 32-2 ^ (32-n):Nat):Int):=by
   rw[show (2:Int) ^ (min (32:Int).toNat (IntKind.bits .u64))=4294967296 from rfl,Int.fdiv_eq_ediv_of_nonneg _ (by omega),<-hd];rfl
  rw[A,Zri q _ (by omega) (by generalize (2:Nat) ^ (32-n)=z at *;omega),ZyR q (32-n) 32 (by omega) (by omega)];simp[Zkq]
 |true=>
  have d:n<=128:=d;have cR:(if(128:Int)<(if(0:Int)>(n:Int)then(0:Int)else(n:Int))then(128:Int)else(if(0:Int)>(n:Int)then(0:Int)else(n:Int)))=(n:Int):=by repeat' split<;>omega
  simp only[Ziv,eZ,f,Option.bind_some,Bool.not_true,cond_false,Zeq,cond_true,cR,ZkO];have B:ZaJ (n:Int) 64=(n:Int)-64:=ZcI (by omega) (by omega);rw[B];by_cases h64:n<=64
  .rw[ZyZ n h64,ZJF _ (by omega)];simp only[Option.bind_some];rw[Zri p _ (by omega) (by have:=Nat.pow_pos (a:=2) (n:=64-n) (by omega);omega),ZyR p (64-n) 64 (by omega) (by omega)];have:=Zri q 0 (by omega) (by omega);rw[Nat.and_zero]at this;rw[show (0:Int)=((0:Nat):Int)from rfl,this];simp[Zkq,h64]
  .rw[ZHY _ (by omega),show (n:Int)-64=((n-64:Nat):Int)by omega,ZyZ (n-64) (by omega)];simp only[Option.bind_some];have i:=Zri p 18446744073709551615 (by omega) (by omega);have j:=ZyR p 0 64 (by omega) (by omega);rw[show (2:Nat) ^ 64-2 ^ 0=18446744073709551615 from rfl,Nat.pow_zero,Nat.mod_one,Nat.sub_zero]at j;rw[j]at i;rw[show (18446744073709551615:Int)=((18446744073709551615:Nat):Int)from rfl,i];rw[show 64-(n-64)=128-n by omega,Zri q _ (by omega) (by have:=Nat.pow_pos (a:=2) (n:=128-n) (by omega);omega),ZyR q (128-n) 64 (by omega) (by omega)];simp[Zkq,h64]
theorem Zkp(a:Zaf)(n:Nat):(Zkq a n).fV6=a.fV6:=by
 unfold Zkq;cases h:a.fV6
 .rfl
 .simp only[if_true];split<;>rfl
theorem Zll{a:Zaf}(h:Fits a)(n:Nat):Fits (Zkq a n):=by
 have:=h.hi0;have:=h.hi1;have:=h.lo0;have:=h.lo1;have l:∀x y:Nat,x-x % y<=x:=fun x y=>Nat.sub_le _ _;have l1:=l a.fHi.toNat (2 ^ (64-n));have l2:=l a.fLo.toNat (2 ^ (128-n));have l3:=l a.fLo.toNat (2 ^ (32-n));unfold Zkq;cases b:a.fV6
 .have:=h.v4 b;simp only[Bool.false_eq_true,if_false];exact⟨by simp only;omega,by simp only;omega,by simp only;omega,by simp only;omega,fun _=>⟨this.1,by simp only;omega⟩⟩
 .simp only[if_true];split
  .exact⟨by simp only;omega,by simp only;omega,by simp only;omega,by simp only;omega,fun h=>by simp at h⟩
  .exact⟨by simp only;omega,by simp only;omega,by simp only;omega,by simp only;omega,fun h=>by simp at h⟩
theorem ZoT{b lo j:Nat}(hl:lo<2 ^ 64):(2 ^ 64*b+lo).testBit j=if j<64 then lo.testBit j else b.testBit (j-64):=Nat.testBit_two_pow_mul_add b hl j
theorem Zmr{a:Zaf}(h:Fits a)(n i:Nat)(e:n<=wid a)(f:i<wid a):bitN (Zkq a n) i=(decide (i<n)&&bitN a i):=by
 have j:=h.hi0;have o:=h.hi1;have p:=h.lo0;have r:=h.lo1;unfold bitN;have g:wid (Zkq a n)=wid a:=by unfold wid;rw[Zkp]
 rw[g];unfold wid at e f ⊢;unfold num Zkq;cases d:a.fV6
 .simp only[d,Bool.false_eq_true,if_false]at *
  rw[Int.toNat_natCast,ZCh];congr 1;rw[decide_eq_decide];omega
 .simp only[d,if_true]at *
  have jC:a.fLo.toNat<2 ^ 64:=by omega
  by_cases h64:n<=64
  .simp only[h64,if_true,Int.toNat_natCast];rw[ZoT (by simp),ZoT jC];by_cases b:128-1-i<64
   .simp only[b,if_true];rw[show (decide (i<n))=false by rw[decide_eq_false_iff_not];omega];simp
   .simp only[b,if_false];rw[ZCh];congr 1;rw[decide_eq_decide];omega
  .simp only[h64,if_false,if_true,Int.toNat_natCast];rw[ZoT (Nat.lt_of_le_of_lt (Nat.sub_le _ _) jC),ZoT jC];by_cases b:128-1-i<64
   .simp only[b,if_true];rw[ZCh];congr 1;rw[decide_eq_decide];omega
   .simp only[b,if_false];rw[show (decide (i<n))=true by rw[decide_eq_true_eq];omega];simp
theorem ZEu{a:Zaf}(h:Fits a)(hr:Zdc a=true)(n:Nat):Zdc (Zkq a n)=true:=by
 have f:=h.hi0;have g:=h.hi1;have i:=h.lo0;have j:=h.lo1;unfold Zkq;cases d:a.fV6
 .have:=h.v4 d;have l3:a.fLo.toNat-a.fLo.toNat % 2 ^ (32-n)<=a.fLo.toNat:=Nat.sub_le _ _;simp[Zdc,this.1];omega
 .simp only[if_true];split
  .simp[Zdc]
  .rename_i h64;unfold Zdc at hr ⊢;rw[d]at hr;simp only[if_true,Bool.not_eq_true',Bool.and_eq_false_iff,decide_eq_false_iff_not]at hr ⊢;rcases hr with hr|hr
   .exact .inl hr
   .refine .inr fun e=>hr ?_;have e':(a.fLo.toNat-a.fLo.toNat % 2 ^ (128-n)) / 4294967296=65535:=by omega
    have hx:a.fLo.toNat-a.fLo.toNat % 2 ^ (128-n)=2 ^ (128-n)*(a.fLo.toNat / 2 ^ (128-n)):=by have:=Nat.div_add_mod a.fLo.toNat (2 ^ (128-n));omega
    rw[hx]at e';by_cases o:128-n<=32
    .have b:(4294967296:Nat)=2 ^ (128-n) * 2 ^ (32-(128-n)):=by
      rw[<-Nat.pow_add,show 128-n+(32-(128-n))=32 by omega]
     rw[b,Nat.mul_div_mul_left _ _ (Nat.pow_pos (by omega)),Nat.div_div_eq_div_mul,<-b]at e';omega
    .have b:(2:Nat) ^ (128-n)=4294967296*(2 * 2 ^ (128-n-33)):=by
      rw[show (4294967296:Nat)*(2 * 2 ^ (128-n-33))=2 ^ 33 * 2 ^ (128-n-33)by omega,<-Nat.pow_add];congr 1;omega
     rw[b,Nat.mul_assoc,Nat.mul_div_cancel_left _ (by omega),Nat.mul_assoc]at e';omega
def Ziw(p:Zaj):Bool:=Zdc p.fAddr&&decide (0<=p.fBits)&&decide (p.fBits<=(wid p.fAddr:Int))&&decide (Zkq p.fAddr p.fBits.toNat=p.fAddr)
structure RN (p:Zaj):Prop where
 ok:p.fAddr.ok
 right:Zdc p.fAddr=true
 nn:0<=p.fBits
 le:p.fBits<=(wid p.fAddr:Int)
 cut:Zkq p.fAddr p.fBits.toNat=p.fAddr
theorem RN.fits{p:Zaj}(h:RN p):Fits p.fAddr:=ZqK h.ok h.right
theorem Zxb{p:Zaj}(h:p.fAddr.ok):Ziw p=true↔RN p:=by
 unfold Ziw;simp only[Bool.and_eq_true,decide_eq_true_eq];exact⟨fun⟨⟨⟨a,b⟩,c⟩,d⟩=>⟨h,a,b,c,d⟩,fun⟨_,a,b,c,d⟩=>⟨⟨⟨a,b⟩,c⟩,d⟩⟩
theorem ZHF(a:Zaf):Zeq a=some (wid a:Int):=by
 unfold Zeq wid;cases a.fV6<;>rfl
theorem ZGp(a:Zaf)(h:a.ok)(n:Int):ZgR a n=some (if Zdc a=true/\0<=n/\n<=(wid a:Int)then(⟨Zkq a n.toNat,n⟩,true)else(⟨⟨false,0,0⟩,0⟩,false)):=by
 simp only[ZgR,Zki a h,ZHF,Option.bind_some,Zah];cases d:Zdc a
 .simp
 .simp only[Bool.not_true,cond_false,true_and];by_cases h0:n<0
  .rw[if_pos h0,if_neg (by omega)]
  .rw[if_neg h0];by_cases b:n>(wid a:Int)
   .rw[if_pos b,if_neg (by omega)]
   .rw[if_neg b,if_pos (by omega)];have:=ZGn h d n.toNat (by omega);rw[Int.toNat_of_nonneg (by omega)]at this;rw[this];rfl
theorem ZoO(p:Zaj)(h:p.fAddr.ok):Zhu p=some (Ziw p):=by
 simp only[Zhu,ZGp _ h,Option.bind_some];unfold Ziw;split
 .rename_i b;simp only[cond_true,b.1,b.2.1,b.2.2,decide_true,Bool.true_and,Option.some.injEq];rw[decide_eq_decide];obtain⟨x,n⟩:=p;simp
 .rename_i b;simp only[cond_false,Option.some.injEq];rw[eq_comm,Bool.eq_false_iff];intro d;simp only[Bool.and_eq_true,decide_eq_true_eq]at d;exact b ⟨d.1.1.1,d.1.1.2,d.1.2⟩
def bs(p:Zaj):List Bool:=(List.range p.fBits.toNat).map (bitN p.fAddr)
theorem ZJz(p:Zaj):(bs p).length=p.fBits.toNat:=by simp[bs]
theorem ZJA(p:Zaj)(i:Nat)(h:i<p.fBits.toNat):(bs p)[i]?=some (bitN p.fAddr i):=by simp[bs,h]
theorem ZFE{p:Zaj}(h:RN p)(i:Nat)(d:i<wid p.fAddr)(e:p.fBits.toNat<=i):bitN p.fAddr i=false:=by
 have b:=Zmr h.fits p.fBits.toNat i (by have:=h.le;omega) d;rw[h.cut]at b;rw[b];rw[show decide (i<p.fBits.toNat)=false by rw[decide_eq_false_iff_not];omega];rfl
theorem ZKR{p q:Zaj}(b:RN p)(d:RN q)(e:p.fAddr.fV6=q.fAddr.fV6)(hb:bs p=bs q):p=q:=by
 have r:wid p.fAddr=wid q.fAddr:=by unfold wid;rw[e]
 have f:p.fBits=q.fBits:=by
  have:=congrArg List.length hb;rw[ZJz,ZJz]at this;have:=b.nn;have:=d.nn;omega
 have g:p.fAddr=q.fAddr:=by
  refine ZuQ b.fits d.fits e fun i o=>?_;by_cases h:i<p.fBits.toNat
  .have j:=ZJA p i h;rw[hb,ZJA q i (by omega)]at j;exact(Option.some.inj j).symm
  .rw[ZFE b i o (by omega),ZFE d i (by omega) (by omega)]
 obtain⟨x,n⟩:=p;obtain⟨y,m⟩:=q;simp only at f g;rw[f,g]
theorem ZJO{a:Zaf}(h:a.ok)(e:Zdc a=true)(n:Nat)(f:n<=wid a):RN ⟨Zkq a n,(n:Int)⟩/\bs ⟨Zkq a n,(n:Int)⟩=(List.range n).map (bitN a):=by
 have d:=ZqK h e;have g:wid (Zkq a n)=wid a:=by unfold wid;rw[Zkp]
 refine⟨⟨(Zll d n).ok,ZEu d e n,by simp only;omega,by simp only;omega,?_⟩,?_⟩
 .simp only[Int.toNat_natCast];refine ZuQ (Zll (Zll d n) n) (Zll d n) (Zkp _ _) fun i b=>?_;have b:i<wid a:=by unfold wid at b ⊢;rwa [Zkp,Zkp]at b
  rw[Zmr (Zll d n) n i (by omega) (by omega),Zmr d n i f b];cases decide (i<n)<;>simp
 .unfold bs;simp only[Int.toNat_natCast];apply List.map_congr_left;intro i b;have b:i<n:=by simpa using b
  rw[Zmr d n i f (by omega),show decide (i<n)=true by rw[decide_eq_true_eq];exact b];rfl
theorem ZKZ(p:Zaj)(a:Zaf)(b:RN p)(g:a.ok):ZoI p a=some (Zdc a&&decide (p.fAddr.fV6=a.fV6)&&decide (∀i,i<p.fBits.toNat->bitN a i=bitN p.fAddr i)):=by
 have hrc:=(Zxb b.ok).2 b;simp only[ZoI,ZoO p b.ok,hrc,Zki a g,Option.bind_some,cond_true];cases n:Zdc a
 .rfl
 .simp only[cond_true,Bool.true_and];by_cases d:p.fAddr.fV6=a.fV6
  .have t:wid p.fAddr=wid a:=by unfold wid;rw[d]
   have o:=ZGn g n p.fBits.toNat (by have:=b.le;omega);rw[Int.toNat_of_nonneg b.nn]at o;have j:=ZqK g n;rw[show (p.fAddr.fV6==a.fV6)=true by simp[d],cond_true,o,decide_eq_true d];simp only[Option.bind_some,Bool.true_and,Option.some.injEq];rw[decide_eq_decide];have hle:p.fBits.toNat<=wid a:=by have:=b.le;omega
   constructor
   .intro e i f;have r:=Zmr j p.fBits.toNat i hle (by omega);rw[e,decide_eq_true f]at r;simpa using r.symm
   .intro h;refine ZuQ (Zll j _) b.fits (by rw[Zkp];exact d.symm) fun i f=>?_;have f:i<wid a:=by unfold wid at f ⊢;rwa [Zkp]at f
    rw[Zmr j p.fBits.toNat i hle f];by_cases hb:i<p.fBits.toNat
    .rw[decide_eq_true hb,h i hb];rfl
    .rw[decide_eq_false hb,ZFE b i (by omega) (by omega)];rfl
  .rw[show (p.fAddr.fV6==a.fV6)=false by simp[d],cond_false,decide_eq_false d];rfl
theorem ZtP(n k:Nat)(g:k<64)(b:n<2 ^ 64):IntKind.i64.wrap (IntKind.u64.wrap (((BitVec.ofInt (IntKind.bits .u64) (Int.fdiv (n:Int) (2 ^ (min ((k:Nat):Int).toNat (IntKind.bits .u64))))) &&& (BitVec.ofInt (IntKind.bits .u64) (1:Int))).toNat:Int))=if n.testBit k then 1 else 0:=by
 rw[Int.toNat_natCast,show min k (IntKind.bits .u64)=k from Nat.min_eq_left (by simp[IntKind.bits];omega)];have e:Int.fdiv (n:Int) (2 ^ k)=((n / 2 ^ k:Nat):Int):=by
  rw[Int.fdiv_eq_ediv_of_nonneg _ (by have:(0:Int)<2 ^ k:=Int.pow_pos (by omega);omega)];simp
 have d:n / 2 ^ k<2 ^ 64:=Nat.lt_of_le_of_lt (Nat.div_le_self _ _) b;rw[e,show (1:Int)=((1:Nat):Int)from rfl,Zri _ 1 d (by omega),Nat.and_one_is_mod,Nat.testBit_eq_decide_div_mod_eq];have h:n / 2 ^ k % 2<2:=Nat.mod_lt _ (by omega);have f:IntKind.i64.wrap ((n / 2 ^ k % 2:Nat):Int)=((n / 2 ^ k % 2:Nat):Int):=by
  simp only[IntKind.wrap,IntKind.bits,IntKind.signed];simp;omega
 rw[f];simp only[decide_eq_true_eq];split<;>omega
theorem ZHQ{a:Zaf}(h:Fits a)(i:Nat)(b:i<wid a):ZhY a (i:Int)=some (if bitN a i then 1 else 0):=by
 have g:=h.hi0;have j:=h.hi1;have n:=h.lo0;have o:=h.lo1;obtain⟨v,ce,lo⟩:=a;obtain⟨p,d⟩:=ZjH h.hi0;obtain⟨q,f⟩:=ZjH h.lo0;simp only at d f g j n o;subst d f;cases v with
 |false=>
  have b:i<32:=b;have r:=h.v4 rfl;simp only at r;have e:ZaJ (ZaJ (32:Int) 1) (i:Int)=((31-i:Nat):Int):=by rw[show ZaJ (32:Int) 1=31 from rfl,ZcI (by omega) (by omega)];omega
  simp only[ZhY,Zeq,cond_false,Option.bind_some,Zah,e];rw[if_neg (by omega),if_neg (by omega),if_neg (by omega),Zaq (by omega),ZtP q _ (by omega) (by omega)];rfl
 |true=>
  have b:i<128:=b;have e:ZaJ (ZaJ (128:Int) 1) (i:Int)=((127-i:Nat):Int):=by rw[show ZaJ (128:Int) 1=127 from rfl,ZcI (by omega) (by omega)];omega
  simp only[ZhY,Zeq,cond_true,Option.bind_some,Zah,e];rw[if_neg (by omega),if_neg (by omega)];have hb:bitN ⟨true,(p:Int),(q:Int)⟩ i=if 127-i<64 then q.testBit (127-i)else p.testBit (127-i-64):=by
   unfold bitN num wid;simp only[if_true,Int.toNat_natCast];rw[ZoT (by omega)]
  rw[hb];by_cases h64:i<64
  .have t:ZaJ ((127-i:Nat):Int) 64=((127-i-64:Nat):Int):=by rw[ZcI (by omega) (by omega)];omega
   rw[if_pos (by omega),t,Zaq (by omega),ZtP p _ (by omega) (by omega),if_neg (show ¬127-i<64 by omega)]
  .rw[if_neg (by omega),Zaq (by omega),ZtP q _ (by omega) (by omega),if_pos (show 127-i<64 by omega)]
theorem ZxP{p:Zaj}(h:RN p)(i:Nat)(b:i<wid p.fAddr):ZiF p (i:Int)=some (if bitN p.fAddr i then 1 else 0):=by
 simp only[ZiF,ZHQ h.fits i b,Option.bind_some]
def Len(z r:Nat):Prop:=z<2 ^ r/\(0<r->2 ^ (r-1)<=z)
theorem Zvw{z r:Nat}(k:Nat)(f:2 ^ k<=z)(h:Len (z / 2 ^ k) r):Len z (r+k)/\0<r:=by
 have b:0<2 ^ k:=Nat.pow_pos (by omega);have g:1<=z / 2 ^ k:=(Nat.le_div_iff_mul_le b).2 (by omega);have d:0<r:=by
  rcases Nat.eq_zero_or_pos r with e|e
  .subst e;have:=h.1;simp at this;omega
  .exact e
 refine⟨⟨?_,fun _=>?_⟩,d⟩
 .rw[Nat.pow_add];exact(Nat.div_lt_iff_lt_mul b).1 h.1
 .have:=(Nat.le_div_iff_mul_le b).1 (h.2 d);rw[<-Nat.pow_add]at this;rwa [show r+k-1=r-1+k by omega]
set_option maxRecDepth 100000 in
theorem ZKW:∃T:ByteArray,T.size=256/\(∀i:Fin 256,i.val<2 ^ Zlf T i.val/\(0<Zlf T i.val->2 ^ (Zlf T i.val-1)<=i.val)/\Zlf T i.val<=8)/\∀v0 v2:Int,ZeQ v0 v2 =
  bif(decide (v0>=(256:Int)))then
   need (0<=(IntKind.wrap .u8 (Int.fdiv v0 (2 ^ (min (8:Int).toNat (IntKind.bits .u64)))))/\(IntKind.wrap .u8 (Int.fdiv v0 (2 ^ (min (8:Int).toNat (IntKind.bits .u64)))))<((T.size:Nat):Int)) <|
   some (Zan (Zan v2 (8:Int)) (IntKind.wrap .i64 ((Zlf T (IntKind.wrap .u8 (Int.fdiv v0 (2 ^ (min (8:Int).toNat (IntKind.bits .u64))))).toNat:Nat):Int)))
  else
   need (0<=(IntKind.wrap .u8 v0)/\(IntKind.wrap .u8 v0)<((T.size:Nat):Int)) <|
   some (Zan v2 (IntKind.wrap .i64 ((Zlf T (IntKind.wrap .u8 v0).toNat:Nat):Int))):=by
 refine⟨_,?_,?_,fun v0 v2=>rfl⟩
 .rfl
 .decide +kernel
theorem ZFh{a:Int}(h:0<=a)(h':a<256):IntKind.u8.wrap a=a:=by
 simp only[IntKind.wrap,IntKind.bits,IntKind.signed];simp;omega
theorem ZyW{a:Int}(h:0<=a)(h':a<256):IntKind.i64.wrap a=a:=by
 simp only[IntKind.wrap,IntKind.bits,IntKind.signed];simp;omega
theorem ZKY(z v:Nat)(o:z<65536)(p:v<=1000):∃r,Len z r/\r<=16/\ZeQ (z:Int) (v:Int)=some ((v+r:Nat):Int):=by
 obtain⟨T,i,g,j⟩:=ZKW;rw[j,Zah,i];by_cases h:256<=z
 .rw[if_pos (by omega)];have e:Int.fdiv (z:Int) (2 ^ (min (8:Int).toNat (IntKind.bits .u64)))=((z / 256:Nat):Int):=by
   rw[show (2:Int) ^ (min (8:Int).toNat (IntKind.bits .u64))=256 from rfl,Int.fdiv_eq_ediv_of_nonneg _ (by omega)];rfl
  obtain⟨b,d,f⟩:=g ⟨z / 256,by omega⟩;simp only at b d f;rw[e,ZFh (by omega) (by omega),Zaq (by omega),Int.toNat_natCast,ZyW (by omega) (by omega)];obtain⟨n,t⟩:=Zvw (z:=z) (r:=Zlf T (z / 256)) 8 (by omega) ⟨by rw[show (2:Nat) ^ 8=256 from rfl];exact b,by rw[show (2:Nat) ^ 8=256 from rfl];exact d⟩;refine⟨_,n,by omega,?_⟩;rw[Zcd (a:=(v:Int)) (by omega) (by omega),Zcd (by omega) (by omega)];congr 1;omega
 .rw[if_neg (by omega)];obtain⟨b,d,f⟩:=g ⟨z,by omega⟩;simp only at b d f;rw[ZFh (by omega) (by omega),Zaq (by omega),Int.toNat_natCast,ZyW (by omega) (by omega)];refine⟨_,⟨b,d⟩,by omega,?_⟩;rw[Zcd (by omega) (by omega)];congr 1
theorem ZKX(z v:Nat)(i:z<4294967296)(j:v<=900):∃r,Len z r/\r<=32/\ZeR (z:Int) (v:Int)=some ((v+r:Nat):Int):=by
 simp only[ZeR,Zah];by_cases h:65536<=z
 .rw[if_pos (by omega)];have e:Int.fdiv (z:Int) (2 ^ (min (16:Int).toNat (IntKind.bits .u64)))=((z / 65536:Nat):Int):=by
   rw[show (2:Int) ^ (min (16:Int).toNat (IntKind.bits .u64))=65536 from rfl,Int.fdiv_eq_ediv_of_nonneg _ (by omega)];rfl
  rw[e,show Zan (v:Int) 16=((v+16:Nat):Int)by rw[Zcd (by omega) (by omega)];omega];obtain⟨r,b,f,d⟩:=ZKY (z / 65536) (v+16) (by omega) (by omega);obtain⟨g,_⟩:=Zvw (z:=z) 16 (by omega) (by rw[show (2:Nat) ^ 16=65536 from rfl];exact b);exact⟨r+16,g,by omega,by rw[d];congr 2;omega⟩
 .rw[if_neg (by omega)];obtain⟨r,b,f,d⟩:=ZKY z v (by omega) (by omega);exact⟨r,b,by omega,d⟩
theorem len64(z:Nat)(i:z<2 ^ 64):∃r,Len z r/\r<=64/\ZhO (z:Int)=some ((r:Nat):Int):=by
 simp only[ZhO,Zah];by_cases h:4294967296<=z
 .rw[if_pos (by omega)];have e:Int.fdiv (z:Int) (2 ^ (min (32:Int).toNat (IntKind.bits .u64)))=((z / 4294967296:Nat):Int):=by
   rw[show (2:Int) ^ (min (32:Int).toNat (IntKind.bits .u64))=4294967296 from rfl,Int.fdiv_eq_ediv_of_nonneg _ (by omega)];rfl
  rw[e];obtain⟨r,b,f,d⟩:=ZKX (z / 4294967296) 32 (by omega) (by omega);obtain⟨g,_⟩:=Zvw (z:=z) 32 (by omega) (by rw[show (2:Nat) ^ 32=4294967296 from rfl];exact b);exact⟨r+32,g,by omega,by rw[show (32:Int)=((32:Nat):Int)from rfl,d];congr 2;omega⟩
 .rw[if_neg (by omega)];obtain⟨r,b,f,d⟩:=ZKX z 0 (by omega) (by omega);exact⟨r,b,by omega,by rw[show (0:Int)=((0:Nat):Int)from rfl,d];congr 2;omega⟩
theorem ZFg(a b:Nat)(d:a<2 ^ 64)(hb:b<2 ^ 64):IntKind.u64.wrap (((BitVec.ofInt (IntKind.bits .u64) (a:Int)) ^^^ (BitVec.ofInt (IntKind.bits .u64) (b:Int))).toNat:Int)=((a ^^^ b:Nat):Int):=by
 have e:∀c:Nat,c<2 ^ 64->(BitVec.ofInt 64 (c:Int)).toNat=c:=fun c f=>by
  rw[BitVec.ofInt_natCast,BitVec.toNat_ofNat];exact Nat.mod_eq_of_lt f
 have g:((BitVec.ofInt (IntKind.bits .u64) (a:Int)) ^^^ (BitVec.ofInt (IntKind.bits .u64) (b:Int))).toNat=a ^^^ b:=by
  show (BitVec.ofInt 64 (a:Int) ^^^ BitVec.ofInt 64 (b:Int)).toNat=a ^^^ b;rw[BitVec.toNat_xor,e a d,e b hb]
 rw[g];have:a ^^^ b<2 ^ 64:=Nat.xor_lt_two_pow d hb;exact ZhF (by omega) (by omega)
theorem lead(a b:Nat)(i:a<2 ^ 64)(hb:b<2 ^ 64):∃k,k<=64/\ZcX ((a ^^^ b:Nat):Int)=some ((k:Nat):Int)/\(∀j,64-k<=j->a.testBit j=b.testBit j)/\(k<64->a.testBit (63-k)≠b.testBit (63-k))/\(k=64↔a ^^^ b=0):=by
 have hx:a ^^^ b<2 ^ 64:=Nat.xor_lt_two_pow i hb;obtain⟨r,d,p,n⟩:=len64 (a ^^^ b) hx;refine⟨64-r,by omega,?_,fun j t=>?_,fun u=>?_,?_⟩
 .simp only[ZcX,n,Option.bind_some];rw[ZcI (by omega) (by omega)];congr 1;omega
 .have f:(a ^^^ b).testBit j=false:=Nat.testBit_lt_two_pow (Nat.lt_of_lt_of_le d.1 (Nat.pow_le_pow_right (by omega) (by omega)));rw[Nat.testBit_xor]at f
  revert f
  cases a.testBit j<;>cases b.testBit j<;>simp
 .have f:(a ^^^ b).testBit (r-1)=true:=by
   have v:=d.2 (by omega);have y:a ^^^ b<2 ^ (r-1) * 2:=by rw[<-Nat.pow_succ,show (r-1).succ=r by omega];exact d.1
   rw[Nat.testBit_eq_decide_div_mod_eq,decide_eq_true_eq];have o:(a ^^^ b) / 2 ^ (r-1)=1:=by
    have g:0<2 ^ (r-1):=Nat.pow_pos (by omega);have:=(Nat.le_div_iff_mul_le g).2 (show 1 * 2 ^ (r-1)<=a ^^^ b by omega);have:=(Nat.div_lt_iff_lt_mul g).2 (show a ^^^ b<2 * 2 ^ (r-1)by omega);omega
   rw[o]
  rw[show 63-(64-r)=r-1 by omega];rw[Nat.testBit_xor]at f
  revert f
  cases a.testBit (r-1)<;>cases b.testBit (r-1)<;>simp
 .constructor
  .intro e;have:r=0:=by omega
   subst this;have:=d.1;simpa using this
  .intro e;rw[e]at d;rcases Nat.eq_zero_or_pos r with h|h
   .omega
   .have:=d.2 h;have:0<2 ^ (r-1):=Nat.pow_pos (by omega);omega
theorem ZHs{p q:Zaj}(g:RN p)(o:RN q)(u:p.fAddr.fV6=q.fAddr.fV6) :
  ∃k:Nat,Zks p q=some (k:Int)/\k<=p.fBits.toNat/\k<=q.fBits.toNat/\(∀i,i<k->bitN p.fAddr i=bitN q.fAddr i)/\(k<p.fBits.toNat->k<q.fBits.toNat->bitN p.fAddr k≠bitN q.fAddr k):=by
 have fp:=g.fits;have fq:=o.fits;have z:=fp.hi0;have D:=fp.hi1;have A:=fp.lo0;have E:=fp.lo1;have b1:=fq.hi0;have b2:=fq.hi1;have b3:=fq.lo0;have b4:=fq.lo1;have n1:=g.nn;have n2:=o.nn;have l1:=g.le;have l2:=o.le;have lr:=fp.v4;have ls:=fq.v4;clear g o fp fq;obtain⟨⟨v,F,lo⟩,n⟩:=p;obtain⟨⟨v',ce,j7⟩,n'⟩:=q;simp only at u z D A E b1 b2 b3 b4 n1 n2 lr ls;subst u;obtain⟨x,rfl⟩:=ZjH z;obtain⟨y,rfl⟩:=ZjH A;obtain⟨x',rfl⟩:=ZjH b1;obtain⟨y',rfl⟩:=ZjH b3;obtain⟨n,rfl⟩:=ZjH n1;obtain⟨n',rfl⟩:=ZjH n2;have cR:(if(n':Int)<(n:Int)then(n':Int)else(n:Int))=((min n n':Nat):Int):=by split<;>omega
 have lu:∀k:Nat,(if((min n n':Nat):Int)<(k:Int)then((min n n':Nat):Int)else(k:Int))=((min k (min n n'):Nat):Int):=fun k=>by split<;>omega
 obtain⟨f,J,G,B,H,C⟩:=lead x x' (by omega) (by omega);obtain⟨b,d1,d2,d3,d4,d5⟩:=lead y y' (by omega) (by omega);simp only[Zks,ZFg x x' (by omega) (by omega),ZFg y y' (by omega) (by omega),G,d2,Option.bind_some,cR]
 -- what is to be shown of a number
 have fin:∀k:Nat,(∀i,i<k->i<wid ⟨v,x,y⟩->bitN ⟨v,x,y⟩ i=bitN ⟨v,x',y'⟩ i)->(k<wid ⟨v,x,y⟩->bitN ⟨v,x,y⟩ k≠bitN ⟨v,x',y'⟩ k) ->
   (min k (min n n'))<=n/\(min k (min n n'))<=n'/\(∀i,i<min k (min n n')->bitN ⟨v,x,y⟩ i=bitN ⟨v,x',y'⟩ i)/\((min k (min n n'))<n->(min k (min n n'))<n'->bitN ⟨v,x,y⟩ (min k (min n n'))≠bitN ⟨v,x',y'⟩ (min k (min n n'))):=by
  intro k r d;simp only at l1 l2;refine⟨by omega,by omega,fun i F=>r i (by omega) (by omega),fun L M=>?_⟩;have e:min k (min n n')=k:=by omega
  rw[e];exact d (by omega)
 cases v with
 |false=>
  have O:=(lr rfl).1;have R:=(ls rfl).1;have U:=(lr rfl).2;have V:=(ls rfl).2;have iv:x ^^^ x'=0:=by rw[show x=x' by omega,Nat.xor_self]
  have hk2:32<=b:=by
   rcases Nat.lt_or_ge b 32 with h|h
   .exfalso;apply d4 (by omega);rw[Nat.testBit_lt_two_pow (Nat.lt_of_lt_of_le (show y<2 ^ 32 by omega) (Nat.pow_le_pow_right (by omega) (by omega))),Nat.testBit_lt_two_pow (Nat.lt_of_lt_of_le (show y'<2 ^ 32 by omega) (Nat.pow_le_pow_right (by omega) (by omega)))]
   .exact h
  rw[iv,show (((0:Nat):Int)==0)=true from rfl,cond_true];have t:ZaJ (Zan 64 (b:Int)) (ZaJ 128 32)=((b-32:Nat):Int):=by
   rw[Zcd (by omega) (by omega),show ZaJ (128:Int) 32=96 from rfl,ZcI (by omega) (by omega)];omega
  simp only[Zgc,Bool.not_false,cond_true,Zeq,cond_false,Option.bind_some,t,lu];refine⟨_,rfl,?_⟩;refine fin (b-32) (fun i r d=>?_) (fun h=>?_)
  .have d:i<32:=d;show (y.testBit (32-1-i))=(y'.testBit (32-1-i));exact d3 _ (by omega)
  .have h:b-32<32:=h;show (y.testBit (32-1-(b-32)))≠(y'.testBit (32-1-(b-32)));rw[show 32-1-(b-32)=63-b by omega];exact d4 (by omega)
 |true=>
  have hb:∀(x y:Nat),y<2 ^ 64->∀i,bitN ⟨true,(x:Int),(y:Int)⟩ i=if 127-i<64 then y.testBit (127-i)else x.testBit (127-i-64):=fun x y W i=>by
   unfold bitN num wid;simp only[if_true,Int.toNat_natCast];rw[ZoT (by omega)]
  by_cases hx:x ^^^ x'=0
  .rw[hx,show (((0:Nat):Int)==0)=true from rfl,cond_true];have hxx:x=x':=by
    apply Nat.eq_of_testBit_eq;intro j;exact B j (by have:=C.2 hx;omega)
   have t:Zan 64 (b:Int)=((64+b:Nat):Int):=by rw[Zcd (by omega) (by omega)];omega
   simp only[Zgc,Bool.not_true,cond_false,t,lu];refine⟨_,rfl,?_⟩;refine fin (64+b) (fun i r d=>?_) (fun h=>?_)
   .have d:i<128:=d;rw[hb x y (by omega),hb x' y' (by omega),hxx];split
    .exact d3 _ (by omega)
    .rfl
   .have h:64+b<128:=h;rw[hb x y (by omega),hb x' y' (by omega),if_pos (by omega),if_pos (by omega)];rw[show 127-(64+b)=63-b by omega];exact d4 (by omega)
  .have I:f<64:=by
    rcases Nat.lt_or_ge f 64 with h|h
    .exact h
    .exact absurd (C.1 (by omega)) hx
   have hne:(((x ^^^ x':Nat):Int)==0)=false:=by
    rw[beq_eq_false_iff_ne];intro e;exact hx (by omega)
   rw[hne,cond_false];simp only[Zgc,Bool.not_true,cond_false,lu];refine⟨_,rfl,?_⟩;refine fin f (fun i r d=>?_) (fun h=>?_)
   .rw[hb x y (by omega),hb x' y' (by omega),if_neg (by omega),if_neg (by omega)];exact B _ (by omega)
   .rw[hb x y (by omega),hb x' y' (by omega),if_neg (by omega),if_neg (by omega)];rw[show 127-f-64=63-f by omega];exact H I
def Bel'(n:Nat)(f:Nat->Bool)(p:Zaj):Prop:=n<=p.fBits.toNat/\∀i,i<n->bitN p.fAddr i=f i
def ext'(p:Zaj)(b:Bool):Nat->Bool:=fun i=>if i<p.fBits.toNat then bitN p.fAddr i else b
theorem Zka{p q:Zaj}{b:Bool}:Bel' (p.fBits.toNat+1) (ext' p b) q↔p.fBits.toNat<q.fBits.toNat/\(∀i,i<p.fBits.toNat->bitN q.fAddr i=bitN p.fAddr i)/\bitN q.fAddr p.fBits.toNat=b:=by
 unfold Bel' ext';constructor
 .rintro ⟨f,d⟩;refine⟨by omega,fun i e=>?_,?_⟩
  .have:=d i (by omega);rwa [if_pos e]at this
  .have:=d p.fBits.toNat (by omega);rwa [if_neg (by omega)]at this
 .rintro ⟨f,d,g⟩;refine⟨by omega,fun i e=>?_⟩;by_cases h:i<p.fBits.toNat
  .rw[if_pos h];exact d i h
  .rw[if_neg h,show i=p.fBits.toNat by omega];exact g
def ZoP(v:Bool):Zas->Nat->(Nat->Bool)->Prop | .nil,_,_=>True | .mk h has k0 k1,n,f=>RN h.fNet/\h.fNet.fAddr.fV6=v/\Bel' n f h.fNet/\ZoP v k0 (h.fNet.fBits.toNat+1) (ext' h.fNet false)/\ZoP v k1 (h.fNet.fBits.toNat+1) (ext' h.fNet true)
def ZbC:Zas->List Zat | .nil=>[] | .mk h has k0 k1=>(if has then[h]else[])++ZbC k0++ZbC k1
theorem ZbN{v:Bool}:∀{nd:Zas}{n:Nat}{f:Nat->Bool},ZoP v nd n f->∀x∈ZbC nd,RN x.fNet/\x.fNet.fAddr.fV6=v/\Bel' n f x.fNet
 | .nil,_,_,_,x,hx=>by simp[ZbC]at hx
 | .mk h has z A,n,f,o,x,hx=>by
  obtain⟨p,r,d,t,u⟩:=o
  have ic:∀b,Bel' (h.fNet.fBits.toNat+1) (ext' h.fNet b) x.fNet->Bel' n f x.fNet:=fun b hb=>by
   obtain⟨b1,b2,_⟩:=Zka.1 hb
   have:=d.1
   exact⟨by omega,fun i y=>by rw[b2 i (by omega)];exact d.2 i y⟩
  simp only[ZbC,List.mem_append]at hx
  rcases hx with (hx|hx)|hx
  .split at hx
   .rw[List.mem_singleton]at hx;rw[hx];exact⟨p,r,d⟩
   .simp at hx
  .obtain⟨e,g,j⟩:=ZbN t x hx
   exact⟨e,g,ic _ j⟩
  .obtain⟨e,g,j⟩:=ZbN u x hx
   exact⟨e,g,ic _ j⟩
theorem ZoP.rebase{v:Bool}{nd:Zas}{n m:Nat}{f g:Nat->Bool}(h:ZoP v nd n f)(hb:∀x has b d,nd=.mk x has b d->Bel' m g x.fNet):ZoP v nd m g:=by
 cases nd with
 |nil=>trivial
 |mk x has b d=>exact⟨h.1,h.2.1,hb x has b d rfl,h.2.2.2⟩
def Zml(l:List Zat)(n:Zaj):Int×Bool:=match l.find? (fun x=>decide (x.fNet=n))with
 |some x=>(x.fV,true)
 |none=>(0,false)
theorem ZlW{l:List Zat}{n:Zaj}(h:∀x∈l,x.fNet≠n):l.find? (fun x=>decide (x.fNet=n))=none:=by
 rw[List.find?_eq_none];intro x hx;simpa using h x hx
theorem ZDn{v:Bool}{n:Zaj}(i:RN n)(t:n.fAddr.fV6=v):∀fu (nd:Zas) (m:Nat) (f:Nat->Bool),ZoP v nd m f->n.fBits.toNat+1<fu+m ->
  Zdn fu nd n=some (Zml (ZbC nd) n)\/(n.fBits.toNat<m/\fu=0):=by
 intro fu;induction fu with
 |zero=>intro nd m f _ h;exact .inr ⟨by omega,rfl⟩
 |succ fu ih=>
  intro nd m f u B;refine .inl ?_;cases nd with
  |nil=>rfl
  |mk h has b d=>
   obtain⟨y,z,A,j,o⟩:=u;have C:wid h.fNet.fAddr=wid n.fAddr:=by unfold wid;rw[z,t]
   have b0:=fun x hx=>Zka.1 (ZbN j x hx).2.2;have b1:=fun x hx=>Zka.1 (ZbN o x hx).2.2;have hnn:=y.nn;have hnn':=i.nn;simp only[Zdn,Zah];by_cases hlt:h.fNet.fBits<n.fBits
   .rw[if_pos hlt];have p:=ZxP i h.fNet.fBits.toNat (by have:=i.le;omega);rw[Int.toNat_of_nonneg hnn]at p;rw[p];have r:∀x∈(if has then[h]else[]),x.fNet≠n:=fun x hx e=>by
     split at hx
     .rw[List.mem_singleton]at hx;subst hx;rw[e]at hlt;omega
     .simp at hx
    have gm:=A.1;cases hb:bitN n.fAddr h.fNet.fBits.toNat with
    |false=>
     simp only[Bool.false_eq_true,if_false,Option.bind_some];rw[Zaq (by omega)];have g:Zml (ZbC (.mk h has b d)) n=Zml (ZbC b) n:=by
      unfold Zml;simp only[ZbC];rw[List.find?_append,List.find?_append,ZlW r,ZlW (l:=ZbC d) fun x hx e=>by have:=(b1 x hx).2.2;rw[e,hb]at this;cases this];simp
     rw[g];rcases ih b _ _ j (by omega)with h|h
     .exact h
     .omega
    |true=>
     simp only[if_true,Option.bind_some];rw[Zaq (by omega)];have g:Zml (ZbC (.mk h has b d)) n=Zml (ZbC d) n:=by
      unfold Zml;simp only[ZbC];rw[List.find?_append,List.find?_append,ZlW r,ZlW (l:=ZbC b) fun x hx e=>by have:=(b0 x hx).2.2;rw[e,hb]at this;cases this];simp
     rw[g];rcases ih d _ _ o (by omega)with h|h
     .exact h
     .omega
   .rw[if_neg hlt];have g:Zml (ZbC (.mk h has b d)) n=Zml (if has then[h]else[]) n:=by
     unfold Zml;simp only[ZbC];rw[List.find?_append,List.find?_append,ZlW (l:=ZbC b) fun x hx e=>by have:=(b0 x hx).1;rw[e]at this;omega,ZlW (l:=ZbC d) fun x hx e=>by have:=(b1 x hx).1;rw[e]at this;omega];simp
    rw[g];cases has with
    |false=>rfl
    |true=>
     by_cases e:h.fNet=n
     .simp[Zml,e]
     .simp[Zml,e]
theorem ZyX{v:Bool}{hit:Zat}(b:RN hit.fNet)(n:hit.fNet.fAddr.fV6=v):∀fu (nd:Zas) (m:Nat) (f:Nat->Bool),ZoP v nd m f->Bel' m f hit.fNet->hit.fNet.fBits.toNat+1<fu+m ->
  ∃jD,Zfs fu nd hit=some jD/\ZoP v jD m f/\∀x,x∈ZbC jD↔x=hit\/(x∈ZbC nd/\x.fNet≠hit.fNet):=by
 intro fu;induction fu with
 |zero=>intro nd m f _ hb h;have:=hb.1;omega
 |succ fu ih=>
  intro nd m f I b7 U;cases nd with
  |nil=>exact⟨_,rfl,⟨b,n,b7,trivial,trivial⟩,fun x=>by simp[ZbC]⟩
  |mk h has d g=>
   have ja:=I;obtain⟨o,r,y,z,C⟩:=I;have hwd:wid h.fNet.fAddr=wid hit.fNet.fAddr:=by unfold wid;rw[r,n]
   have b0:=fun x hx=>Zka.1 (ZbN z x hx).2.2;have b1:=fun x hx=>Zka.1 (ZbN C x hx).2.2;have jE:∀x∈ZbC (.mk h has d g),h.fNet.fBits.toNat<=x.fNet.fBits.toNat/\∀i,i<h.fNet.fBits.toNat->bitN x.fNet.fAddr i=bitN h.fNet.fAddr i:=fun x hx=>by
    simp only[ZbC,List.mem_append]at hx;rcases hx with (hx|hx)|hx
    .split at hx
     .rw[List.mem_singleton]at hx;rw[hx];exact⟨Nat.le_refl _,fun _ _=>rfl⟩
     .simp at hx
    .obtain⟨x1,x2,_⟩:=b0 x hx;exact⟨by omega,x2⟩
    .obtain⟨x1,x2,_⟩:=b1 x hx;exact⟨by omega,x2⟩
   have n1:=o.nn;have n2:=b.nn;have l1:=o.le;have l2:=b.le;obtain⟨k,M,V,W,D,O⟩:=ZHs o b (r.trans n.symm);simp only[Zfs,M,Option.bind_some,Zah];by_cases G:k<h.fNet.fBits.toNat
   .rw[if_pos (by omega)];have hbit:=ZxP o k (by omega);by_cases ie:k=hit.fNet.fBits.toNat
    .-- the new one stands above
     have e:((k:Int)==hit.fNet.fBits)=true:=by rw[beq_iff_eq];omega
     have hne:∀x∈ZbC (.mk h has d g),x.fNet≠hit.fNet:=fun x hx e=>by have:=(jE x hx).1;rw[e]at this;omega
     have p:Bel' (hit.fNet.fBits.toNat+1) (ext' hit.fNet (bitN h.fNet.fAddr k)) h.fNet:=Zka.2 ⟨by omega,fun i j=>D i (by omega),by rw[<-ie]⟩;have E:ZoP v (.mk h has d g) (hit.fNet.fBits.toNat+1) (ext' hit.fNet (bitN h.fNet.fAddr k)):=ja.rebase fun x _ _ _ e=>by cases e;exact p
     simp only[Zkt,e,cond_true,hbit,Option.bind_some];cases hb:bitN h.fNet.fAddr k with
     |false=>
      rw[hb]at E;simp only[Bool.false_eq_true,if_false];rw[Zaq (by omega)];refine⟨_,rfl,⟨b,n,b7,E,trivial⟩,fun x=>?_⟩;have:ZbC (.mk hit true (.mk h has d g) .nil)=[hit]++ZbC (.mk h has d g):=by simp[ZbC]
      rw[this,List.mem_append,List.mem_singleton];exact or_congr Iff.rfl ⟨fun hx=>⟨hx,hne x hx⟩,fun hx=>hx.1⟩
     |true=>
      rw[hb]at E;simp only[if_true];rw[Zaq (by omega)];refine⟨_,rfl,⟨b,n,b7,trivial,E⟩,fun x=>?_⟩;have:ZbC (.mk hit true .nil (.mk h has d g))=[hit]++ZbC (.mk h has d g):=by simp[ZbC]
      rw[this,List.mem_append,List.mem_singleton];exact or_congr Iff.rfl ⟨fun hx=>⟨hx,hne x hx⟩,fun hx=>hx.1⟩
    .-- they part
     have hk2:k<hit.fNet.fBits.toNat:=by omega
     have e:((k:Int)==hit.fNet.fBits)=false:=by rw[beq_eq_false_iff_ne];omega
     have cK:=O G hk2;have hne:∀x∈ZbC (.mk h has d g),x.fNet≠hit.fNet:=fun x hx e=>cK (by rw[<-(jE x hx).2 k G,e]);obtain⟨J,Z⟩:=ZJO b.ok b.right k (by omega);have hmk:ZgR hit.fNet.fAddr (k:Int)=some (⟨Zkq hit.fNet.fAddr k,(k:Int)⟩,true):=by
      rw[ZGp _ b.ok,if_pos ⟨b.right,by omega,by omega⟩,Int.toNat_natCast]
     have ig:(⟨Zkq hit.fNet.fAddr k,(k:Int)⟩ : Zaj).fBits.toNat=k:=Int.toNat_natCast k;have bo:∀i,i<k->bitN (Zkq hit.fNet.fAddr k) i=bitN hit.fNet.fAddr i:=fun i j=>by
      rw[Zmr b.fits k i (by omega) (by omega),decide_eq_true j];rfl
     have R:m<=k:=by
      rcases Nat.lt_or_ge k m with hh|hh
      .exact absurd ((y.2 k hh).trans (b7.2 k hh).symm) cK
      .exact hh
     have L:Bel' m f ⟨Zkq hit.fNet.fAddr k,(k:Int)⟩:=⟨by rw[ig];exact R,fun i j=>by rw[bo i (by omega)];exact b7.2 i j⟩;have F:ZoP v (.mk h has d g) ((⟨Zkq hit.fNet.fAddr k,(k:Int)⟩ : Zaj).fBits.toNat+1) (ext' ⟨Zkq hit.fNet.fAddr k,(k:Int)⟩ (bitN h.fNet.fAddr k)):=ja.rebase fun x _ _ _ e=>by
      cases e;exact Zka.2 ⟨by rw[ig];exact G,fun i j=>by rw[ig]at j;rw[bo i j];exact D i j,by rw[ig]⟩
     have hL:ZoP v (.mk hit true .nil .nil) ((⟨Zkq hit.fNet.fAddr k,(k:Int)⟩ : Zaj).fBits.toNat+1) (ext' ⟨Zkq hit.fNet.fAddr k,(k:Int)⟩ (bitN hit.fNet.fAddr k)):=
      ⟨b,n,Zka.2 ⟨by rw[ig];exact hk2,fun i j=>by rw[ig]at j;rw[bo i j],by rw[ig]⟩,trivial,trivial⟩
     have bu:=ZxP b k (by omega);simp only[Zkt,e,cond_false,hmk,hbit,bu,Option.bind_some];cases hb:bitN h.fNet.fAddr k with
     |false=>
      have aF:bitN hit.fNet.fAddr k=true:=by
       cases H:bitN hit.fNet.fAddr k
       .rw[hb,H]at cK;exact absurd rfl cK
       .rfl
      rw[hb]at F;rw[aF]at hL;simp only[aF,Bool.false_eq_true,if_false,if_true];rw[Zaq (by omega)];have t:∀(A B:Option Zas),ix2 0 A B=A:=fun _ _=>rfl;have u:∀(A B:Option Zas),ix2 1 A B=B:=fun _ _=>rfl;rw[t,Zaq (by omega),u];refine⟨_,rfl,⟨J,by simp only[Zkp];exact n,L,F,hL⟩,fun x=>?_⟩;have:ZbC (.mk ⟨⟨Zkq hit.fNet.fAddr k,(k:Int)⟩,0⟩ false (.mk h has d g) (.mk hit true .nil .nil))=ZbC (.mk h has d g)++[hit]:=by simp[ZbC]
      rw[this,List.mem_append,List.mem_singleton,or_comm];exact or_congr Iff.rfl ⟨fun hx=>⟨hx,hne x hx⟩,fun hx=>hx.1⟩
     |true=>
      have aF:bitN hit.fNet.fAddr k=false:=by
       cases H:bitN hit.fNet.fAddr k
       .rfl
       .rw[hb,H]at cK;exact absurd rfl cK
      rw[hb]at F;rw[aF]at hL;simp only[aF,Bool.false_eq_true,if_false,if_true];rw[Zaq (by omega)];have t:∀(A B:Option Zas),ix2 0 A B=A:=fun _ _=>rfl;have u:∀(A B:Option Zas),ix2 1 A B=B:=fun _ _=>rfl;rw[u,Zaq (by omega),t];refine⟨_,rfl,⟨J,by simp only[Zkp];exact n,L,hL,F⟩,fun x=>?_⟩;have:ZbC (.mk ⟨⟨Zkq hit.fNet.fAddr k,(k:Int)⟩,0⟩ false (.mk hit true .nil .nil) (.mk h has d g))=[hit]++ZbC (.mk h has d g):=by simp[ZbC]
      rw[this,List.mem_append,List.mem_singleton];exact or_congr Iff.rfl ⟨fun hx=>⟨hx,hne x hx⟩,fun hx=>hx.1⟩
   .rw[if_neg (by omega)];have ie:k=h.fNet.fBits.toNat:=by omega
    by_cases hke:k=hit.fNet.fBits.toNat
    .-- it is there
     have e:((k:Int)==hit.fNet.fBits)=true:=by rw[beq_iff_eq];omega
     have lv:h.fNet=hit.fNet:=ZKR o b (r.trans n.symm) (by
      unfold bs;rw[<-ie,<-hke];apply List.map_congr_left;intro i j;exact D i (by simpa using j))
     rw[e,cond_true];refine⟨_,rfl,⟨b,n,b7,by rw[<-lv];exact z,by rw[<-lv];exact C⟩,fun x=>?_⟩;have n0:x∈ZbC d->x.fNet≠hit.fNet:=fun hx e=>by have:=(b0 x hx).1;rw[e]at this;omega
     have n1:x∈ZbC g->x.fNet≠hit.fNet:=fun hx e=>by have:=(b1 x hx).1;rw[e]at this;omega
     simp only[ZbC,List.mem_append,if_true,List.mem_singleton];constructor
     .rintro ((hx|hx)|hx)
      .exact .inl hx
      .exact .inr ⟨.inl (.inr hx),n0 hx⟩
      .exact .inr ⟨.inr hx,n1 hx⟩
     .rintro (hx|⟨(hx|hx)|hx,hne⟩)
      .exact .inl (.inl hx)
      .split at hx
       .rw[List.mem_singleton]at hx;rw[hx]at hne;exact absurd lv hne
       .simp at hx
      .exact .inl (.inr hx)
      .exact .inr hx
    .have e:((k:Int)==hit.fNet.fBits)=false:=by rw[beq_eq_false_iff_ne];omega
     have hbit:=ZxP b k (by omega);have p:Bel' (h.fNet.fBits.toNat+1) (ext' h.fNet (bitN hit.fNet.fAddr k)) hit.fNet:=Zka.2 ⟨by omega,fun i j=>(D i (by omega)).symm,by rw[<-ie]⟩;have nh:∀x∈(if has then[h]else[]),x.fNet≠hit.fNet:=fun x hx e=>by
      split at hx
      .rw[List.mem_singleton]at hx;rw[hx]at e;rw[e]at ie;omega
      .simp at hx
     have gm:=y.1;simp only[e,cond_false,hbit,Option.bind_some];cases hb:bitN hit.fNet.fAddr k with
     |false=>
      rw[hb]at p;simp only[Bool.false_eq_true,if_false];rw[Zaq (by omega)];obtain⟨jD,w1,w2,w3⟩:=ih d _ _ z p (by omega);have t:∀(A B:Option Zas),ix2 0 A B=A:=fun _ _=>rfl;rw[t,w1];refine⟨_,rfl,⟨o,r,y,w2,C⟩,fun x=>?_⟩;have n1:x∈ZbC g->x.fNet≠hit.fNet:=fun hx e=>by have:=(b1 x hx).2.2;rw[e,<-ie,hb]at this;cases this
      simp only[ZbC,List.mem_append,w3];constructor
      .rintro ((hx|hx|hx)|hx)
       .exact .inr ⟨.inl (.inl hx),nh x hx⟩
       .exact .inl hx
       .exact .inr ⟨.inl (.inr hx.1),hx.2⟩
       .exact .inr ⟨.inr hx,n1 hx⟩
      .rintro (hx|⟨(hx|hx)|hx,hne⟩)
       .exact .inl (.inr (.inl hx))
       .exact .inl (.inl hx)
       .exact .inl (.inr (.inr ⟨hx,hne⟩))
       .exact .inr hx
     |true=>
      rw[hb]at p;simp only[if_true];rw[Zaq (by omega)];obtain⟨jD,w1,w2,w3⟩:=ih g _ _ C p (by omega);have u:∀(A B:Option Zas),ix2 1 A B=B:=fun _ _=>rfl;rw[u,w1];refine⟨_,rfl,⟨o,r,y,z,w2⟩,fun x=>?_⟩;have n1:x∈ZbC d->x.fNet≠hit.fNet:=fun hx e=>by have:=(b0 x hx).2.2;rw[e,<-ie,hb]at this;cases this
      simp only[ZbC,List.mem_append,w3];constructor
      .rintro ((hx|hx)|hx|hx)
       .exact .inr ⟨.inl (.inl hx),nh x hx⟩
       .exact .inr ⟨.inl (.inr hx),n1 hx⟩
       .exact .inl hx
       .exact .inr ⟨.inr hx.1,hx.2⟩
      .rintro (hx|⟨(hx|hx)|hx,hne⟩)
       .exact .inr (.inl hx)
       .exact .inl (.inl hx)
       .exact .inl (.inr hx)
       .exact .inr (.inr ⟨hx,hne⟩)
def cov(a:Zaf)(x:Zat):Bool:=decide (∀i,i<x.fNet.fBits.toNat->bitN a i=bitN x.fNet.fAddr i)
theorem ZmT{α:Type}{p:α->Bool}{l:List α}(h:∀x∈l,p x=false):l.filter p=[]:=by
 rw[List.filter_eq_nil_iff];intro x hx;rw[h x hx];simp
theorem ZxF{v:Bool}{a:Zaf}(y:a.ok)(z:Zdc a=true)(t:a.fV6=v):∀fu (nd:Zas) (m:Nat) (f:Nat->Bool) (w:List Zat),ZoP v nd m f->(∀i,i<m->i<wid a->bitN a i=f i)->m<=wid a+1->wid a+1<fu+m->w.length<=m ->
  ZbD fu nd w a=some (w++(ZbC nd).filter (cov a)):=by
 have hwa:wid a<=128:=by unfold wid;split<;>omega
 intro fu;induction fu with
 |zero=>intro nd m f w _ _ _ h;omega
 |succ fu ih=>
  intro nd m f w E G hmw H hl;cases nd with
  |nil=>simp[ZbD,ZbC]
  |mk h has n o=>
   obtain⟨u,C,F,p,r⟩:=E;have hwd:wid h.fNet.fAddr=wid a:=by unfold wid;rw[C,t]
   have b0:=fun x hx=>Zka.1 (ZbN p x hx).2.2;have b1:=fun x hx=>Zka.1 (ZbN r x hx).2.2;have w0:=fun x hx=>(ZbN p x hx);have w1:=fun x hx=>(ZbN r x hx);have n1:=u.nn;have l1:=u.le;have gm:=F.1;simp only[ZbD,ZKZ _ a u y,z,decide_eq_true (C.trans t.symm),Bool.true_and,Option.bind_some,Zah];by_cases g:∀i,i<h.fNet.fBits.toNat->bitN a i=bitN h.fNet.fAddr i
   .rw[if_pos g];have lw:cov a h=true:=by unfold cov;rw[decide_eq_true_eq];exact g
    -- what lies below
    have jF:∀w':List Zat,w'.length<=h.fNet.fBits.toNat+1->((ZhY a h.fNet.fBits).bind fun x6=>need (0<=x6/\x6<((2:Nat):Int))<|ix2 x6 (ZbD fu n w' a) (ZbD fu o w' a))=some (w'++((ZbC n).filter (cov a)++(ZbC o).filter (cov a))):=by
     intro w' jG;by_cases hb:h.fNet.fBits.toNat<wid a
     .have D:=ZHQ (ZqK y z) h.fNet.fBits.toNat hb;rw[Int.toNat_of_nonneg n1]at D;rw[D];cases hbit:bitN a h.fNet.fBits.toNat with
      |false=>
       simp only[Bool.false_eq_true,if_false,Option.bind_some];rw[Zaq (by omega),show ∀(A B:Option (List Zat)),ix2 0 A B=A from fun _ _=>rfl];rw[ih n _ _ w' p (fun i j ce=>by
        unfold ext';by_cases d:i<h.fNet.fBits.toNat
        .rw[if_pos d];exact g i d
        .rw[if_neg d,show i=h.fNet.fBits.toNat by omega];exact hbit) (by omega) (by omega) jG]
       rw[ZmT (l:=ZbC o) fun x hx=>?_]
       .simp
       .unfold cov;rw[decide_eq_false_iff_not];intro e;obtain⟨x1,x2,x3⟩:=b1 x hx;have:=e _ x1;rw[hbit,x3]at this;cases this
      |true=>
       simp only[if_true,Option.bind_some];rw[Zaq (by omega),show ∀(A B:Option (List Zat)),ix2 1 A B=B from fun _ _=>rfl];rw[ih o _ _ w' r (fun i j ce=>by
        unfold ext';by_cases d:i<h.fNet.fBits.toNat
        .rw[if_pos d];exact g i d
        .rw[if_neg d,show i=h.fNet.fBits.toNat by omega];exact hbit) (by omega) (by omega) jG]
       rw[ZmT (l:=ZbC n) fun x hx=>?_]
       .simp
       .unfold cov;rw[decide_eq_false_iff_not];intro e;obtain⟨x1,x2,x3⟩:=b0 x hx;have:=e _ x1;rw[hbit,x3]at this;cases this
     .-- a whole address: nothing lies below
      have bg:∀(ic:Zas)(b:Bool),ZoP v ic (h.fNet.fBits.toNat+1) (ext' h.fNet b)->ic=.nil:=fun ic b dm=>by
       cases ic with
       |nil=>rfl
       |mk x I J L=>
        have M:=dm.2.2.1.1;have O:=dm.1.le;have d:wid x.fNet.fAddr=wid a:=by unfold wid;rw[dm.2.1,t]
        omega
      rw[bg n _ p,bg o _ r];have jH:ZhY a h.fNet.fBits=some 0:=by
       simp only[ZhY,ZHF,Option.bind_some,Zah];rw[if_neg (by omega),if_pos (by omega)]
      rw[jH];simp only[Option.bind_some];rw[Zaq (by omega),show ∀(A B:Option (List Zat)),ix2 0 A B=A from fun _ _=>rfl];have:=ih .nil (h.fNet.fBits.toNat+1) (ext' h.fNet false) w' trivial (fun i j ce=>by
        unfold ext';rw[if_pos (by omega)];exact g i (by omega)) (by omega) (by omega) jG
      rw[this];simp[ZbC]
    cases has with
    |true=>
     simp only[cond_true,ZbC,if_true];rw[Zaq ⟨by simp;omega,by unfold maxLen;simp;omega⟩,jF _ (by simp;omega)];simp[lw]
    |false=>
     simp only[cond_false,ZbC,Bool.false_eq_true,if_false];rw[jF _ (by omega)];simp
   .rw[if_neg g];rw[ZmT]
    .simp
    .intro x hx;unfold cov;rw[decide_eq_false_iff_not];intro e;apply g;intro i j;simp only[ZbC,List.mem_append]at hx;rcases hx with (hx|hx)|hx
     .split at hx
      .rw[List.mem_singleton]at hx;rw[hx]at e;exact e i j
      .simp at hx
     .obtain⟨x1,x2,_⟩:=b0 x hx;rw[e i (by omega)];exact x2 i j
     .obtain⟨x1,x2,_⟩:=b1 x hx;rw[e i (by omega)];exact x2 i j
theorem ZBj{a:Zaf}(h:Fits a)(i:Nat)(b:i<wid a):Zby a (i:Int)=some (if bitN a i then 1 else 0):=by
 have j:=h.hi0;have n:=h.hi1;have o:=h.lo0;have r:=h.lo1;obtain⟨v,ce,lo⟩:=a;obtain⟨p,d⟩:=ZjH h.hi0;obtain⟨q,f⟩:=ZjH h.lo0;simp only at d f j n o r;subst d f;have g:∀k:Nat,k<64->(IntKind.u64.wrap ((k:Nat):Int))=((k:Nat):Int):=fun k t=>ZhF (by omega) (by omega);cases v with
 |false=>
  have b:i<32:=b;have e:ZaJ (31:Int) (i:Int)=((31-i:Nat):Int):=by rw[ZcI (by omega) (by omega)];omega
  simp only[Zby,ZbK,ZcF,Zah,Option.bind_some,cond_false,Bool.not_false,cond_true,e,g (31-i) (by omega)];rw[if_neg (by omega),if_neg (by omega),Zaq (by omega),ZtP q _ (by omega) (by omega)];rfl
 |true=>
  have b:i<128:=b;have hb:bitN ⟨true,(p:Int),(q:Int)⟩ i=if 127-i<64 then q.testBit (127-i)else p.testBit (127-i-64):=by
   unfold bitN num wid;simp only[if_true,Int.toNat_natCast];rw[ZoT (by omega)]
  rw[hb];have et:Int.tmod (i:Int) 64=((i % 64:Nat):Int):=by rw[Int.tmod_eq_emod_of_nonneg (by omega)];rfl
  have u:i % 64<64:=Nat.mod_lt _ (by omega);have e:ZaJ (63:Int) ((i % 64:Nat):Int)=((63-i % 64:Nat):Int):=by rw[ZcI (by omega) (by omega)];omega
  simp only[Zby,ZbK,ZcF,Zah,Option.bind_some,cond_false,Bool.not_true,cond_true,et,e,g (63-i % 64) (by omega)];rw[if_neg (by omega),if_neg (by omega)];by_cases h64:i<64
  .rw[if_pos (by omega),Zaq (by omega),ZtP p _ (by omega) (by omega),if_neg (show ¬127-i<64 by omega),show 63-i % 64=127-i-64 by omega]
  .rw[if_neg (by omega),Zaq (by omega),ZtP q _ (by omega) (by omega),if_pos (show 127-i<64 by omega),show 63-i % 64=127-i by omega]
theorem Zuz(a:Zaf):ZbK a=some (wid a:Int):=by
 unfold ZbK wid;cases a.fV6<;>rfl
theorem ZtS(a:Zaf):wid a<=128:=by unfold wid;split<;>omega
theorem ZLn{i:Nat}(h:i<=1000000):Zan (i:Int) 1=((i+1:Nat):Int):=by rw[Zcd (by omega) (by omega)];omega
theorem ZFT{p:Zaj}(e:Fits p.fAddr):∀fu (i:Nat),i<=wid p.fAddr->wid p.fAddr-i<fu->∃r,Zdb fu (i:Int) p=some r/\(r=true↔∀j,i<=j->j<wid p.fAddr->bitN p.fAddr j=false):=by
 have t:=ZtS p.fAddr;intro fu;induction fu with
 |zero=>intro _ _ h;omega
 |succ fu ih=>
  intro i u hfu;simp only[Zdb,Zuz,Option.bind_some,Zah];by_cases h:i<wid p.fAddr
  .rw[if_pos (by omega),ZBj e i h,ZLn (by omega)];simp only[Option.bind_some];obtain⟨r,f,g⟩:=ih (i+1) (by omega) (by omega);cases hb:bitN p.fAddr i with
   |true=>
    simp only[if_true,beq_self_eq_true,cond_true];refine⟨false,rfl,?_⟩;simp only[Bool.false_eq_true,false_iff];intro n;have:=n i (Nat.le_refl _) h;rw[hb]at this;cases this
   |false=>
    simp only[Bool.false_eq_true,if_false];rw[show ((0:Int)==1)=false from rfl,cond_false];refine⟨r,f,g.trans ⟨fun q j d b=>?_,fun q j d b=>q j (by omega) b⟩⟩;by_cases o:j=i
    .subst o;exact hb
    .exact q j (by omega) b
  .rw[if_neg (by omega)];exact⟨true,rfl,by simp;intro j d b;omega⟩
theorem Ztn(p:Zaj)(h:p.fAddr.ok):ZdT p=some (Ziw p):=by
 simp only[ZdT,ZjG p.fAddr h,Zuz,Option.bind_some,Zah];unfold Ziw;cases g:Zdc p.fAddr
 .simp
 .have b:=ZqK h g;simp only[Bool.not_true,cond_false,Bool.true_and];by_cases h0:p.fBits<0
  .rw[if_pos h0,show decide (0<=p.fBits)=false by rw[decide_eq_false_iff_not];omega];simp
  .rw[if_neg h0];by_cases e:p.fBits>(wid p.fAddr:Int)
   .rw[if_pos e,show decide (p.fBits<=(wid p.fAddr:Int))=false by rw[decide_eq_false_iff_not];omega];simp
   .rw[if_neg e,show decide (0<=p.fBits)=true by rw[decide_eq_true_eq];omega,show decide (p.fBits<=(wid p.fAddr:Int))=true by rw[decide_eq_true_eq];omega];have t:=ZtS p.fAddr;obtain⟨r,f,n⟩:=ZFT b 1000000 p.fBits.toNat (by omega) (by omega);rw[Int.toNat_of_nonneg (by omega)]at f;rw[f,Option.some.injEq,Bool.true_and,Bool.true_and,Bool.eq_iff_iff,n,decide_eq_true_eq];constructor
    .intro q;refine ZuQ (Zll b _) b (Zkp _ _) fun i d=>?_;have d:i<wid p.fAddr:=by unfold wid at d ⊢;rwa [Zkp]at d
     rw[Zmr b p.fBits.toNat i (by omega) d];by_cases hb:i<p.fBits.toNat
     .rw[decide_eq_true hb];rfl
     .rw[decide_eq_false hb,q i (by omega) d];rfl
    .intro q j u o;have:=Zmr b p.fBits.toNat j (by omega) o;rw[q,decide_eq_false (by omega)]at this;exact this
def hasS(p:Zaj)(a:Zaf):Bool:=Ziw p&&(Zdc a&&decide (p.fAddr.fV6=a.fV6)&&decide (∀i,i<p.fBits.toNat->bitN a i=bitN p.fAddr i))
theorem Zzq{p:Zaj}{a:Zaf}(d:RN p)(f:Fits a)(g:p.fAddr.fV6=a.fV6):∀fu (i:Nat),i<=p.fBits.toNat->p.fBits.toNat-i<fu->∃r,ZcW fu (i:Int) p a=some r/\(r=true↔∀j,i<=j->j<p.fBits.toNat->bitN a j=bitN p.fAddr j):=by
 have v:=ZtS p.fAddr;have hwa:wid p.fAddr=wid a:=by unfold wid;rw[g]
 have n1:=d.nn;have l1:=d.le;intro fu;induction fu with
 |zero=>intro _ _ h;omega
 |succ fu ih=>
  intro i y hfu;simp only[ZcW,Zah];by_cases h:i<p.fBits.toNat
  .rw[if_pos (by omega),ZBj d.fits i (by omega),ZBj f i (by omega),ZLn (by omega)];simp only[Option.bind_some];obtain⟨r,n,o⟩:=ih (i+1) (by omega) (by omega);by_cases hb:bitN a i=bitN p.fAddr i
   .rw[hb];simp only[bne_self_eq_false,cond_false];refine⟨r,n,o.trans ⟨fun q j e b=>?_,fun q j e b=>q j (by omega) b⟩⟩;by_cases t:j=i
    .subst t;exact hb
    .exact q j (by omega) b
   .have hne:((if bitN p.fAddr i=true then(1:Int)else 0) != if bitN a i=true then 1 else 0)=true:=by
     revert hb
     cases bitN a i<;>cases bitN p.fAddr i<;>simp
    rw[hne,cond_true];refine⟨false,rfl,?_⟩;simp only[Bool.false_eq_true,false_iff];intro u;exact hb (u i (Nat.le_refl _) h)
  .rw[if_neg (by omega)];exact⟨true,rfl,by simp;intro j e b;omega⟩
theorem ZCL(p:Zaj)(a:Zaf)(f:p.fAddr.ok)(g:a.ok):ZfZ p a=some (hasS p a):=by
 simp only[ZfZ,Ztn p f,ZjG a g,Option.bind_some];unfold hasS;cases h:Ziw p
 .rfl
 .have dX:=(Zxb f).1 h;simp only[Bool.not_true,cond_false,Bool.true_and];cases i:Zdc a
  .rfl
  .simp only[Bool.not_true,cond_false,Bool.true_and];by_cases b:p.fAddr.fV6=a.fV6
   .rw[show (!(p.fAddr.fV6==a.fV6))=false by simp[b],cond_false,decide_eq_true b,Bool.true_and];have o:=ZtS p.fAddr;have n1:=dX.nn;have l1:=dX.le;obtain⟨r,d,n⟩:=Zzq dX (ZqK g i) b 1000000 0 (by omega) (by omega);have d:ZcW 1000000 0 p a=some r:=d;rw[d,Option.some.injEq,Bool.eq_iff_iff,n,decide_eq_true_eq];exact⟨fun q j e=>q j (by omega) e,fun q j _ e=>q j e⟩
   .rw[show (!(p.fAddr.fV6==a.fV6))=true by simp[b],cond_true,decide_eq_false b];rfl
def f0:Nat->Bool:=fun _=>false
def GT:ZaD->Prop | .nil=>False | .mk r4 r6 _=>ZoP false r4 0 f0/\ZoP true r6 0 f0
def ZiU:ZaD->List Zat | .nil=>[] | .mk r4 r6 _=>ZbC r4++ZbC r6
theorem bel0(p:Zaj):Bel' 0 f0 p:=⟨Nat.zero_le _,fun i b=>by omega⟩
theorem ZzH{t:ZaD}(h:GT t):∀x∈ZiU t,RN x.fNet:=by
 cases t with
 |nil=>exact h.elim
 |mk b d n=>
  intro x hx;simp only[ZiU,List.mem_append]at hx;rcases hx with hx|hx
  .exact(ZbN h.1 x hx).1
  .exact(ZbN h.2 x hx).1
theorem ZGM(a:Zaf):Zhg a=some (if a.fV6 then 1 else 0):=by
 unfold Zhg;cases a.fV6<;>rfl
theorem ZCw{t:ZaD}(h:GT t)(n:Zaj)(d:n.fAddr.ok):ZhL t n=some (if Ziw n then Zml (ZiU t) n else(0,false)):=by
 cases t with
 |nil=>exact h.elim
 |mk f g k=>
  simp only[ZhL,ZoO n d,Option.bind_some,ZGM];cases i:Ziw n
  .rfl
  .have dX:=(Zxb d).1 i;have hb:n.fBits.toNat<=128:=by have:=dX.le;have:=dX.nn;have:=ZtS n.fAddr;omega
   simp only[Bool.not_true,cond_false,if_true];cases b:n.fAddr.fV6 with
   |false=>
    simp only[Bool.false_eq_true,if_false];rw[Zaq (by omega),show ∀(A B:Option (Int×Bool)),ix2 0 A B=A from fun _ _=>rfl];rcases ZDn dX b 1000000 f 0 f0 h.1 (by omega)with e|e
    .rw[e];unfold Zml;simp only[ZiU];rw[List.find?_append,ZlW (l:=ZbC g) fun x hx e=>by have:=(ZbN h.2 x hx).2.1;rw[e,b]at this;cases this];simp
    .omega
   |true=>
    simp only[if_true];rw[Zaq (by omega),show ∀(A B:Option (Int×Bool)),ix2 1 A B=B from fun _ _=>rfl];rcases ZDn dX b 1000000 g 0 f0 h.2 (by omega)with e|e
    .rw[e];unfold Zml;simp only[ZiU];rw[List.find?_append,ZlW (l:=ZbC f) fun x hx e=>by have:=(ZbN h.1 x hx).2.1;rw[e,b]at this;cases this];simp
    .omega
theorem ZFn{t:ZaD}(h:GT t)(n:Zaj)(g:n.fAddr.ok)(val:Int)(i:Ziw n=true):∃t',Zfb t n val=some t'/\GT t'/\∀x,x∈ZiU t'↔x=⟨n,val⟩\/(x∈ZiU t/\x.fNet≠n):=by
 cases t with
 |nil=>exact h.elim
 |mk b d k=>
  have dX:=(Zxb g).1 i;have hb:n.fBits.toNat<=128:=by have:=dX.le;have:=dX.nn;have:=ZtS n.fAddr;omega
  have j:=ZCw h n g;simp only[Zfb,Zft,ZoO n g,i,j,if_true,Option.bind_some,Bool.not_true,cond_false,ZGM];have jI:n.fAddr.fV6=false->∃r,Zfs 1000 b ⟨n,val⟩=some r/\ZoP false r 0 f0/\∀x,(x∈ZbC r\/x∈ZbC d)↔x=⟨n,val⟩\/((x∈ZbC b\/x∈ZbC d)/\x.fNet≠n):=fun f=>by
   obtain⟨r,w1,w2,w3⟩:=ZyX (hit:=⟨n,val⟩) dX f 1000 b 0 f0 h.1 (bel0 _) (by simp only;omega);refine⟨r,w1,w2,fun x=>?_⟩;rw[w3 x];have o:x∈ZbC d->x.fNet≠n:=fun hx e=>by have:=(ZbN h.2 x hx).2.1;rw[e,f]at this;cases this
   constructor
   .rintro ((hx|hx)|hx)
    .exact .inl hx
    .exact .inr ⟨.inl hx.1,hx.2⟩
    .exact .inr ⟨.inr hx,o hx⟩
   .rintro (hx|⟨hx|hx,hne⟩)
    .exact .inl (.inl hx)
    .exact .inl (.inr ⟨hx,hne⟩)
    .exact .inr hx
  have jJ:n.fAddr.fV6=true->∃r,Zfs 1000 d ⟨n,val⟩=some r/\ZoP true r 0 f0/\∀x,(x∈ZbC b\/x∈ZbC r)↔x=⟨n,val⟩\/((x∈ZbC b\/x∈ZbC d)/\x.fNet≠n):=fun f=>by
   obtain⟨r,w1,w2,w3⟩:=ZyX (hit:=⟨n,val⟩) dX f 1000 d 0 f0 h.2 (bel0 _) (by simp only;omega);refine⟨r,w1,w2,fun x=>?_⟩;rw[w3 x];have p:x∈ZbC b->x.fNet≠n:=fun hx e=>by have:=(ZbN h.1 x hx).2.1;rw[e,f]at this;cases this
   constructor
   .rintro (hx|hx|hx)
    .exact .inr ⟨.inl hx,p hx⟩
    .exact .inl hx
    .exact .inr ⟨.inr hx.1,hx.2⟩
   .rintro (hx|⟨hx|hx,hne⟩)
    .exact .inr (.inl hx)
    .exact .inl hx
    .exact .inr (.inr ⟨hx,hne⟩)
  have u:∀(A B:Option ZaD),ix2 0 A B=A:=fun _ _=>rfl;have v:∀(A B:Option ZaD),ix2 1 A B=B:=fun _ _=>rfl;cases f:n.fAddr.fV6 with
  |false=>
   obtain⟨r,w1,w2,w3⟩:=jI f;cases(Zml (ZiU (.mk b d k)) n).2 <;>
   .simp only[Bool.not_false,Bool.not_true,cond_true,cond_false,Bool.false_eq_true,if_false];rw[Zaq (by omega),u,w1];exact⟨_,rfl,⟨w2,h.2⟩,fun x=>by simp only[ZiU,List.mem_append];exact w3 x⟩
  |true=>
   obtain⟨r,w1,w2,w3⟩:=jJ f;cases(Zml (ZiU (.mk b d k)) n).2 <;>
   .simp only[Bool.not_false,Bool.not_true,cond_true,cond_false,if_true];rw[Zaq (by omega),v,w1];exact⟨_,rfl,⟨h.1,w2⟩,fun x=>by simp only[ZiU,List.mem_append];exact w3 x⟩
theorem ZoY{v:Bool}:∀{nd:Zas}{n:Nat}{f:Nat->Bool},ZoP v nd n f->(ZbC nd).Pairwise fun x y=>x.fNet≠y.fNet
 | .nil,_,_,_=>List.Pairwise.nil
 | .mk h has r t,n,f,o=>by
  obtain⟨u,z,A,d,g⟩:=o
  have b0:=fun x hx=>Zka.1 (ZbN d x hx).2.2
  have b1:=fun x hx=>Zka.1 (ZbN g x hx).2.2
  have i:∀x∈(if has then[h]else[]),x.fNet=h.fNet:=fun x hx=>by
   split at hx
   .rw[List.mem_singleton]at hx;rw[hx]
   .simp at hx
  simp only[ZbC]
  rw[List.pairwise_append,List.pairwise_append]
  refine⟨⟨?_,ZoY d,fun x hx y b e=>?_⟩,ZoY g,fun x hx y b e=>?_⟩
  .split
   .exact List.pairwise_singleton _ _
   .exact List.Pairwise.nil
  .have:=(b0 y b).1
   rw[<-e,i x hx]at this;omega
  .rcases List.mem_append.1 hx with hx|hx
   .have:=(b1 y b).1
    rw[<-e,i x hx]at this;omega
   .have j:=(b0 x hx).2.2
    have p:=(b1 y b).2.2
    rw[e,p]at j;cases j
theorem ZzI{t:ZaD}(h:GT t):(ZiU t).Pairwise fun x y=>x.fNet≠y.fNet:=by
 cases t with
 |nil=>exact h.elim
 |mk g i k=>
  simp only[ZiU];rw[List.pairwise_append];refine⟨ZoY h.1,ZoY h.2,fun x hx y d e=>?_⟩;have b:=(ZbN h.1 x hx).2.1;have f:=(ZbN h.2 y d).2.1;rw[e,f]at b;cases b
theorem ZGx{l:List Zat}{n:Zaj}(h:(Zml l n).2=true):∃x∈l,x.fNet=n/\x.fV=(Zml l n).1:=by
 unfold Zml at h ⊢;cases b:l.find? (fun x=>decide (x.fNet=n))with
 |none=>rw[b]at h;cases h
 |some x=>
  have:=List.find?_some b;exact⟨x,List.mem_of_find?_eq_some b,by simpa using this,rfl⟩
theorem ZIJ{l:List Zat}{n:Zaj}(h:(Zml l n).2=false):∀x∈l,x.fNet≠n:=by
 unfold Zml at h;cases b:l.find? (fun x=>decide (x.fNet=n))with
 |none=>rw[List.find?_eq_none]at b;intro x hx;simpa using b x hx
 |some x=>rw[b]at h;cases h
theorem ZJb{l:List Zat}(h:l.Pairwise fun x y=>x.fNet≠y.fNet){x y:Zat}(hx:x∈l)(g:y∈l)(e:x.fNet=y.fNet):x=y:=by
 obtain⟨i,b,rfl⟩:=List.getElem_of_mem hx;obtain⟨j,d,rfl⟩:=List.getElem_of_mem g;have f:=List.pairwise_iff_getElem.1 h;rcases Nat.lt_trichotomy i j with h1|h1|h1
 .exact absurd e (f i j b d h1)
 .subst h1;rfl
 .exact absurd e.symm (f j i d b h1)
theorem Ztc{v:Bool}{a:Zaf}(b:a.fV6=v):∀{nd:Zas}{m:Nat}{f:Nat->Bool},ZoP v nd m f->m<=wid a+1->((ZbC nd).filter (cov a)).length+m<=wid a+1
 | .nil,m,f,_,h=>by simp[ZbC];exact h
 | .mk h has j n,m,f,o,t=>by
  obtain⟨e,p,r,g,i⟩:=o
  have b0:=fun x hx=>Zka.1 (ZbN g x hx).2.2
  have b1:=fun x hx=>Zka.1 (ZbN i x hx).2.2
  have u:wid h.fNet.fAddr=wid a:=by unfold wid;rw[p,b]
  have n1:=e.nn;have l1:=e.le;have gm:=r.1
  have i0:=Ztc b g (by omega)
  have i1:=Ztc b i (by omega)
  have y:((if has then[h]else[]).filter (cov a)).length<=1:=by
   split
   .exact List.length_filter_le _ _
   .simp
  have z:((ZbC j).filter (cov a)).length=0\/((ZbC n).filter (cov a)).length=0:=by
   cases hb:bitN a h.fNet.fBits.toNat with
   |false=>
    refine .inr ?_;rw[ZmT]
    .rfl
    .intro x hx;unfold cov;rw[decide_eq_false_iff_not];intro d;obtain⟨x1,x2,x3⟩:=b1 x hx;have:=d _ x1;rw[hb,x3]at this;cases this
   |true=>
    refine .inl ?_;rw[ZmT]
    .rfl
    .intro x hx;unfold cov;rw[decide_eq_false_iff_not];intro d;obtain⟨x1,x2,x3⟩:=b0 x hx;have:=d _ x1;rw[hb,x3]at this;cases this
  simp only[ZbC,List.filter_append,List.length_append];omega
theorem ZDP{t:ZaD}(h:GT t)(a:Zaf)(g:a.ok):∃L,Zgv t a=some L/\L.length<=maxLen/\∀x,x∈L↔x∈ZiU t/\hasS x.fNet a=true:=by
 cases t with
 |nil=>exact h.elim
 |mk j n k=>
  simp only[Zgv,Zki a g,Option.bind_some,ZGM];cases f:Zdc a
  .exact⟨[],rfl,by simp,fun x=>by simp[hasS,f]⟩
  .simp only[Bool.not_true,cond_false];have u:=ZtS a;have o:∀(A B:Option (List Zat)),ix2 0 A B=A:=fun _ _=>rfl;have p:∀(A B:Option (List Zat)),ix2 1 A B=B:=fun _ _=>rfl;have e:∀x:Zat,RN x.fNet->hasS x.fNet a=(decide (x.fNet.fAddr.fV6=a.fV6)&&cov a x):=fun x hx=>by
    unfold hasS cov;rw[(Zxb hx.ok).2 hx,f,Bool.true_and,Bool.true_and]
   cases d:a.fV6 with
   |false=>
    simp only[Bool.false_eq_true,if_false];rw[Zaq (by omega),o,ZxF g f d 1000000 j 0 f0 [] h.1 (fun i r=>by omega) (by omega) (by omega) (by simp)];refine⟨_,rfl,by have:=Ztc d h.1 (by omega);unfold maxLen;simp only[List.nil_append];omega,fun x=>?_⟩;simp only[List.nil_append,List.mem_filter,ZiU,List.mem_append];constructor
    .rintro ⟨hx,b⟩;have:=ZbN h.1 x hx;rw[e x this.1,this.2.1,d,b];exact⟨.inl hx,rfl⟩
    .rintro ⟨hx|hx,b⟩
     .have:=ZbN h.1 x hx;rw[e x this.1,Bool.and_eq_true]at b;exact⟨hx,b.2⟩
     .have:=ZbN h.2 x hx;rw[e x this.1,this.2.1,d]at b;simp at b
   |true=>
    simp only[if_true];rw[Zaq (by omega),p,ZxF g f d 1000000 n 0 f0 [] h.2 (fun i r=>by omega) (by omega) (by omega) (by simp)];refine⟨_,rfl,by have:=Ztc d h.2 (by omega);unfold maxLen;simp only[List.nil_append];omega,fun x=>?_⟩;simp only[List.nil_append,List.mem_filter,ZiU,List.mem_append];constructor
    .rintro ⟨hx,b⟩;have:=ZbN h.2 x hx;rw[e x this.1,this.2.1,d,b];exact⟨.inr hx,rfl⟩
    .rintro ⟨hx|hx,b⟩
     .have:=ZbN h.1 x hx;rw[e x this.1,this.2.1,d]at b;simp at b
     .have:=ZbN h.2 x hx;rw[e x this.1,Bool.and_eq_true]at b;exact⟨hx,b.2⟩
structure Idx (ag:Int) (t:ZaD) (l:List Zac):Prop where
 gt:GT t
 from_:∀x∈ZiU t,∃b∈l,ag<b.fUntil/\b.fNet=x.fNet/\b.fUntil=x.fV
 has:∀b∈l,ag<b.fUntil->Ziw b.fNet=true->∃x∈ZiU t,x.fNet=b.fNet/\b.fUntil<=x.fV
theorem Zyw{ag:Int}{t:ZaD}{l:List Zac}{b:Zac}(h:Idx ag t l)(hb:ag<b.fUntil->Ziw b.fNet=true->∃x∈ZiU t,x.fNet=b.fNet/\b.fUntil<=x.fV):Idx ag t (l++[b]):=
 ⟨h.gt,fun x hx=>by obtain⟨c,d,e⟩:=h.from_ x hx;exact⟨c,by simp[d],e⟩,fun c hc d e=>by
  rcases List.mem_append.1 hc with hc|hc
  .exact h.has c hc d e
  .rw[List.mem_singleton]at hc;subst hc;exact hb d e⟩
theorem Zyv{ag:Int}{t:ZaD}{l:List Zac}{b:Zac}(h:Idx ag t l)(hb:b.fNet.fAddr.ok)(hl:ag<b.fUntil)(bY:∀x∈ZiU t,x.fNet=b.fNet->x.fV<=b.fUntil):∃t',Zfb t b.fNet b.fUntil=some t'/\Idx ag t' (l++[b]):=by
 cases g:Ziw b.fNet with
 |true=>
  obtain⟨t',w1,w2,w3⟩:=ZFn h.gt b.fNet hb b.fUntil g;refine⟨t',w1,w2,fun x hx=>?_,fun c hc d f=>?_⟩
  .rcases(w3 x).1 hx with e|⟨hx,hne⟩
   .subst e;exact⟨b,by simp,hl,rfl,rfl⟩
   .obtain⟨c,d,f⟩:=h.from_ x hx;exact⟨c,by simp[d],f⟩
  .by_cases e:c.fNet=b.fNet
   .refine⟨⟨b.fNet,b.fUntil⟩,(w3 _).2 (.inl rfl),e.symm,?_⟩;rcases List.mem_append.1 hc with hc|hc
    .obtain⟨x,x1,x2,x3⟩:=h.has c hc d f;have:=bY x x1 (x2.trans e);simp only;omega
    .rw[List.mem_singleton]at hc;subst hc;exact Int.le_refl _
   .rcases List.mem_append.1 hc with hc|hc
    .obtain⟨x,x1,x2,x3⟩:=h.has c hc d f;exact⟨x,(w3 x).2 (.inr ⟨x1,fun q=>e (x2.symm.trans q)⟩),x2,x3⟩
    .rw[List.mem_singleton]at hc;subst hc;exact absurd rfl e
 |false=>
  refine⟨t,?_,Zyw h fun _ q=>by rw[g]at q;cases q⟩;cases t with
  |nil=>exact h.gt.elim
  |mk i j k=>
   simp only[Zfb,Zft,ZoO b.fNet hb,g,Option.bind_some,Bool.not_false,cond_true]
theorem ZHH(b:Zac)(ag:Int):ZmR b ag=some (decide (ag<b.fUntil)):=rfl
theorem ZEz(l:List Zac)(ag:Int)(hl:l.length<=maxLen)(az:∀b∈l,b.ok):∀fu (i:Nat) (t:ZaD),i<=l.length->l.length-i<fu->Idx ag t (l.take i)->∃t',ZdF ag fu t l (l.length:Int) (i:Int)=some t'/\Idx ag t' l:=by
 intro fu;induction fu with
 |zero=>intro _ _ _ h;omega
 |succ fu ih=>
  intro i t j n h;simp only[ZdF,Zah];by_cases hlt:i<l.length
  .rw[if_pos (by omega),Zaq ⟨by omega,by omega⟩];simp only[Int.toNat_natCast];have cz:=az _ (ZeD l Zac.d i hlt);have c8:l.take (i+1)=l.take i++[l.getD i Zac.d]:=by rw[List.take_succ_eq_append_getElem hlt,ZbX l _ i hlt]
   generalize l.getD i Zac.d=b at cz c8 ⊢;rw[ZCw h.gt b.fNet cz.1.1,ZHH];simp only[Option.bind_some];rw[add1 hlt hl];have next:∀t',Idx ag t' (l.take i++[b])->∃t'',ZdF ag fu t' l (l.length:Int) ((i+1:Nat):Int)=some t''/\Idx ag t'' l:=fun t' ht'=>ih (i+1) t' (by omega) (by omega) (by rw[c8];exact ht')
   by_cases hlv:ag<b.fUntil
   .rw[decide_eq_true hlv,cond_true];cases g:Ziw b.fNet with
    |false=>
     simp only[Bool.false_eq_true,if_false,Bool.not_false,cond_true];obtain⟨t',s1,s2⟩:=Zyv h cz.1.1 hlv (fun x hx e=>by
      have:=(Zxb cz.1.1).2 (e ▸ ZzH h.gt x hx);rw[g]at this;cases this)
     rw[s1];exact next t' s2
    |true=>
     simp only[if_true];cases f:(Zml (ZiU t) b.fNet).2 with
     |false=>
      simp only[Bool.not_false,cond_true];obtain⟨t',s1,s2⟩:=Zyv h cz.1.1 hlv (fun x hx e=>absurd e (ZIJ f x hx));rw[s1];exact next t' s2
     |true=>
      simp only[Bool.not_true,cond_false];obtain⟨y,y1,y2,y3⟩:=ZGx f;by_cases hlt2:(Zml (ZiU t) b.fNet).1<b.fUntil
      .rw[if_pos hlt2];obtain⟨t',s1,s2⟩:=Zyv h cz.1.1 hlv (fun x hx e=>by
        have:=ZJb (ZzI h.gt) hx y1 (e.trans y2.symm);rw[this];omega)
       rw[s1];exact next t' s2
      .rw[if_neg hlt2];exact next t (Zyw h fun _ _=>⟨y,y1,y2,by omega⟩)
   .rw[decide_eq_false hlv,cond_false];exact next t (Zyw h fun q=>absurd q hlv)
  .rw[if_neg (by omega)];refine⟨t,rfl,?_⟩;rw[List.take_of_length_le (by omega)]at h;exact h
theorem ZII(l:List Zac)(ag:Int)(hl:l.length<=maxLen)(az:∀b∈l,b.ok):∃t,ZlV l ag=some t/\Idx ag t l:=by
 have:=ZEz l ag hl az ((((l.length:Nat):Int)-(0:Int)).toNat+2) 0 (.mk .nil .nil 0) (by omega) (by omega) ⟨⟨trivial,trivial⟩,fun x hx=>by simp[ZiU,ZbC]at hx,fun b hb=>by simp at hb⟩;simpa[ZlV,Zok]using this
def ZmZ(l:List Zac)(a:Zaf)(ag:Int)(b:Zac):Prop:=b∈l/\ag<b.fUntil/\hasS b.fNet a=true
def Zwy(l:List Zac)(a:Zaf)(ag r:Int):Prop:=(r=0/\∀b,¬ZmZ l a ag b)\/∃b,ZmZ l a ag b/\r=b.fUntil/\∀c,ZmZ l a ag c->c.fUntil<=r
theorem Zxr{l l':List Zac}{a:Zaf}{ag r s:Int}(h:Zwy l a ag r)(h':Zwy l' a ag s)(e:∀b,ZmZ l a ag b↔ZmZ l' a ag b):r=s:=by
 rcases h with⟨g,i⟩|⟨b,g,i,n⟩
 .rcases h' with⟨d,f⟩|⟨c,d,f,j⟩
  .omega
  .exact absurd ((e c).2 d) (i c)
 .rcases h' with⟨d,f⟩|⟨c,d,f,j⟩
  .exact absurd ((e b).1 g) (f b)
  .have:=n c ((e c).2 d);have:=j b ((e b).1 g);omega
theorem ZIC(L:List Zat)(hL:L.length<=maxLen):∀fu (i:Nat) (v:Int),i<=L.length->L.length-i<fu->∃r,ZgS fu v L (L.length:Int) (i:Int)=some r/\v<=r/\(∀x∈L.drop i,x.fV<=r)/\(r=v\/∃x∈L.drop i,r=x.fV):=by
 intro fu;induction fu with
 |zero=>intro _ _ _ h;omega
 |succ fu ih=>
  intro i v n o;simp only[ZgS,Zah];by_cases h:i<L.length
  .rw[if_pos (by omega),Zaq ⟨by omega,by omega⟩];simp only[Int.toNat_natCast];rw[add1 h hL,Zex L Zat.d i h];generalize L.getD i Zat.d=x;obtain⟨r,f,b,g,j⟩:=ih (i+1) (if x.fV>v then x.fV else v) (by omega) (by omega);refine⟨r,f,by split at b<;>omega,fun y hy=>?_,?_⟩
   .rcases List.mem_cons.1 hy with e|hy
    .subst e;split at b<;>omega
    .exact g y hy
   .rcases j with e|⟨y,y1,y2⟩
    .split at e
     .exact .inr ⟨x,by simp,e⟩
     .exact .inl e
    .exact .inr ⟨y,by simp[y1],y2⟩
  .rw[if_neg (by omega)];have:L.drop i=[]:=List.drop_eq_nil_of_le (by omega);exact⟨v,rfl,Int.le_refl _,by simp[this],.inl rfl⟩
theorem ZxN(l:List Zac)(a:Zaf)(ag:Int)(hl:l.length<=maxLen)(az:∀b∈l,b.ok)(j:a.ok):∃r,Zid l a ag=some r/\Zwy l a ag r:=by
 obtain⟨t,t1,t2⟩:=ZII l ag hl az;obtain⟨L,n,hL,f⟩:=ZDP t2.gt a j;simp only[Zid,t1,n,Option.bind_some];have one:∀x∈L,∃b,ZmZ l a ag b/\b.fUntil=x.fV:=fun x hx=>by
  obtain⟨x1,x2⟩:=(f x).1 hx;obtain⟨b,b1,b2,b3,b4⟩:=t2.from_ x x1;exact⟨b,⟨b1,b2,by rw[b3];exact x2⟩,b4⟩
 have fF:∀b,ZmZ l a ag b->∃x∈L,b.fUntil<=x.fV:=fun b hb=>by
  have o:Ziw b.fNet=true:=by have:=hb.2.2;unfold hasS at this;rw[Bool.and_eq_true]at this;exact this.1
  obtain⟨x,x1,x2,x3⟩:=t2.has b hb.1 hb.2.1 o;exact⟨x,(f x).2 ⟨x1,by rw[x2];exact hb.2.2⟩,x3⟩
 by_cases h0:L=[]
 .subst h0;refine⟨0,rfl,.inl ⟨rfl,fun b hb=>?_⟩⟩;obtain⟨x,hx,_⟩:=fF b hb;simp at hx
 .have ii:0<L.length:=List.length_pos_iff.2 h0;rw[show (((L.length:Nat):Int)==0)=false by rw[beq_eq_false_iff_ne];omega,cond_false,Zaq ⟨by omega,by omega⟩];obtain⟨r,g,u,h,i⟩:=ZIC L hL ((((L.length:Nat):Int)-(0:Int)).toNat+2) 0 (L.getD (0:Int).toNat Zat.d).fV (by omega) (by omega);simp only[Int.natCast_zero,List.drop_zero]at g h i;refine⟨r,g,.inr ?_⟩;have cO:∃x∈L,r=x.fV:=by
   rcases i with e|e
   .exact⟨_,ZeD L Zat.d 0 ii,e⟩
   .exact e
  obtain⟨x,x1,x2⟩:=cO;obtain⟨b,b1,b2⟩:=one x x1;refine⟨b,b1,by omega,fun c p=>?_⟩;obtain⟨y,y1,y2⟩:=fF c p;have:=h y y1;omega
theorem Zyd(l:List Zac)(a:Zaf)(ag:Int)(hl:l.length<=maxLen)(az:∀b∈l,b.ok)(D:a.ok):∀fu (i:Nat) (v:Int) (q:Bool),i<=l.length->l.length-i<fu ->
  ∃r,ZbJ l ag fu v q (i:Int) a=some r/\(∀b,ZmZ (l.drop i) a ag b->b.fUntil<=r)/\(q=true->v<=r)/\(r=v\/∃b,ZmZ (l.drop i) a ag b/\r=b.fUntil)/\(q=false->(∃b,ZmZ (l.drop i) a ag b)->∃b,ZmZ (l.drop i) a ag b/\r=b.fUntil):=by
 intro fu;induction fu with
 |zero=>intro _ _ _ _ h;omega
 |succ fu ih=>
  intro i v q F n;simp only[ZbJ,Zah];by_cases h:i<l.length
  .rw[if_pos (by omega),Zaq ⟨by omega,by omega⟩];simp only[Int.toNat_natCast];have cz:=az _ (ZeD l Zac.d i h);rw[add1 h hl,Zex l Zac.d i h];generalize l.getD i Zac.d=b at cz ⊢;have lx:ZgO b a ag=some (decide (ag<b.fUntil)&&hasS b.fNet a):=by
    simp only[ZgO,ZCL _ _ cz.1.1 D,Zah,gt_iff_lt,Option.bind_some];by_cases h:ag<b.fUntil
    .rw[if_pos h,decide_eq_true h];rfl
    .rw[if_neg h,decide_eq_false h];rfl
   rw[lx];simp only[Option.bind_some];have ck:∀c,ZmZ (l.drop (i+1)) a ag c->ZmZ (b :: l.drop (i+1)) a ag c:=fun c f=>⟨by simp[f.1],f.2⟩;cases o:(decide (ag<b.fUntil)&&hasS b.fNet a)with
   |false=>
    simp only[cond_false];have bg:∀c,ZmZ (b :: l.drop (i+1)) a ag c↔ZmZ (l.drop (i+1)) a ag c:=fun c=>by
     refine⟨fun f=>⟨?_,f.2⟩,ck c⟩;rcases List.mem_cons.1 f.1 with e|hm
     .subst e;rw[decide_eq_true f.2.1,f.2.2]at o;cases o
     .exact hm
    obtain⟨r,t,u,y,p,z⟩:=ih (i+1) v q (by omega) (by omega);refine⟨r,t,fun c f=>u c ((bg c).1 f),y,?_,fun n hx=>?_⟩
    .rcases p with e|⟨c,g,j⟩
     .exact .inl e
     .exact .inr ⟨c,ck c g,j⟩
    .obtain⟨c,f⟩:=hx;obtain⟨d,d1,d2⟩:=z n ⟨c,(bg c).1 f⟩;exact⟨d,ck d d1,d2⟩
   |true=>
    simp only[cond_true];rw[Bool.and_eq_true,decide_eq_true_eq]at o;have hb:ZmZ (b :: l.drop (i+1)) a ag b:=⟨by simp,o⟩
    -- what follows from a step that took b's,or something longer
    have step:∀v',b.fUntil<=v'->(q=true->v<=v')->(v'=b.fUntil\/(q=true/\v'=v))->∃r,ZbJ l ag fu v' true ((i+1:Nat):Int) a=some r/\(∀c,ZmZ (b :: l.drop (i+1)) a ag c->c.fUntil<=r)/\(q=true->v<=r)/\(r=v\/∃c,ZmZ (b :: l.drop (i+1)) a ag c/\r=c.fUntil)/\(q=false->(∃c,ZmZ (b :: l.drop (i+1)) a ag c)->∃c,ZmZ (b :: l.drop (i+1)) a ag c/\r=c.fUntil):=by
     intro v' G E A;obtain⟨r,t,u,y,p,z⟩:=ih (i+1) v' true (by omega) (by omega);have r3':=y rfl;refine⟨r,t,fun c f=>?_,fun dr=>by have:=E dr;omega,?_,fun n _=>?_⟩
     .rcases List.mem_cons.1 f.1 with e|hm
      .subst e;omega
      .exact u c ⟨hm,f.2⟩
     .rcases p with e|⟨c,g,j⟩
      .rcases A with B|⟨_,B⟩
       .exact .inr ⟨b,hb,by omega⟩
       .exact .inl (by omega)
      .exact .inr ⟨c,ck c g,j⟩
     .rcases p with e|⟨c,g,j⟩
      .rcases A with B|⟨C,_⟩
       .exact⟨b,hb,by omega⟩
       .rw[n]at C;cases C
      .exact⟨c,ck c g,j⟩
    cases q with
    |false=>
     rw[Bool.not_false,cond_true];exact step b.fUntil (Int.le_refl _) (fun h=>by cases h) (.inl rfl)
    |true=>
     rw[Bool.not_true,cond_false];by_cases hgt:b.fUntil>v
     .rw[if_pos hgt];exact step b.fUntil (Int.le_refl _) (fun _=>by omega) (.inl rfl)
     .rw[if_neg hgt];exact step v (by omega) (fun _=>Int.le_refl _) (.inr ⟨rfl,rfl⟩)
  .rw[if_neg (by omega)];have:l.drop i=[]:=List.drop_eq_nil_of_le (by omega);rw[this];exact⟨v,rfl,fun b hb=>by simp[ZmZ]at hb,fun _=>Int.le_refl _,.inl rfl,fun _ ⟨b,hb⟩=>by simp[ZmZ]at hb⟩
theorem Zvf(l:List Zac)(a:Zaf)(ag:Int)(hl:l.length<=maxLen)(az:∀b∈l,b.ok)(j:a.ok):∃r,Zdj l a ag=some r/\Zwy l a ag r:=by
 obtain⟨r,d,f,n,g,i⟩:=Zyd l a ag hl az j ((((l.length:Nat):Int)-(0:Int)).toNat+2) 0 0 false (by omega) (by omega);simp only[Int.natCast_zero,List.drop_zero]at d f g i;refine⟨r,d,?_⟩;by_cases h:∃b,ZmZ l a ag b
 .obtain⟨b,b1,b2⟩:=i trivial h;exact .inr ⟨b,b1,b2,f⟩
 .refine .inl ⟨?_,fun b hb=>h ⟨b,hb⟩⟩;rcases g with e|⟨b,b1,_⟩
  .exact e
  .exact absurd ⟨b,b1⟩ h
set_option maxRecDepth 100000 in
def Zoc(l:List Zac)(ag:Int):List Zac:=l.filter fun b=>decide (ag<b.fUntil)
theorem ZDT{b:Zac}{r:List Zac}{ag:Int}(h:ag<b.fUntil):Zoc (b :: r) ag=b :: Zoc r ag:=by simp[Zoc,h]
theorem ZFr{b:Zac}{r:List Zac}{ag:Int}(h:¬ag<b.fUntil):Zoc (b :: r) ag=Zoc r ag:=by simp[Zoc,h]
theorem ZrA{n:Nat}(h:n<=100000):n * 40<=140737488355328/\n<=maxLen:=⟨by omega,by unfold maxLen;omega⟩
theorem Zya(l:List Zac)(ag:Int)(hl:l.length<=10000):∀fu (i:Nat) (w:List Zac),i<=l.length->l.length-i<fu->w.length<=i ->
  ZcD l ag fu (i:Int) w=some (w++Zoc (l.drop i) ag,((l.length:Int)-((w++Zoc (l.drop i) ag).length:Int))):=by
 have f:l.length<=maxLen:=by unfold maxLen;omega
 intro fu;induction fu with
 |zero=>intro _ _ _ h;omega
 |succ fu ih=>
  intro i w g j n;simp only[ZcD,Zah,gt_iff_lt];by_cases h:i<l.length
  .rw[if_pos (by omega),Zaq ⟨by omega,by omega⟩];simp only[Int.toNat_natCast];rw[add1 h f,Zex l Zac.d i h];by_cases hb:ag<(l.getD i Zac.d).fUntil
   .have b:=ZDT (r:=l.drop (i+1)) hb;rw[if_pos hb,Zaq (ZrA (by simp;omega)),ih (i+1) _ (by omega) (by omega) (by simp;omega),b];simp
   .have b:=ZFr (r:=l.drop (i+1)) hb;rw[if_neg hb,ih (i+1) w (by omega) (by omega) (by omega),b]
  .have e:i=l.length:=by omega
   rw[if_neg (by omega),e,List.drop_length];simp only[Zoc,List.filter_nil,List.append_nil];rw[ZcI (by omega) (by omega)]
theorem ZFM(l:List Zac)(ag:Int)(hl:l.length<=10000):Zgo l ag=some (Zoc l ag,((l.length:Int)-((Zoc l ag).length:Int))):=by
 have:=Zya l ag hl ((((l.length:Nat):Int)-(0:Int)).toNat+2) 0 [] (by omega) (by omega) (by simp);simpa[Zgo]using this
theorem ZDU(l:List Zac)(ag:Int):(Zoc l ag).length<=l.length:=List.length_filter_le _ _
def Zux(b:Zac):Bool:=Ziw b.fNet&&decide (1<=b.fUntil)&&decide (b.fUntil<=1099511627776)
theorem ZBi(b:Zac)(h:b.ok):Zgp b=some (Zux b):=by
 simp only[Zgp,Ztn _ h.1.1,Zux,Option.bind_some,Zah];cases Ziw b.fNet
 .rfl
 .simp only[cond_true,Bool.true_and];by_cases d:1<=b.fUntil
  .rw[if_pos (by omega),decide_eq_true d];rfl
  .rw[if_neg (by omega),decide_eq_false d];rfl
def ZnZ(l:List Zac)(n:Zaj):Int:=ixOf (fun x=>decide (x.fNet=n)) l 0
theorem Zxg(l:List Zac)(n:Zaj)(hl:l.length<=maxLen):ZeX l n=some (ZnZ l n):=by
 simp only[ZeX];rw[show ((0:Int))=((0:Nat):Int)from rfl];rw[ZrG l Zac.d (fun x=>decide (x.fNet=n)) hl (fun fu i=>ZcE l fu i n) (fun i=>i) ?_ ?_ _ 0 (by omega) (by omega)]
 .rfl
 .intro fu i b;simp only[ZcE,Zah];rw[if_pos (by omega),Zaq ⟨by omega,by omega⟩];simp
 .intro fu;simp only[ZcE,Zah];rw[if_neg (by omega)]
def putB(l:List Zac)(b:Zac):List Zac:=l.takeWhile (fun x=>!decide (0<cmpN x.fNet b.fNet))++[b]++l.dropWhile (fun x=>!decide (0<cmpN x.fNet b.fNet))
def ZIG(x b:Zac):Zac:=⟨x.fNet,if b.fUntil>x.fUntil then b.fUntil else x.fUntil⟩
def addB(l:List Zac)(b:Zac)(bp:Int):List Zac×Int:=if Zux b then if 0<=ZnZ l b.fNet then(l.set (ZnZ l b.fNet).toNat (ZIG (l.getD (ZnZ l b.fNet).toNat Zac.d) b),0)else if(l.length:Int)>=bp then([],5)else(putB l b,0)else([],1)
theorem ZBG(l:List Zac)(n:Zaj)(h:0<=ZnZ l n):(ZnZ l n).toNat<l.length/\(l.getD (ZnZ l n).toNat Zac.d).fNet=n:=by
 obtain⟨k,b,f,⟨x,g,i⟩,_⟩:=ZoW _ l 0 h;have e:(ZnZ l n).toNat=k:=by unfold ZnZ;rw[f];omega
 rw[e];refine⟨b,?_⟩;rw[List.getD_eq_getElem?_getD,g];simpa using i
theorem ZIt(l:List Zac)(e:Zac)(h:l.length<=10000):∀fu (i:Nat),i<=l.length->l.length-i<fu ->
  ZdC l fu (i:Int) e=some (l.take i++putB (l.drop i) e,0):=by
 have g:l.length<=maxLen:=by unfold maxLen;omega
 have bn:∀i:Nat,i<=l.length->(need (0<=(i:Int)/\(i:Int)<=((l.length:Nat):Int)) <|
   need ((([]:List Zac)++(l.take (i:Int).toNat)).length * 40<=140737488355328/\(([]:List Zac)++(l.take (i:Int).toNat)).length<=maxLen) <|
   need (((([]:List Zac)++(l.take (i:Int).toNat))++([e]:List Zac)).length * 40<=140737488355328/\((([]:List Zac)++(l.take (i:Int).toNat))++([e]:List Zac)).length<=maxLen) <|
   need ((((([]:List Zac)++(l.take (i:Int).toNat))++([e]:List Zac))++(l.drop (i:Int).toNat)).length * 40<=140737488355328/\(((([]:List Zac)++(l.take (i:Int).toNat))++([e]:List Zac))++(l.drop (i:Int).toNat)).length<=maxLen) <|
   some ((((([]:List Zac)++(l.take (i:Int).toNat))++([e]:List Zac))++(l.drop (i:Int).toNat)),(0:Int)))=some (l.take i++[e]++l.drop i,0):=by
  intro i f;rw[Zaq ⟨by omega,by omega⟩,Zaq (ZrA (by simp;omega)),Zaq (ZrA (by simp;omega)),Zaq (ZrA (by simp;omega))];simp
 intro fu;induction fu with
 |zero=>intro i _ h;omega
 |succ fu ih=>
  intro i f j;simp only[ZdC,ZIs,Option.bind_some,Zah];by_cases hlt:i<l.length
  .rw[if_pos (by omega),Zaq ⟨by omega,by omega⟩];have hd:=Zex l Zac.d i hlt;by_cases b:cmpN (l.getD i Zac.d).fNet e.fNet<=0
   .rw[if_pos (by simpa using b),add1 hlt g,ih (i+1) (by omega) (by omega)];congr 2;unfold putB;rw[hd,List.takeWhile_cons,List.dropWhile_cons,if_pos (by simp;simpa using b),if_pos (by simp;simpa using b),List.take_succ_eq_append_getElem hlt];rw[ZbX l Zac.d i hlt];simp only[List.append_assoc,List.cons_append,List.nil_append]
   .rw[if_neg (by simpa using b),bn i f];congr 2;unfold putB;rw[hd,List.takeWhile_cons,List.dropWhile_cons,if_neg (by simp;simpa using b),if_neg (by simp;simpa using b)];simp
  .rw[if_neg (by omega),bn i f];have:l.drop i=[]:=List.drop_eq_nil_of_le (by omega);rw[this];simp[putB]
theorem ZCK(l:List Zac)(b:Zac)(bp:Int)(h:l.length<=10000)(hb:b.ok):ZfY l b bp=some (addB l b bp):=by
 have j:l.length<=maxLen:=by unfold maxLen;omega
 simp only[ZfY,ZBi b hb,Zxg l _ j,Option.bind_some,addB];cases Zux b
 .rfl
 .simp only[Bool.not_true,cond_false,if_true,Zah,ge_iff_le,List.nil_append];by_cases f:0<=ZnZ l b.fNet
  .obtain⟨f1,f2⟩:=ZBG l b.fNet f;simp only[f,if_true];rw[Zaq (ZrA (by omega)),Zaq ⟨trivial,by omega⟩];unfold ZIG;by_cases g:b.fUntil>(l.getD (ZnZ l b.fNet).toNat Zac.d).fUntil
   .simp only[g,if_true]
   .simp only[g,if_false];congr 2;have e:(⟨(l.getD (ZnZ l b.fNet).toNat Zac.d).fNet,(l.getD (ZnZ l b.fNet).toNat Zac.d).fUntil⟩ : Zac)=l[(ZnZ l b.fNet).toNat]:=by rw[ZbX l _ _ f1]
    rw[e,List.set_getElem_self]
  .simp only[f,if_false];by_cases i:bp<=(l.length:Int)
   .simp only[i,if_true]
   .simp only[i,if_false];have:=ZIt l b h ((((l.length:Nat):Int)-(0:Int)).toNat+2) 0 (by omega) (by omega);simpa using this
def ZEQ(l:List Zac)(n:Zaj):List Zac×Int:=if ZnZ l n<0 then([],6)else(l.take (ZnZ l n).toNat++l.drop ((ZnZ l n).toNat+1),0)
theorem ZFS(l:List Zac)(n:Zaj)(h:l.length<=10000):ZgN l n=some (ZEQ l n):=by
 have d:l.length<=maxLen:=by unfold maxLen;omega
 simp only[ZgN,Zxg l n d,Option.bind_some,Zah,ZEQ];by_cases b:ZnZ l n<0
 .rw[if_pos b,if_pos b]
 .rw[if_neg b,if_neg b];obtain⟨f1,_⟩:=ZBG l n (by omega);have e:ZnZ l n=(((ZnZ l n).toNat:Nat):Int):=by omega
  generalize (ZnZ l n).toNat=k at f1 e;rw[e,add1 f1 d];simp only[Int.toNat_natCast,List.nil_append];rw[Zaq ⟨by omega,by omega⟩,Zaq (ZrA (by simp;omega)),Zaq ⟨by omega,by omega⟩,Zaq (ZrA (by simp;omega))]
theorem ZIv(l:List Zac)(e:Zac):(putB l e).length=l.length+1:=by
 unfold putB;have:=congrArg List.length (List.takeWhile_append_dropWhile (p:=fun x:Zac=>!decide (0<cmpN x.fNet e.fNet)) (l:=l));simp only[List.length_append,List.length_cons,List.length_nil]at this ⊢;omega
theorem ZDK(l:List Zac)(e:Zac)(bp:Int):(addB l e bp).1.length<=l.length+1:=by
 unfold addB
 repeat' split
 all_goals simp[ZIv]
theorem ZHe(l:List Zac)(n:Zaj):(ZEQ l n).1.length<=l.length:=by
 unfold ZEQ;split<;>simp<;>omega
def u64r(x:Int):Prop:=0<=x/\x<=18446744073709551615
theorem ZqR(a:Int):u64r (IntKind.wrap .u64 a):=by
 unfold u64r;simp only[IntKind.wrap,IntKind.bits,IntKind.signed];simp;omega
theorem ZKI{a:Int}(h:u64r a):IntKind.wrap .u64 a=a:=ZhF h.1 h.2
theorem ZwX{a:Int}(h:u64r a)(k:Int)(b:0<k):IntKind.wrap .u64 (Int.tdiv a k)=Int.fdiv a k:=by
 obtain⟨n,rfl⟩ : ∃n:Nat,a=n:=⟨a.toNat,by have:=h.1;omega⟩;obtain⟨m,rfl⟩ : ∃m:Nat,k=m:=⟨k.toNat,by omega⟩;have d:=h.2;rw[Int.fdiv_eq_tdiv_of_nonneg (by omega) (by omega)];refine ZKI ⟨Int.tdiv_nonneg (by omega) (by omega),?_⟩;have:Int.tdiv (n:Int) (m:Int)<=(n:Int):=by
  rw[<-Int.ofNat_tdiv];have:=Nat.div_le_self n m;omega
 omega
theorem pw30:(2:Int) ^ (min (30:Int).toNat (IntKind.bits .u64))=1073741824:=by decide
theorem pw27:(2:Int) ^ (min (27:Int).toNat (IntKind.bits .u64))=134217728:=by decide
theorem pw31:(2:Int) ^ (min (31:Int).toNat (IntKind.bits .u64))=2147483648:=by decide
theorem pw57:(2:Int) ^ (min (57:Int).toNat (IntKind.bits .u64))=144115188075855872:=by decide
theorem pw7:(2:Int) ^ (min (7:Int).toNat (IntKind.bits .u64))=128:=by decide
theorem ZBs(x:Int)(h:u64r x):∃y,ZmL x=some y/\ZeM x=some y/\u64r y:=by
 unfold ZmL ZeM;simp only[pw30,pw27,pw31,ZwX h 1073741824 (by omega),ZwX (ZqR _) 134217728 (by omega),ZwX (ZqR _) 2147483648 (by omega)];exact⟨_,rfl,rfl,ZqR _⟩
theorem ZKT(a b:Nat)(d:a<2 ^ 64)(hb:b<2 ^ 64):IntKind.u64.wrap (((BitVec.ofInt (IntKind.bits .u64) (a:Int)) ||| (BitVec.ofInt (IntKind.bits .u64) (b:Int))).toNat:Int)=((a |||b:Nat):Int):=by
 have e:∀c:Nat,c<2 ^ 64->(BitVec.ofInt 64 (c:Int)).toNat=c:=fun c f=>by
  rw[BitVec.ofInt_natCast,BitVec.toNat_ofNat];exact Nat.mod_eq_of_lt f
 have g:((BitVec.ofInt (IntKind.bits .u64) (a:Int)) ||| (BitVec.ofInt (IntKind.bits .u64) (b:Int))).toNat=a |||b:=by
  show (BitVec.ofInt 64 (a:Int) |||BitVec.ofInt 64 (b:Int)).toNat=a |||b;rw[BitVec.toNat_or,e a d,e b hb]
 rw[g];have:=Nat.or_lt_two_pow d hb;exact ZhF (by omega) (by omega)
theorem rot7(x:Int)(h:u64r x):Zet x 7=some (IntKind.wrap .u64 (IntKind.wrap .u64 (x * 128)+IntKind.wrap .u64 (Int.tdiv x 144115188075855872))):=by
 unfold Zet;have b:IntKind.wrap .u64 (((BitVec.ofInt (IntKind.bits .u64) (IntKind.wrap .u64 (7:Int))) &&& (BitVec.ofInt (IntKind.bits .u64) (63:Int))).toNat:Int)=7:=by decide
 have e57:IntKind.wrap .u64 ((64:Int)-7)=57:=by decide
 simp only[b,e57,pw57,pw7];rw[Zaq (by omega),Zaq (by omega),ZwX h 144115188075855872 (by omega)];obtain⟨n,rfl⟩ : ∃n:Nat,x=n:=⟨x.toNat,by have:=h.1;omega⟩;have g:=h.2;have d:IntKind.wrap .u64 ((n:Int) * 128)=((n % 2 ^ 57 * 128:Nat):Int):=by
  simp only[IntKind.wrap,IntKind.bits,IntKind.signed];simp;omega
 have e:Int.fdiv (n:Int) 144115188075855872=((n / 2 ^ 57:Nat):Int):=by
  rw[Int.fdiv_eq_tdiv_of_nonneg (by omega) (by omega)];exact(Int.ofNat_tdiv n 144115188075855872).symm
 have hlt:n % 2 ^ 57 * 128<2 ^ 64:=by omega
 have hlt2:n / 2 ^ 57<2 ^ 7:=by omega
 rw[d,e,ZKT _ _ hlt (by omega)];have f:n % 2 ^ 57 * 128 |||n / 2 ^ 57=n % 2 ^ 57 * 128+n / 2 ^ 57:=by
  have:=Nat.shiftLeft_add_eq_or_of_lt hlt2 (n % 2 ^ 57);rw[Nat.shiftLeft_eq]at this;exact this.symm
 rw[f];congr 1;rw[ZhF (by omega) (by omega)];omega
theorem ZJp(k:Int)(l:List Int)(hl:l.length<=1000):∃h,Zrc k l=some h/\ZgB k l=some h/\u64r h:=by
 have hL:l.length<=maxLen:=by unfold maxLen;omega
 have ay:∀fu (i:Nat) (v:Int),u64r v->i<=l.length->l.length-i<fu->∃h,ZjY fu v l (l.length:Int) (i:Int)=some h/\ZdS l fu v (i:Int)=some h/\u64r h:=by
  intro fu;induction fu with
  |zero=>intro i v _ _ h;omega
  |succ fu ih=>
   intro i v e o p;unfold ZjY ZdS;simp only[Zah];by_cases h:i<l.length
   .rw[if_pos (by omega),if_pos (by omega),Zaq ⟨by omega,by omega⟩,Zaq ⟨by omega,by omega⟩,rot7 v e];obtain⟨y,b,d,f⟩:=ZBs _ (ZqR ((l.getD ((i:Int)).toNat (0:Int))+(11400714819323198485:Int)));simp only[b,d,Option.bind_some];obtain⟨z,g,j,n⟩:=ZBs _ (ZqR (((BitVec.ofInt (IntKind.bits .u64) (IntKind.wrap .u64 (IntKind.wrap .u64 (v * 128)+IntKind.wrap .u64 (Int.tdiv v 144115188075855872)))) ^^^ (BitVec.ofInt (IntKind.bits .u64) y)).toNat:Int));simp only[g,j,Option.bind_some,add1 h hL];exact ih (i+1) z n (by omega) (by omega)
   .rw[if_neg (by omega),if_neg (by omega)];exact⟨v,rfl,rfl,e⟩
 unfold Zrc ZgB;obtain⟨y,b,d,f⟩:=ZBs _ (ZqR (k+(11400714819323198485:Int)));simp only[b,d,Option.bind_some];exact ay _ 0 y f (by omega) (by omega)
theorem ZGm(k:Int)(n:Zaj):∃h,Zon k n=some h/\ZeN k n=some h/\u64r h:=by
 unfold Zon ZeN;cases n.fAddr.fV6
 .obtain⟨h,b,d,e⟩:=ZJp k [(4:Int),n.fAddr.fHi,n.fAddr.fLo,(IntKind.wrap .u64 n.fBits)] (by simp);simp only[cond_false,b,d,Option.bind_some];exact⟨h,rfl,rfl,e⟩
 .obtain⟨h,b,d,e⟩:=ZJp k [(6:Int),n.fAddr.fHi,n.fAddr.fLo,(IntKind.wrap .u64 n.fBits)] (by simp);simp only[cond_true,b,d,Option.bind_some];exact⟨h,rfl,rfl,e⟩
def ZwM(a:Zaf):Zaj:=if Zdc a=true then⟨a,(wid a:Int)⟩else⟨⟨false,0,0⟩,0⟩
theorem ZIW(b lo:Nat)(g:b<2 ^ 64)(j:lo<2 ^ 64):∀fu (i:Nat) (z:Int),i<=64->64-i<fu->(i<64->z=((2 ^ (63-i):Nat):Int)) ->
  ZbF (b:Int) (lo:Int) 128 fu ((b-b % 2 ^ (64-i):Nat):Int) ((lo-lo % 2 ^ (64-i):Nat):Int) z (i:Int)=some ((b:Int),(lo:Int)):=by
 intro fu;induction fu with
 |zero=>intro i z _ h;omega
 |succ fu ih=>
  intro i z hi64 y f;unfold ZbF;simp only[Zah];by_cases h:i<64
  .have t:Zan (i:Int) 64=((i+64:Nat):Int):=by rw[Zcd (by omega) (by omega)];omega
   have u:Zan (i:Int) 1=((i+1:Nat):Int):=by rw[Zcd (by omega) (by omega)];omega
   have f:=f h;obtain⟨p,d⟩ : ∃p:Nat,p=2 ^ (63-i):=⟨_,rfl⟩;have gh:0<p:=by rw[d];exact Nat.two_pow_pos _
   have aS:2 ^ (64-i)=2*p:=by rw[d,show 64-i=(63-i)+1 by omega,Nat.pow_succ];omega
   have hp3:p<=2 ^ 63:=by rw[d];exact Nat.pow_le_pow_right (by omega) (by omega)
   have a4:p<2 ^ 64:=by omega
   rw[<-d]at f;subst f;have jK:IntKind.wrap .u64 (Int.tdiv (p:Int) 2)=((p / 2:Nat):Int):=by
    rw[ZwX ⟨by omega,by omega⟩ 2 (by omega),Int.fdiv_eq_tdiv_of_nonneg (by omega) (by omega)];exact(Int.ofNat_tdiv p 2).symm
   have b8:i+1<64->((p / 2:Nat):Int)=((2 ^ (63-(i+1)):Nat):Int):=fun o=>by
    have:p=2 * 2 ^ (63-(i+1)):=by rw[d,show 63-i=(63-(i+1))+1 by omega,Nat.pow_succ];omega
    rw[this];congr 1;omega
   have bit:∀n:Nat,n<2 ^ 64->IntKind.wrap .u64 (Int.tdiv (n:Int) (p:Int))=((n / p:Nat):Int):=fun n v=>by
    rw[ZwX ⟨by omega,by omega⟩ _ (by omega),Int.fdiv_eq_tdiv_of_nonneg (by omega) (by omega)];exact(Int.ofNat_tdiv n p).symm
   have step:∀n:Nat,n<2 ^ 64->(n / p % 2=1->IntKind.wrap .u64 (((n-n % 2 ^ (64-i):Nat):Int)+(p:Int))=((n-n % 2 ^ (64-(i+1)):Nat):Int))/\(n / p % 2≠1->((n-n % 2 ^ (64-i):Nat):Int)=((n-n % 2 ^ (64-(i+1)):Nat):Int)):=fun n v=>by
    have e:2 ^ (64-(i+1))=p:=by rw[d];congr 1;omega
    rw[e,aS];have r:n % (2*p)=n % p+p*(n / p % 2):=by rw[Nat.mul_comm 2 p];exact Nat.mod_mul
    have hm2:n % p<p:=Nat.mod_lt _ gh;have hm3:n % (2*p)<=n:=Nat.mod_le _ _;refine⟨fun hb=>?_,fun hb=>?_⟩
    .rw[hb,Nat.mul_one]at r;rw[ZhF (by omega) (by omega)];omega
    .have bk:n / p % 2=0:=by omega
     rw[bk,Nat.mul_zero]at r;rw[r];congr 1
   have tm:∀n:Nat,((Int.tmod ((n:Nat):Int) 2)==(1:Int))=decide (n % 2=1):=fun n=>by
    have:Int.tmod ((n:Nat):Int) 2=((n % 2:Nat):Int):=(Int.ofNat_tmod n 2).symm;rw[this];by_cases o:n % 2=1
    .rw[o];rfl
    .rw[decide_eq_false o];exact beq_false_of_ne (by omega)
   have bS:∀v8:Int,v8=((b-b % 2 ^ (64-(i+1)):Nat):Int)->ZdD (b:Int) (lo:Int) 128 ((lo-lo % 2 ^ (64-i):Nat):Int) (p:Int) (i:Int) (ZbF (b:Int) (lo:Int) 128 fu) v8=some ((b:Int),(lo:Int)):=by
    rintro v8 rfl;unfold ZdD;simp only[Zah,t,u,jK,bit lo j,tm];rw[if_pos (by omega),Zaq (by omega)];by_cases hb:lo / p % 2=1
    .rw[if_pos hb,(step lo j).1 hb];exact ih (i+1) _ (by omega) (by omega) b8
    .rw[if_neg hb,(step lo j).2 hb];exact ih (i+1) _ (by omega) (by omega) b8
   rw[if_pos (by omega),if_pos (by omega),Zaq (by omega)];simp only[bit b g,tm,Zah];by_cases hb:b / p % 2=1
   .rw[if_pos hb];exact bS _ ((step b g).1 hb)
   .rw[if_neg hb];exact bS _ ((step b g).2 hb)
  .have:i=64:=by omega
   subst this;rw[if_neg (by omega)];simp[Nat.mod_one]
theorem ZFP(b lo:Nat)(d:b<2 ^ 64)(e:lo<2 ^ 64):ZdY (b:Int) (lo:Int) 128=some ((b:Int),(lo:Int)):=by
 unfold ZdY;have:=ZIW b lo d e 66 0 9223372036854775808 (by omega) (by omega) (fun _=>by decide);have f:b-b % 2 ^ (64-0)=0:=by rw[Nat.sub_zero,Nat.mod_eq_of_lt d];omega
 have g:lo-lo % 2 ^ (64-0)=0:=by rw[Nat.sub_zero,Nat.mod_eq_of_lt e];omega
 rw[f,g]at this;exact this
theorem ZIq(a:Zaf)(h:a.ok):ZgP a=some (ZwM a):=by
 unfold ZgP Zit ZwM;simp only[Zuz,Option.bind_some,ZjG a h,Zah];by_cases d:Zdc a=true
 .rw[d,Bool.not_true,cond_false,if_neg (by omega),if_neg (by omega),if_pos rfl];unfold Zis Zfp Zfo;simp only[ZjG a h,d,Bool.not_true,cond_false,Option.bind_some,Zah,Zuz];rw[if_neg (by omega),if_neg (by omega)];have b:=ZqK h d;obtain⟨v6,g,lo⟩:=a;have j:=b.hi0;have n:=b.hi1;have o:=b.lo0;have p:=b.lo1;simp only at j n o p;obtain⟨x,rfl⟩ : ∃x:Nat,g=x:=⟨g.toNat,by omega⟩;obtain⟨y,rfl⟩ : ∃y:Nat,lo=y:=⟨lo.toNat,by omega⟩;cases v6
  .have i:=b.v4 rfl;have e:wid ⟨false,(x:Int),(y:Int)⟩=32:=rfl;have r:Zan (96:Int) ((32:Nat):Int)=128:=by decide
   simp only[e,r,cond_false];have:=ZFP 0 y (by omega) (by omega);have f:ZdY (0:Int) (y:Int) 128=some (((0:Nat):Int),(y:Int)):=this;rw[f,Option.bind_some];simp only at i;simp[i.1]
  .have e:wid ⟨true,(x:Int),(y:Int)⟩=128:=rfl;simp only[e,cond_true];have:=ZFP x y (by omega) (by omega);have f:ZdY (x:Int) (y:Int) ((128:Nat):Int)=some ((x:Int),(y:Int)):=this;rw[f,Option.bind_some];rfl
 .simp[d]
end Go.Proofs.YtmnloegcpaahcaaGreat
