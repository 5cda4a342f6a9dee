import Derived.Test.YtmnloegcpaahcaaGreatAPlA
import Derived.Test.YtmnloegcpaahcaaGreatAAdnA3
namespace Go.Proofs.YtmnloegcpaahcaaGreat
set_option linter.unusedSimpArgs false
set_option linter.unusedVariables false
theorem ZlV{a:Int}(h:0<=a):∃n:Nat,a=n:=⟨a.toNat,by omega⟩
def Zek(a:Zaf):Bool:=if a.fV6 then !(decide (a.fHi=0)&&decide (a.fLo / 4294967296=65535))else decide (a.fHi=0)&&decide (a.fLo<4294967296)
theorem ZHS(n:Nat)(h:n<=18446744073709551615):IntKind.u32.wrap (IntKind.u64.wrap (((BitVec.ofInt (IntKind.bits .u64) (n:Int)) &&& (BitVec.ofInt (IntKind.bits .u64) (4294967295:Int))).toNat:Int))=((n % 4294967296:Nat):Int):=by
 have:=ZAF n 4294967295 (by omega) (by omega);rw[show ((4294967295:Nat):Int)=(4294967295:Int)from rfl]at this;rw[this,show (4294967295:Nat)=2 ^ 32-1 from rfl,Nat.and_two_pow_sub_one_eq_mod];rw[show (2:Nat) ^ 32=4294967296 from rfl];have h1:n % 4294967296<4294967296:=Nat.mod_lt _ (by omega);rw[ZhV (by omega) (by omega)];simp only[IntKind.wrap,IntKind.bits,IntKind.signed];simp
theorem ZHC(n:Nat)(h:n<4294967296):ZnU ((n:Nat):Int)=some ⟨false,0,n⟩:=by
 unfold ZnU;rw[ZhV (by omega) (by omega)]
theorem ZkP(a:Zaf)(h:a.ok):Zfw a=some (Zek a):=by
 obtain⟨v,hi,lo⟩:=a;obtain⟨_,h1,h2,_⟩:=h;have h1:=ZmV h1;have h2:=ZmV h2;simp only at h1 h2;obtain⟨n,rfl⟩:=ZlV h2.1;have hm:=ZHS n (by omega);have hlt:n % 4294967296<4294967296:=Nat.mod_lt _ (by omega);have hd:Int.fdiv (n:Int) (2 ^ (min (32:Int).toNat (IntKind.bits .u64)))=(n:Int) / 4294967296:=by
  rw[show (2:Int) ^ (min (32:Int).toNat (IntKind.bits .u64))=4294967296 from rfl,Int.fdiv_eq_ediv_of_nonneg _ (by omega)]
 cases v with
 |true=>
  simp only[Zfw,Zrw,Zek,cond_true,hd,hm];have hb:∀(p q:Int),(p==q)=decide (p=q):=fun p q=>by rw[Bool.eq_iff_iff];simp
  have hv:=ZHC _ hlt;by_cases h3:hi=0
  .by_cases h4:(n:Int) / 4294967296=65535
   .rw[hb,hb,decide_eq_true h3,decide_eq_true h4,cond_true,cond_true,hv];simp
   .rw[hb,hb,decide_eq_true h3,decide_eq_false h4,cond_true,cond_false];simp
  .rw[hb,decide_eq_false h3,cond_false];simp
 |false=>
  simp only[Zfw,Zek,cond_false,hm,ZHC _ hlt,Option.bind_some];congr 1;rw[Bool.eq_iff_iff];simp;constructor
  .rintro ⟨h5,h6⟩;exact⟨h5.symm,by omega⟩
  .rintro ⟨h5,h6⟩;exact⟨h5.symm,by omega⟩
theorem ZlR(a:Zaf)(h:a.ok):Zca a=some (Zek a):=by
 obtain⟨v,hi,lo⟩:=a;obtain⟨_,h1,h2,_⟩:=h;have h1:=ZmV h1;have h2:=ZmV h2;simp only at h1 h2;have hd:IntKind.u64.wrap (Int.tdiv lo 4294967296)=lo / 4294967296:=by
  rw[Int.tdiv_eq_ediv_of_nonneg h2.1];exact ZhV (by omega) (by omega)
 cases v with
 |true=>
  simp only[Zca,Zek,hd,Bool.not_true,cond_false,if_true];generalize lo / 4294967296=q;simp only[Bool.cond_eq_ite,beq_iff_eq,bne_iff_ne,ne_eq,decide_eq_true_eq,Bool.not_eq_true',Bool.not_eq_false',decide_eq_false_iff_not]
  repeat' split
  all_goals first|rfl | (rw[Option.some.injEq,Bool.eq_iff_iff];simp only[Bool.and_eq_true,Bool.not_eq_true',Bool.not_eq_false',Bool.and_eq_false_iff,decide_eq_true_eq,decide_eq_false_iff_not,beq_iff_eq,bne_iff_ne,ne_eq,iff_true,iff_false,true_iff,false_iff,Bool.false_eq_true,Bool.true_eq_false,not_true_eq_false,not_false_eq_true];omega)
 |false=>
  simp only[Zca,Zek,Bool.not_false,cond_true,Bool.false_eq_true,if_false];simp only[Bool.cond_eq_ite,beq_iff_eq,bne_iff_ne,ne_eq,decide_eq_true_eq,Bool.not_eq_true',Bool.not_eq_false',decide_eq_false_iff_not]
  repeat' split
  all_goals first|rfl | (rw[Option.some.injEq,Bool.eq_iff_iff];simp only[Bool.and_eq_true,Bool.not_eq_true',Bool.not_eq_false',Bool.and_eq_false_iff,decide_eq_true_eq,decide_eq_false_iff_not,beq_iff_eq,bne_iff_ne,ne_eq,iff_true,iff_false,true_iff,false_iff,Bool.false_eq_true,Bool.true_eq_false,not_true_eq_false,not_false_eq_true];omega)
theorem ZFD(a b:Zaf):Zfg a b=some (cmpA a b):=by
 obtain⟨v,hi,lo⟩:=a;obtain⟨v',cr,jT⟩:=b;simp only[Zfg,Zee,Zed,cmpA,famA,cmpI,orI,Zaf.mk.injEq];simp only[Bool.cond_eq_ite,bne_iff_ne,ne_eq,ite_not,decide_eq_true_eq,Bool.not_eq_true',beq_eq_false_iff_ne];cases v<;>cases v'<;>simp only[true_and,Bool.false_eq_true,Bool.true_eq_false,false_and,not_true_eq_false,not_false_eq_true,if_true,if_false,ite_true,ite_false,Bool.not_true,Bool.not_false]
 all_goals (repeat' split)<;>first|rfl|omega | (congr 1;omega)|simp_all
def ZmI(a:Zah):Bool:=Zek a.fAddr&&decide (1<=a.fPort)&&decide (a.fPort<=65535)
theorem ZCJ(a:Zah)(h:a.ok):Zlh a=some (ZmI a):=by
 simp only[Zlh,ZkP _ h.1,ZmI,Option.bind_some];generalize Zek a.fAddr=b;cases b<;>simp only[cond_true,cond_false,Bool.true_and,Bool.false_and];simp only[Bool.cond_eq_ite,beq_iff_eq,bne_iff_ne,ne_eq,decide_eq_true_eq,Bool.not_eq_true',Bool.not_eq_false',decide_eq_false_iff_not]
 repeat' split
 all_goals first|rfl | (rw[Option.some.injEq,Bool.eq_iff_iff];simp only[Bool.and_eq_true,Bool.not_eq_true',Bool.not_eq_false',Bool.and_eq_false_iff,decide_eq_true_eq,decide_eq_false_iff_not,beq_iff_eq,bne_iff_ne,ne_eq,iff_true,iff_false,true_iff,false_iff,Bool.false_eq_true,Bool.true_eq_false,not_true_eq_false,not_false_eq_true];omega)
theorem ZxN(a:Zah)(h:a.ok):ZfM a=some (ZmI a):=by
 simp only[ZfM,ZlR _ h.1,ZmI,Option.bind_some];generalize Zek a.fAddr=b;cases b<;>simp only[cond_true,cond_false,Bool.true_and,Bool.false_and];simp only[Bool.cond_eq_ite,beq_iff_eq,bne_iff_ne,ne_eq,decide_eq_true_eq,Bool.not_eq_true',Bool.not_eq_false',decide_eq_false_iff_not]
 repeat' split
 all_goals first|rfl | (rw[Option.some.injEq,Bool.eq_iff_iff];simp only[Bool.and_eq_true,Bool.not_eq_true',Bool.not_eq_false',Bool.and_eq_false_iff,decide_eq_true_eq,decide_eq_false_iff_not,beq_iff_eq,bne_iff_ne,ne_eq,iff_true,iff_false,true_iff,false_iff,Bool.false_eq_true,Bool.true_eq_false,not_true_eq_false,not_false_eq_true];omega)
def cmpE(a b:Zah):Int:=orI (cmpA a.fAddr b.fAddr) (cmpI a.fPort b.fPort)
theorem ZBB(a b:Zah):ZhT a b=some (cmpE a b):=by
 simp only[ZhT,ZGm,ZuA,or2,Option.bind_some,cmpE]
theorem ZAY(a b:Zah):Zea a b=some (cmpE a b):=by
 simp only[Zea,ZFD,Option.bind_some,cmpE,orI,cmpI];simp only[Bool.cond_eq_ite,bne_iff_ne,ne_eq,ite_not,decide_eq_true_eq,beq_iff_eq];generalize cmpA a.fAddr b.fAddr=c
 (repeat' split)<;>first|rfl|omega | (congr 1;omega)|simp_all
theorem ZEK{a b:Zah}:cmpE a b<0↔cmpA a.fAddr b.fAddr<0\/(a.fAddr=b.fAddr/\a.fPort<b.fPort):=by simp only[cmpE,ZDK,ZAz,ZuB]
theorem ZHr{a b:Zah}:0<cmpE a b↔0<cmpA a.fAddr b.fAddr\/(a.fAddr=b.fAddr/\b.fPort<a.fPort):=by simp only[cmpE,ZBe,Zxh,ZuB]
theorem ZpA{a b:Zah}:cmpE a b=0↔a=b:=by
 simp only[cmpE,ZBd,Zms,ZuB];obtain⟨x,p⟩:=a;obtain⟨y,q⟩:=b;simp
theorem ZrJ{a b:Zah}:0<cmpE a b↔cmpE b a<0:=by
 rw[ZHr,ZEK,ZEL];constructor<;>rintro (h|⟨h1,h2⟩)<;>first|exact .inl h|exact .inr ⟨h1.symm,h2⟩
theorem Zso{a b c:Zah}(h1:cmpE a b<0)(h2:cmpE b c<0):cmpE a c<0:=by
 rw[ZEK]at *
 rcases h1 with h1|⟨h1,h3⟩<;>rcases h2 with h2|⟨h2,h4⟩
 .exact .inl (ZCK h1 h2)
 .exact .inl (h2 ▸ h1)
 .exact .inl (h1 ▸ h2)
 .exact .inr ⟨h1.trans h2,by omega⟩
theorem Zuz(l:List Zah)(e:Zah)(hl:l.length<=maxLen):ZcB l e=some (l.contains e):=by
 simp only[ZcB,ZdW];have:=ZrW l Zah.d (fun x=>decide (e=x)) hl (fun fu i=>ZbD l fu (l.length:Int) i e) (fun i=>i) (fun fu i hi=>by
   simp only[ZbD,Zai];rw[if_pos (by omega),Zax ⟨by omega,by omega⟩];simp) (fun fu=>by
   simp only[ZbD,Zai];rw[if_neg (by omega)]) ((((l.length:Nat):Int)-(0:Int)).toNat+2) 0 (by omega) (by omega)
 simp only[Int.natCast_zero,List.drop_zero]at this;rw[this];simp only[Option.bind_some,Option.some.injEq];rw[Bool.eq_iff_iff,decide_eq_true_eq,List.contains_iff_mem];have hn:=ZpO (fun x=>decide (e=x)) l 0;constructor
 .intro h;obtain⟨k,h1,_,⟨x,h3,h4⟩,_⟩:=Zrh _ l 0 h;rw[of_decide_eq_true h4];exact List.mem_of_getElem? h3
 .intro h;apply Int.not_lt.1;intro h1;have:=hn.1 h1 e h;simp at this
def fitI(n:Int):Int:=if n<0 then 0 else if n>1099511627776 then 1099511627776 else n
theorem ZDm(n:Int):Zpi n=some (fitI n):=by
 unfold Zpi fitI;congr 1
 repeat' split
 all_goals omega
theorem ZDD(n:Int):ZgK n=some (fitI n):=by
 unfold ZgK fitI;simp only[Zai]
 repeat' split
 all_goals first|rfl|omega
def ZnV(l:List Zaa)(e:Zah):Int:=ixOf (fun x=>decide (x.fEnd=e)) l 0
theorem ZrQ(l:List Zaa)(e:Zah)(hl:l.length<=maxLen):Zij l e=some (ZnV l e):=by
 simp only[Zij,Zcz];have:=ZrW l Zaa.d (fun x=>decide (x.fEnd=e)) hl (fun fu i=>ZaW l e fu (l.length:Int) i) (fun i=>i) (fun fu i hi=>by
   simp only[ZaW,ZkT,Zai,Option.bind_some];rw[if_pos (by omega),Zax ⟨by omega,by omega⟩];simp) (fun fu=>by
   simp only[ZaW,Zai];rw[if_neg (by omega)]) ((((l.length:Nat):Int)-(0:Int)).toNat+2) 0 (by omega) (by omega)
 simp only[Int.natCast_zero,List.drop_zero]at this;rw[this];rfl
theorem Zty(l:List Zaa)(e:Zah)(hl:l.length<=maxLen):Zcx l e=some (ZnV l e):=by
 simp only[Zcx];have:=ZrW l Zaa.d (fun x=>decide (x.fEnd=e)) hl (fun fu i=>ZcF l fu i e) (fun i=>i) (fun fu i hi=>by
   simp only[ZcF,Zai];rw[if_pos (by omega),Zax ⟨by omega,by omega⟩];simp) (fun fu=>by
   simp only[ZcF,Zai];rw[if_neg (by omega)]) ((((l.length:Nat):Int)-(0:Int)).toNat+2) 0 (by omega) (by omega)
 simp only[Int.natCast_zero,List.drop_zero]at this;rw[this];rfl
theorem ZFR{α:Type}(p:α->Bool)(d:α)(l:List α)(hl:l.length<=maxLen)(F:Nat->Int->Int->List α->Option (List α))
  (hs:∀fu (k j:Nat) w,w.length=l.length->k<=j->j<w.length->F (fu+1) (k:Int) (j:Int) w=if p (w.getD j d)=true then F fu (k:Int) (Zar (j:Int) 1) w else F fu (Zar (k:Int) 1) (Zar (j:Int) 1) (w.set k (w.getD j d)))
  (he:∀fu (k:Nat) w,w.length=l.length->k<=w.length->F (fu+1) (k:Int) (w.length:Int) w=some (w.take k)) :
  ∀fu (k j:Nat) w,w.length=l.length->k<=j->j<=l.length->l.length-j<fu->w.take k=(l.take j).filter (fun x=>!p x)->w.drop j=l.drop j->F fu (k:Int) (j:Int) w=some (l.filter fun x=>!p x):=by
 intro fu;induction fu with
 |zero=>intro k j w _ _ _ h;omega
 |succ fu ih=>
  intro k j w hw kM hj hf ht hd;by_cases h:j<l.length
  .rw[hs fu k j w hw kM (by omega),add1 h hl];have hx:w.getD j d=l.getD j d:=by
    have:=congrArg (fun q:List α=>q.getD 0 d) hd;simpa[List.getD_eq_getElem?_getD]using this
   have dA:l.take (j+1)=l.take j++[l.getD j d]:=by
    rw[List.take_succ_eq_append_getElem h,ZdM l d j h]
   have hd1:w.drop (j+1)=l.drop (j+1):=by
    have:=congrArg (List.drop 1) hd;simpa[List.drop_drop,Nat.add_comm]using this
   by_cases hp:p (w.getD j d)=true
   .rw[if_pos hp];refine ih k (j+1) w hw (by omega) (by omega) (by omega) ?_ hd1;have kX:[w.getD j d].filter (fun x=>!p x)=[]:=by rw[List.filter_cons_of_neg (by rw[hp];decide)];rfl
    rw[dA,List.filter_append,ht,<-hx,kX,List.append_nil]
   .rw[if_neg hp,add1 (n:=l.length) (by omega) hl];refine ih (k+1) (j+1) _ (by simp[hw]) (by omega) (by omega) (by omega) ?_ ?_
    .rw[dA,List.filter_append,<-hx];have kX:[w.getD j d].filter (fun x=>!p x)=[w.getD j d]:=by rw[List.filter_cons_of_pos (by simpa using hp)];rfl
     rw[List.take_succ_eq_append_getElem (by simp;omega),List.take_set_of_le (by omega),ht,kX];simp
    .rw[List.drop_set_of_lt (by omega)];exact hd1
  .obtain rfl:j=l.length:=by omega
   have e:(l.length:Int)=(w.length:Int):=by rw[hw]
   rw[e,he fu k w hw (by omega),ht,List.take_length]
def ZqT(l:List Zaa)(ends:List Zah):List Zaa:=l.filter fun x=>!ends.contains x.fEnd
theorem ZAv(l:List Zaa)(ends:List Zah)(hl:l.length<=1000000)(hm:ends.length<=maxLen):ZbU l ends=some (ZqT l ends):=by
 have hL:l.length<=maxLen:=by unfold maxLen;omega
 have hx:ZbY l ends=some (ixOf (fun x=>ends.contains x.fEnd) l 0):=by
  simp only[ZbY];have:=ZrW l Zaa.d (fun x=>ends.contains x.fEnd) hL (fun fu i=>ZaU l ends fu (l.length:Int) i) (fun i=>i) (fun fu i hi=>by
    simp only[ZaU,ZhR,Zuz ends _ hm,Zai,Option.bind_some];rw[if_pos (by omega),Zax ⟨by omega,by omega⟩];simp only[Int.toNat_natCast];generalize ends.contains (l.getD i Zaa.d).fEnd=q;cases q<;>rfl) (fun fu=>by
    simp only[ZaU,Zai];rw[if_neg (by omega)]) ((((l.length:Nat):Int)-(0:Int)).toNat+2) 0 (by omega) (by omega)
  simp only[Int.natCast_zero,List.drop_zero]at this;rw[this]
 simp only[ZbU,hx,Option.bind_some];by_cases h:ixOf (fun x:Zaa=>ends.contains x.fEnd) l 0<0
 .have hn:=(ZpO _ l 0).1 h;have e:(ixOf (fun x:Zaa=>ends.contains x.fEnd) l 0 == -1)=true:=by
   have:=ZHe (fun x:Zaa=>ends.contains x.fEnd) l 0;rw[beq_iff_eq];omega
  rw[e,cond_true];congr 1;unfold ZqT;rw[List.filter_eq_self.2];intro x hx;rw[hn x hx];rfl
 .obtain⟨k,h1,h2,⟨x,h3,h4⟩,h5⟩:=Zrh (fun x:Zaa=>ends.contains x.fEnd) l 0 (by omega);have e:(ixOf (fun x:Zaa=>ends.contains x.fEnd) l 0 == -1)=false:=by
   rw[beq_eq_false_iff_ne];omega
  rw[e,cond_false,h2,Nat.zero_add,add1 h1 hL];refine ZFR (fun x:Zaa=>ends.contains x.fEnd) Zaa.d l hL (fun fu a b w=>ZaM ends fu a b w) ?_ ?_ _ k (k+1) l rfl (by omega) (by omega) (by omega) ?_ rfl
  .intro fu a b w hw hab hb;simp only[ZaM,ZhR,Zuz ends _ hm,Zai,Option.bind_some];rw[if_pos (by omega),Zax ⟨by omega,by omega⟩];simp only[Int.toNat_natCast];cases hq:ends.contains (w.getD b Zaa.d).fEnd
   .simp only[Bool.not_false,cond_true];rw[Zax ⟨by omega,by omega⟩,if_neg (by simp)]
   .simp only[Bool.not_true,cond_false];rw[if_pos trivial]
  .intro fu a w hw ha;simp only[ZaM,Zai];rw[if_neg (by omega),Zax ⟨by omega,by omega,by omega⟩];simp only[Int.toNat_natCast];rw[Zax (by omega),Zax ⟨by omega,by omega,by omega⟩,Zax (by rw[ZyP _ _ _ _ (by omega)];exact ha)];congr 1;simp only[ZkB,List.append_assoc];rw[List.take_append_of_le_length (by simp;omega),List.take_take,Nat.min_self]
  .rw[List.take_succ_eq_append_getElem h1,List.filter_append];have e1:(l.take k).filter (fun x=>!ends.contains x.fEnd)=l.take k:=by
    rw[List.filter_eq_self];intro y hy;obtain⟨j,hj,rfl⟩:=List.getElem_of_mem hy;have kc:j<k:=by simp at hj;omega
    obtain⟨z,hz1,cf⟩:=h5 j kc;have:(l.take k)[j]=z:=by
     rw[List.getElem_take];rw[List.getElem?_eq_getElem (by omega)]at hz1;exact Option.some.inj hz1
    rw[this,cf];rfl
   have e2:[l[k]].filter (fun x=>!ends.contains x.fEnd)=[]:=by
    rw[List.getElem?_eq_getElem h1]at h3;rw[Option.some.inj h3];rw[List.filter_cons_of_neg (by rw[h4];decide)];rfl
   rw[e1,e2,List.append_nil]
theorem ZCc(l:List Zaa)(ends:List Zah)(hl:l.length<=1000000)(hm:ends.length<=maxLen):ZjL l ends=some (ZqT l ends):=by
 unfold ZjL Zbf;rw[Zax ⟨by omega,by unfold maxLen;omega⟩];simp only[Option.bind_some,ZAv l ends hl hm]
theorem ZFX(l:List Zah)(e:Zah)(hl:l.length<=maxLen):ZgH l e=some (l.contains e):=by
 simp only[ZgH];have:=ZrW l Zah.d (fun x=>decide (x=e)) hl (fun fu i=>ZcX l fu i e) (fun i=>decide (0<=i)) (fun fu i hi=>by
   simp only[ZcX,Zai];rw[if_pos (by omega),Zax ⟨by omega,by omega⟩];simp) (fun fu=>by
   simp only[ZcX,Zai];rw[if_neg (by omega)];rfl) ((((l.length:Nat):Int)-(0:Int)).toNat+2) 0 (by omega) (by omega)
 simp only[Int.natCast_zero,List.drop_zero]at this;rw[this];congr 1;rw[Bool.eq_iff_iff,decide_eq_true_eq,List.contains_iff_mem];have hn:=ZpO (fun x=>decide (x=e)) l 0;constructor
 .intro h;obtain⟨k,h1,_,⟨x,h3,h4⟩,_⟩:=Zrh _ l 0 h;rw[<-of_decide_eq_true h4];exact List.mem_of_getElem? h3
 .intro h;apply Int.not_lt.1;intro h1;have:=hn.1 h1 e h;simp at this
theorem Ztt(l:List Zaa)(ends:List Zah):(ZqT l ends).length<=l.length:=List.length_filter_le _ _
theorem ZFA(l:List Zaa)(ends:List Zah)(hl:l.length<=1000000)(hm:ends.length<=maxLen):Zdv l ends=some (ZqT l ends):=by
 have hL:l.length<=maxLen:=by unfold maxLen;omega
 have az:∀fu (i:Nat) w,i<=l.length->l.length-i<fu->w=ZqT (l.take i) ends->ZcM l ends fu (i:Int) w=some (ZqT l ends):=by
  intro fu;induction fu with
  |zero=>intro i w _ h;omega
  |succ fu ih=>
   intro i w hi hf hw;simp only[ZcM,ZFX ends _ hm,Zai,Option.bind_some];by_cases h:i<l.length
   .rw[if_pos (by omega),Zax ⟨by omega,by omega⟩,add1 h hL];simp only[Int.toNat_natCast];have cd:ZqT (l.take (i+1)) ends=w++[l.getD i Zaa.d].filter (fun x=>!ends.contains x.fEnd):=by
     rw[hw];unfold ZqT;rw[List.take_succ_eq_append_getElem h,List.filter_append,ZdM l _ i h]
    have hwl:w.length<=1000000:=by
     rw[hw];have:=Ztt (l.take i) ends;simp at this;omega
    cases hq:ends.contains (l.getD i Zaa.d).fEnd
    .rw[List.filter_cons_of_pos (by rw[hq];rfl)]at cd;simp only[Bool.not_false,cond_true];rw[Zax ⟨by simp;omega,by simp[maxLen];omega⟩];exact ih (i+1) _ (by omega) (by omega) cd.symm
    .rw[List.filter_cons_of_neg (by rw[hq];decide)]at cd;simp only[Bool.not_true,cond_false];refine ih (i+1) _ (by omega) (by omega) ?_;rw[cd];simp
   .rw[if_neg (by omega),hw];have:i=l.length:=by omega
    rw[this,List.take_length]
 unfold Zdv;exact az _ 0 [] (by omega) (by omega) rfl
def wid(a:Zaf):Nat:=if a.fV6 then 128 else 32
def num(a:Zaf):Nat:=if a.fV6 then 2 ^ 64*a.fHi.toNat+a.fLo.toNat else a.fLo.toNat
def bitN(a:Zaf)(i:Nat):Bool:=(num a).testBit (wid a-1-i)
structure Fits (a:Zaf):Prop where
 hi0:0<=a.fHi
 hi1:a.fHi<=18446744073709551615
 lo0:0<=a.fLo
 lo1:a.fLo<=18446744073709551615
 v4:a.fV6=false->a.fHi=0/\a.fLo<4294967296
theorem Zoz{a:Zaf}(h:a.ok)(hr:Zek a=true):Fits a:=by
 have h1:=ZmV h.2.1;have h2:=ZmV h.2.2.1;refine⟨h1.1,h1.2,h2.1,h2.2,fun hv=>?_⟩;unfold Zek at hr;rw[hv]at hr;simpa using hr
theorem Fits.ok{a:Zaf}(h:Fits a):a.ok:=by
 refine⟨trivial,?_,?_,trivial⟩
 .have:=h.hi0;have:=h.hi1;simp only[okI,Lit.wf,IntKind.min,IntKind.max,IntKind.bits,IntKind.signed];simp;omega
 .have:=h.lo0;have:=h.lo1;simp only[okI,Lit.wf,IntKind.min,IntKind.max,IntKind.bits,IntKind.signed];simp;omega
theorem ZGy{a:Zaf}(h:Fits a):num a<2 ^ wid a:=by
 have:=h.hi0;have:=h.hi1;have:=h.lo0;have:=h.lo1;unfold num wid;cases hv:a.fV6
 .have:=h.v4 hv;simp only[Bool.false_eq_true,if_false];omega
 .simp only[if_true];omega
theorem ZrL{a b:Zaf}(ha:Fits a)(hb:Fits b)(hv:a.fV6=b.fV6)(h:∀i,i<wid a->bitN a i=bitN b i):a=b:=by
 have hn:num a=num b:=by
  apply Nat.eq_of_testBit_eq;intro j;have hw:wid a=wid b:=by unfold wid;rw[hv]
  by_cases hj:j<wid a
  .have:=h (wid a-1-j) (by omega);unfold bitN at this;rw[<-hw]at this;rw[show wid a-1-(wid a-1-j)=j by omega]at this;exact this
  .rw[Nat.testBit_lt_two_pow (Nat.lt_of_lt_of_le (ZGy ha) (Nat.pow_le_pow_right (by omega) (by omega))),Nat.testBit_lt_two_pow (Nat.lt_of_lt_of_le (ZGy hb) (Nat.pow_le_pow_right (by omega) (by omega)))]
 have:=ha.hi0;have:=ha.hi1;have:=ha.lo0;have:=ha.lo1;have:=hb.hi0;have:=hb.hi1;have:=hb.lo0;have:=hb.lo1;obtain⟨v,hi,lo⟩:=a;obtain⟨v',cr,jT⟩:=b;simp only at hv;subst hv;simp only[num]at hn;simp only[Zaf.mk.injEq,true_and];cases v
 .have:=ha.v4 rfl;have:=hb.v4 rfl;simp only[Bool.false_eq_true,if_false]at *
  omega
 .simp only[if_true]at *
  omega
theorem Zxm(n k T:Nat)(hk:k<=T)(h:n<2 ^ T):n &&& (2 ^ T-2 ^ k)=n-n % 2 ^ k:=by
 have h1:n-n % 2 ^ k=2 ^ k*(n / 2 ^ k):=by have:=Nat.div_add_mod n (2 ^ k);omega
 rw[h1];apply Nat.eq_of_testBit_eq;intro i;have h2:2 ^ T-2 ^ k=2 ^ k*(2 ^ (T-k)-1):=by
  rw[Nat.mul_sub,<-Nat.pow_add,Nat.mul_one];congr 2;omega
 rw[Nat.testBit_and,h2,Nat.testBit_two_pow_mul,Nat.testBit_two_pow_mul,Nat.testBit_two_pow_sub_one,Nat.testBit_div_two_pow];by_cases hi:k<=i
 .by_cases h3:i<T
  .simp[hi,show i-k<T-k by omega,show i-k+k=i by omega]
  .have:n.testBit i=false:=Nat.testBit_lt_two_pow (Nat.lt_of_lt_of_le h (Nat.pow_le_pow_right (by omega) (by omega)));simp[hi,this,show i-k+k=i by omega]
 .simp[hi]
theorem ZAw(n k j:Nat):(n-n % 2 ^ k).testBit j=(decide (k<=j)&&n.testBit j):=by
 have h1:n-n % 2 ^ k=2 ^ k*(n / 2 ^ k):=by have:=Nat.div_add_mod n (2 ^ k);omega
 rw[h1,Nat.testBit_two_pow_mul,Nat.testBit_div_two_pow];by_cases h:k<=j
 .simp[h,show j-k+k=j by omega]
 .simp[h]
theorem ZpT(a b:Nat)(ha:a<2 ^ 64)(hb:b<2 ^ 64):IntKind.u64.wrap (((BitVec.ofInt (IntKind.bits .u64) (a:Int)) &&& (BitVec.ofInt (IntKind.bits .u64) (b:Int))).toNat:Int)=((a &&& b:Nat):Int):=by
 rw[ZAF a b ha hb];have:a &&& b<2 ^ 64:=Nat.and_lt_two_pow _ hb;exact ZhV (by omega) (by omega)
theorem ZHD:∀n:Fin 65,Zfl ((n.val:Nat):Int)=some (((2 ^ 64-2 ^ (64-n.val):Nat)):Int):=by decide +kernel
theorem Zxy(n:Nat)(h:n<=64):Zfl ((n:Nat):Int)=some (((2 ^ 64-2 ^ (64-n):Nat)):Int):=ZHD ⟨n,by omega⟩
theorem Zxz(n:Int):Zfl n=Zfl (if(64:Int)<(if(0:Int)>n then(0:Int)else n)then(64:Int)else(if(0:Int)>n then(0:Int)else n)):=by
 unfold Zfl;have e:∀m:Int,0<=m->m<=64->(if(64:Int)<(if(0:Int)>m then(0:Int)else m)then(64:Int)else(if(0:Int)>m then(0:Int)else m))=m:=fun m h1 h2=>by
  repeat' split
  all_goals omega
 rw[e (if(64:Int)<(if(0:Int)>n then(0:Int)else n)then(64:Int)else(if(0:Int)>n then(0:Int)else n)) (by repeat' split<;>omega) (by repeat' split<;>omega)]
theorem ZGO(n:Int)(h:n<=0):Zfl n=some 0:=by
 rw[Zxz,show (if(64:Int)<(if(0:Int)>n then(0:Int)else n)then(64:Int)else(if(0:Int)>n then(0:Int)else n))=((0:Nat):Int)by repeat' split<;>omega,Zxy 0 (by omega)]
 rfl
theorem ZFl(n:Int)(h:64<=n):Zfl n=some 18446744073709551615:=by
 rw[Zxz,show (if(64:Int)<(if(0:Int)>n then(0:Int)else n)then(64:Int)else(if(0:Int)>n then(0:Int)else n))=((64:Nat):Int)by repeat' split<;>omega,Zxy 64 (by omega)]
 rfl
def ZjD(a:Zaf)(n:Nat):Zaf:=if a.fV6 then(if n<=64 then⟨true,((a.fHi.toNat-a.fHi.toNat % 2 ^ (64-n):Nat):Int),0⟩else⟨true,a.fHi,((a.fLo.toNat-a.fLo.toNat % 2 ^ (128-n):Nat):Int)⟩)else⟨false,a.fHi,((a.fLo.toNat-a.fLo.toNat % 2 ^ (32-n):Nat):Int)⟩
theorem ZDQ{a:Zaf}(h:a.ok)(hr:Zek a=true)(n:Nat)(hn:n<=wid a):ZhI a (n:Int)=some (ZjD a n):=by
 have hf:=Zoz h hr;have ff:=ZkP a h;have hA:=hf.hi0;have hB:=hf.hi1;have hC:=hf.lo0;have hD:=hf.lo1;obtain⟨v,hi,lo⟩:=a;obtain⟨p,hp⟩:=ZlV hf.hi0;obtain⟨q,hq⟩:=ZlV hf.lo0;simp only at hp hq hA hB hC hD;subst hp hq;cases v with
 |false=>
  have hv:=hf.v4 rfl;simp only at hv;have hn:n<=32:=hn;have cV:(if(32:Int)<(if(0:Int)>(n:Int)then(0:Int)else(n:Int))then(32:Int)else(if(0:Int)>(n:Int)then(0:Int)else(n:Int)))=(n:Int):=by repeat' split<;>omega
  simp only[ZhI,ff,hr,Option.bind_some,Bool.not_true,cond_false,ZdT,Bool.not_false,cond_true,cV,Zxy n (by omega)];have hp:(2:Nat) ^ (64-n)=2 ^ 32 * 2 ^ (32-n):=by rw[<-Nat.pow_add];congr 1;omega
  have aS:(2:Nat) ^ (32-n)<=2 ^ 32:=Nat.pow_le_pow_right (by omega) (by omega);have hp0:0<(2:Nat) ^ (32-n):=Nat.pow_pos (by omega);have hd:(2 ^ 64-2 ^ (64-n):Nat) / 4294967296=2 ^ 32-2 ^ (32-n):=by
   rw[hp];generalize (2:Nat) ^ (32-n)=z at *
   omega
  have e3:Int.fdiv ((2 ^ 64-2 ^ (64-n):Nat):Int) (2 ^ (min (32:Int).toNat (IntKind.bits .u64)))=((2 ^ 32-2 ^ (32-n):Nat):Int):=by
   rw[show (2:Int) ^ (min (32:Int).toNat (IntKind.bits .u64))=4294967296 from rfl,Int.fdiv_eq_ediv_of_nonneg _ (by omega),<-hd];rfl
  rw[e3,ZpT q _ (by omega) (by generalize (2:Nat) ^ (32-n)=z at *;omega),Zxm q (32-n) 32 (by omega) (by omega)];simp[ZjD]
 |true=>
  have hn:n<=128:=hn;have cV:(if(128:Int)<(if(0:Int)>(n:Int)then(0:Int)else(n:Int))then(128:Int)else(if(0:Int)>(n:Int)then(0:Int)else(n:Int)))=(n:Int):=by repeat' split<;>omega
  simp only[ZhI,ff,hr,Option.bind_some,Bool.not_true,cond_false,ZdT,cond_true,cV,Zks];have hs:ZaQ (n:Int) 64=(n:Int)-64:=Zes (by omega) (by omega);rw[hs];by_cases h64:n<=64
  .rw[Zxy n h64,ZGO _ (by omega)];simp only[Option.bind_some];rw[ZpT p _ (by omega) (by have:=Nat.pow_pos (a:=2) (n:=64-n) (by omega);omega),Zxm p (64-n) 64 (by omega) (by omega)];have:=ZpT q 0 (by omega) (by omega);rw[Nat.and_zero]at this;rw[show (0:Int)=((0:Nat):Int)from rfl,this];simp[ZjD,h64]
  .rw[ZFl _ (by omega),show (n:Int)-64=((n-64:Nat):Int)by omega,Zxy (n-64) (by omega)];simp only[Option.bind_some];have e1:=ZpT p 18446744073709551615 (by omega) (by omega);have e2:=Zxm p 0 64 (by omega) (by omega);rw[show (2:Nat) ^ 64-2 ^ 0=18446744073709551615 from rfl,Nat.pow_zero,Nat.mod_one,Nat.sub_zero]at e2;rw[e2]at e1;rw[show (18446744073709551615:Int)=((18446744073709551615:Nat):Int)from rfl,e1];rw[show 64-(n-64)=128-n by omega,ZpT q _ (by omega) (by have:=Nat.pow_pos (a:=2) (n:=128-n) (by omega);omega),Zxm q (128-n) 64 (by omega) (by omega)];simp[ZjD,h64]
theorem ZiB(a:Zaf)(n:Nat):(ZjD a n).fV6=a.fV6:=by
 unfold ZjD;cases h:a.fV6
 .rfl
 .simp only[if_true];split<;>rfl
theorem ZjJ{a:Zaf}(h:Fits a)(n:Nat):Fits (ZjD a n):=by
 have:=h.hi0;have:=h.hi1;have:=h.lo0;have:=h.lo1;have l:∀x y:Nat,x-x % y<=x:=fun x y=>Nat.sub_le _ _;have l1:=l a.fHi.toNat (2 ^ (64-n));have l2:=l a.fLo.toNat (2 ^ (128-n));have l3:=l a.fLo.toNat (2 ^ (32-n));unfold ZjD;cases hv:a.fV6
 .have:=h.v4 hv;simp only[Bool.false_eq_true,if_false];exact⟨by simp only;omega,by simp only;omega,by simp only;omega,by simp only;omega,fun _=>⟨this.1,by simp only;omega⟩⟩
 .simp only[if_true];split
  .exact⟨by simp only;omega,by simp only;omega,by simp only;omega,by simp only;omega,fun h=>by simp at h⟩
  .exact⟨by simp only;omega,by simp only;omega,by simp only;omega,by simp only;omega,fun h=>by simp at h⟩
theorem Zoe{hi lo j:Nat}(hl:lo<2 ^ 64):(2 ^ 64*hi+lo).testBit j=if j<64 then lo.testBit j else hi.testBit (j-64):=Nat.testBit_two_pow_mul_add hi hl j
theorem ZkZ{a:Zaf}(h:Fits a)(n i:Nat)(hn:n<=wid a)(hi:i<wid a):bitN (ZjD a n) i=(decide (i<n)&&bitN a i):=by
 have h1:=h.hi0;have h2:=h.hi1;have h3:=h.lo0;have h4:=h.lo1;unfold bitN;have hw:wid (ZjD a n)=wid a:=by unfold wid;rw[ZiB]
 rw[hw];unfold wid at hn hi ⊢;unfold num ZjD;cases hv:a.fV6
 .simp only[hv,Bool.false_eq_true,if_false]at *
  rw[Int.toNat_natCast,ZAw];congr 1;rw[decide_eq_decide];omega
 .simp only[hv,if_true]at *
  have jn:a.fLo.toNat<2 ^ 64:=by omega
  by_cases h64:n<=64
  .simp only[h64,if_true,Int.toNat_natCast];rw[Zoe (by simp),Zoe jn];by_cases hj:128-1-i<64
   .simp only[hj,if_true];rw[show (decide (i<n))=false by rw[decide_eq_false_iff_not];omega];simp
   .simp only[hj,if_false];rw[ZAw];congr 1;rw[decide_eq_decide];omega
  .simp only[h64,if_false,if_true,Int.toNat_natCast];rw[Zoe (Nat.lt_of_le_of_lt (Nat.sub_le _ _) jn),Zoe jn];by_cases hj:128-1-i<64
   .simp only[hj,if_true];rw[ZAw];congr 1;rw[decide_eq_decide];omega
   .simp only[hj,if_false];rw[show (decide (i<n))=true by rw[decide_eq_true_eq];omega];simp
theorem ZCs{a:Zaf}(h:Fits a)(hr:Zek a=true)(n:Nat):Zek (ZjD a n)=true:=by
 have h1:=h.hi0;have h2:=h.hi1;have h3:=h.lo0;have h4:=h.lo1;unfold ZjD;cases hv:a.fV6
 .have:=h.v4 hv;have l3:a.fLo.toNat-a.fLo.toNat % 2 ^ (32-n)<=a.fLo.toNat:=Nat.sub_le _ _;simp[Zek,this.1];omega
 .simp only[if_true];split
  .simp[Zek]
  .rename_i h64;unfold Zek at hr ⊢;rw[hv]at hr;simp only[if_true,Bool.not_eq_true',Bool.and_eq_false_iff,decide_eq_false_iff_not]at hr ⊢;rcases hr with hr|hr
   .exact .inl hr
   .refine .inr fun e=>hr ?_;have e':(a.fLo.toNat-a.fLo.toNat % 2 ^ (128-n)) / 4294967296=65535:=by omega
    have hx:a.fLo.toNat-a.fLo.toNat % 2 ^ (128-n)=2 ^ (128-n)*(a.fLo.toNat / 2 ^ (128-n)):=by have:=Nat.div_add_mod a.fLo.toNat (2 ^ (128-n));omega
    rw[hx]at e';by_cases hk:128-n<=32
    .have hp:(4294967296:Nat)=2 ^ (128-n) * 2 ^ (32-(128-n)):=by
      rw[<-Nat.pow_add,show 128-n+(32-(128-n))=32 by omega]
     rw[hp,Nat.mul_div_mul_left _ _ (Nat.pow_pos (by omega)),Nat.div_div_eq_div_mul,<-hp]at e';omega
    .have hp:(2:Nat) ^ (128-n)=4294967296*(2 * 2 ^ (128-n-33)):=by
      rw[show (4294967296:Nat)*(2 * 2 ^ (128-n-33))=2 ^ 33 * 2 ^ (128-n-33)by omega,<-Nat.pow_add];congr 1;omega
     rw[hp,Nat.mul_assoc,Nat.mul_div_cancel_left _ (by omega),Nat.mul_assoc]at e';omega
def Zic(p:Zap):Bool:=Zek p.fAddr&&decide (0<=p.fBits)&&decide (p.fBits<=(wid p.fAddr:Int))&&decide (ZjD p.fAddr p.fBits.toNat=p.fAddr)
structure RN (p:Zap):Prop where
 ok:p.fAddr.ok
 right:Zek p.fAddr=true
 nn:0<=p.fBits
 le:p.fBits<=(wid p.fAddr:Int)
 cut:ZjD p.fAddr p.fBits.toNat=p.fAddr
theorem RN.fits{p:Zap}(h:RN p):Fits p.fAddr:=Zoz h.ok h.right
theorem Zvw{p:Zap}(h:p.fAddr.ok):Zic p=true↔RN p:=by
 unfold Zic;simp only[Bool.and_eq_true,decide_eq_true_eq];exact⟨fun⟨⟨⟨a,b⟩,c⟩,d⟩=>⟨h,a,b,c,d⟩,fun⟨_,a,b,c,d⟩=>⟨⟨⟨a,b⟩,c⟩,d⟩⟩
theorem ZAE(a:Zaf):ZdT a=some (wid a:Int):=by
 unfold ZdT wid;cases a.fV6<;>rfl
theorem ZzO(a:Zaf)(h:a.ok)(n:Int):ZfD a n=some (if Zek a=true/\0<=n/\n<=(wid a:Int)then(⟨ZjD a n.toNat,n⟩,true)else(⟨⟨false,0,0⟩,0⟩,false)):=by
 simp only[ZfD,ZkP a h,ZAE,Option.bind_some,Zai];cases hr:Zek a
 .simp
 .simp only[Bool.not_true,cond_false,true_and];by_cases h0:n<0
  .rw[if_pos h0,if_neg (by omega)]
  .rw[if_neg h0];by_cases h1:n>(wid a:Int)
   .rw[if_pos h1,if_neg (by omega)]
   .rw[if_neg h1,if_pos (by omega)];have:=ZDQ h hr n.toNat (by omega);rw[Int.toNat_of_nonneg (by omega)]at this;rw[this];rfl
theorem ZnX(p:Zap)(h:p.fAddr.ok):Zhr p=some (Zic p):=by
 simp only[Zhr,ZzO _ h,Option.bind_some];unfold Zic;split
 .rename_i hh;simp only[cond_true,hh.1,hh.2.1,hh.2.2,decide_true,Bool.true_and,Option.some.injEq];rw[decide_eq_decide];obtain⟨x,n⟩:=p;simp
 .rename_i hh;simp only[cond_false,Option.some.injEq];rw[eq_comm,Bool.eq_false_iff];intro hq;simp only[Bool.and_eq_true,decide_eq_true_eq]at hq;exact hh ⟨hq.1.1.1,hq.1.1.2,hq.1.2⟩
def bs(p:Zap):List Bool:=(List.range p.fBits.toNat).map (bitN p.fAddr)
theorem ZGH(p:Zap):(bs p).length=p.fBits.toNat:=by simp[bs]
theorem ZGI(p:Zap)(i:Nat)(h:i<p.fBits.toNat):(bs p)[i]?=some (bitN p.fAddr i):=by simp[bs,h]
theorem ZDt{p:Zap}(h:RN p)(i:Nat)(hi:i<wid p.fAddr)(hn:p.fBits.toNat<=i):bitN p.fAddr i=false:=by
 have h1:=ZkZ h.fits p.fBits.toNat i (by have:=h.le;omega) hi;rw[h.cut]at h1;rw[h1];rw[show decide (i<p.fBits.toNat)=false by rw[decide_eq_false_iff_not];omega];rfl
theorem ZHM{p q:Zap}(hp:RN p)(hq:RN q)(hv:p.fAddr.fV6=q.fAddr.fV6)(hb:bs p=bs q):p=q:=by
 have hw:wid p.fAddr=wid q.fAddr:=by unfold wid;rw[hv]
 have hn:p.fBits=q.fBits:=by
  have:=congrArg List.length hb;rw[ZGH,ZGH]at this;have:=hp.nn;have:=hq.nn;omega
 have ha:p.fAddr=q.fAddr:=by
  refine ZrL hp.fits hq.fits hv fun i hi=>?_;by_cases h:i<p.fBits.toNat
  .have h1:=ZGI p i h;rw[hb,ZGI q i (by omega)]at h1;exact(Option.some.inj h1).symm
  .rw[ZDt hp i hi (by omega),ZDt hq i (by omega) (by omega)]
 obtain⟨x,n⟩:=p;obtain⟨y,m⟩:=q;simp only at hn ha;rw[hn,ha]
theorem ZGV{a:Zaf}(h:a.ok)(hr:Zek a=true)(n:Nat)(hn:n<=wid a):RN ⟨ZjD a n,(n:Int)⟩/\bs ⟨ZjD a n,(n:Int)⟩=(List.range n).map (bitN a):=by
 have hf:=Zoz h hr;have hw:wid (ZjD a n)=wid a:=by unfold wid;rw[ZiB]
 refine⟨⟨(ZjJ hf n).ok,ZCs hf hr n,by simp only;omega,by simp only;omega,?_⟩,?_⟩
 .simp only[Int.toNat_natCast];refine ZrL (ZjJ (ZjJ hf n) n) (ZjJ hf n) (ZiB _ _) fun i hi=>?_;have hi:i<wid a:=by unfold wid at hi ⊢;rwa [ZiB,ZiB]at hi
  rw[ZkZ (ZjJ hf n) n i (by omega) (by omega),ZkZ hf n i hn hi];cases decide (i<n)<;>simp
 .unfold bs;simp only[Int.toNat_natCast];apply List.map_congr_left;intro i hi;have hi:i<n:=by simpa using hi
  rw[ZkZ hf n i hn (by omega),show decide (i<n)=true by rw[decide_eq_true_eq];exact hi];rfl
theorem ZHW(p:Zap)(a:Zaf)(hp:RN p)(ha:a.ok):ZnT p a=some (Zek a&&decide (p.fAddr.fV6=a.fV6)&&decide (∀i,i<p.fBits.toNat->bitN a i=bitN p.fAddr i)):=by
 have hrc:=(Zvw hp.ok).2 hp;simp only[ZnT,ZnX p hp.ok,hrc,ZkP a ha,Option.bind_some,cond_true];cases hr:Zek a
 .rfl
 .simp only[cond_true,Bool.true_and];by_cases hv:p.fAddr.fV6=a.fV6
  .have hw:wid p.fAddr=wid a:=by unfold wid;rw[hv]
   have hm:=ZDQ ha hr p.fBits.toNat (by have:=hp.le;omega);rw[Int.toNat_of_nonneg hp.nn]at hm;have hf:=Zoz ha hr;rw[show (p.fAddr.fV6==a.fV6)=true by simp[hv],cond_true,hm,decide_eq_true hv];simp only[Option.bind_some,Bool.true_and,Option.some.injEq];rw[decide_eq_decide];have hle:p.fBits.toNat<=wid a:=by have:=hp.le;omega
   constructor
   .intro e i hi;have h1:=ZkZ hf p.fBits.toNat i hle (by omega);rw[e,decide_eq_true hi]at h1;simpa using h1.symm
   .intro h;refine ZrL (ZjJ hf _) hp.fits (by rw[ZiB];exact hv.symm) fun i hi=>?_;have hi:i<wid a:=by unfold wid at hi ⊢;rwa [ZiB]at hi
    rw[ZkZ hf p.fBits.toNat i hle hi];by_cases hb:i<p.fBits.toNat
    .rw[decide_eq_true hb,h i hb];rfl
    .rw[decide_eq_false hb,ZDt hp i (by omega) (by omega)];rfl
  .rw[show (p.fAddr.fV6==a.fV6)=false by simp[hv],cond_false,decide_eq_false hv];rfl
theorem Zsp(n k:Nat)(hk:k<64)(hn:n<2 ^ 64):IntKind.i64.wrap (IntKind.u64.wrap (((BitVec.ofInt (IntKind.bits .u64) (Int.fdiv (n:Int) (2 ^ (min ((k:Nat):Int).toNat (IntKind.bits .u64))))) &&& (BitVec.ofInt (IntKind.bits .u64) (1:Int))).toNat:Int))=if n.testBit k then 1 else 0:=by
 rw[Int.toNat_natCast,show min k (IntKind.bits .u64)=k from Nat.min_eq_left (by simp[IntKind.bits];omega)];have e:Int.fdiv (n:Int) (2 ^ k)=((n / 2 ^ k:Nat):Int):=by
  rw[Int.fdiv_eq_ediv_of_nonneg _ (by have:(0:Int)<2 ^ k:=Int.pow_pos (by omega);omega)];simp
 have h1:n / 2 ^ k<2 ^ 64:=Nat.lt_of_le_of_lt (Nat.div_le_self _ _) hn;rw[e,show (1:Int)=((1:Nat):Int)from rfl,ZpT _ 1 h1 (by omega),Nat.and_one_is_mod,Nat.testBit_eq_decide_div_mod_eq];have h2:n / 2 ^ k % 2<2:=Nat.mod_lt _ (by omega);have h3:IntKind.i64.wrap ((n / 2 ^ k % 2:Nat):Int)=((n / 2 ^ k % 2:Nat):Int):=by
  simp only[IntKind.wrap,IntKind.bits,IntKind.signed];simp;omega
 rw[h3];simp only[decide_eq_true_eq];split<;>omega
theorem ZFa{a:Zaf}(h:Fits a)(i:Nat)(hi:i<wid a):Zhp a (i:Int)=some (if bitN a i then 1 else 0):=by
 have h1:=h.hi0;have h2:=h.hi1;have h3:=h.lo0;have h4:=h.lo1;obtain⟨v,cr,lo⟩:=a;obtain⟨p,hp⟩:=ZlV h.hi0;obtain⟨q,hq⟩:=ZlV h.lo0;simp only at hp hq h1 h2 h3 h4;subst hp hq;cases v with
 |false=>
  have hi:i<32:=hi;have hv:=h.v4 rfl;simp only at hv;have e:ZaQ (ZaQ (32:Int) 1) (i:Int)=((31-i:Nat):Int):=by rw[show ZaQ (32:Int) 1=31 from rfl,Zes (by omega) (by omega)];omega
  simp only[Zhp,ZdT,cond_false,Option.bind_some,Zai,e];rw[if_neg (by omega),if_neg (by omega),if_neg (by omega),Zax (by omega),Zsp q _ (by omega) (by omega)];rfl
 |true=>
  have hi:i<128:=hi;have e:ZaQ (ZaQ (128:Int) 1) (i:Int)=((127-i:Nat):Int):=by rw[show ZaQ (128:Int) 1=127 from rfl,Zes (by omega) (by omega)];omega
  simp only[Zhp,ZdT,cond_true,Option.bind_some,Zai,e];rw[if_neg (by omega),if_neg (by omega)];have hb:bitN ⟨true,(p:Int),(q:Int)⟩ i=if 127-i<64 then q.testBit (127-i)else p.testBit (127-i-64):=by
   unfold bitN num wid;simp only[if_true,Int.toNat_natCast];rw[Zoe (by omega)]
  rw[hb];by_cases h64:i<64
  .have e2:ZaQ ((127-i:Nat):Int) 64=((127-i-64:Nat):Int):=by rw[Zes (by omega) (by omega)];omega
   rw[if_pos (by omega),e2,Zax (by omega),Zsp p _ (by omega) (by omega),if_neg (show ¬127-i<64 by omega)]
  .rw[if_neg (by omega),Zax (by omega),Zsp q _ (by omega) (by omega),if_pos (show 127-i<64 by omega)]
theorem Zwg{p:Zap}(h:RN p)(i:Nat)(hi:i<wid p.fAddr):ZhP p (i:Int)=some (if bitN p.fAddr i then 1 else 0):=by
 simp only[ZhP,ZFa h.fits i hi,Option.bind_some]
def Len(z r:Nat):Prop:=z<2 ^ r/\(0<r->2 ^ (r-1)<=z)
theorem ZtT{z r:Nat}(k:Nat)(hz:2 ^ k<=z)(h:Len (z / 2 ^ k) r):Len z (r+k)/\0<r:=by
 have hk:0<2 ^ k:=Nat.pow_pos (by omega);have h1:1<=z / 2 ^ k:=(Nat.le_div_iff_mul_le hk).2 (by omega);have hr:0<r:=by
  rcases Nat.eq_zero_or_pos r with e|e
  .subst e;have:=h.1;simp at this;omega
  .exact e
 refine⟨⟨?_,fun _=>?_⟩,hr⟩
 .rw[Nat.pow_add];exact(Nat.div_lt_iff_lt_mul hk).1 h.1
 .have:=(Nat.le_div_iff_mul_le hk).1 (h.2 hr);rw[<-Nat.pow_add]at this;rwa [show r+k-1=r-1+k by omega]
set_option maxRecDepth 100000 in
theorem ZHT:∃T:ByteArray,T.size=256/\(∀i:Fin 256,i.val<2 ^ ZkH T i.val/\(0<ZkH T i.val->2 ^ (ZkH T i.val-1)<=i.val)/\ZkH T i.val<=8)/\∀v0 v2:Int,ZeM v0 v2 =
  bif(decide (v0>=(256:Int)))then
   need (0<=(IntKind.wrap .u8 (Int.fdiv v0 (2 ^ (min (8:Int).toNat (IntKind.bits .u64)))))/\(IntKind.wrap .u8 (Int.fdiv v0 (2 ^ (min (8:Int).toNat (IntKind.bits .u64)))))<((T.size:Nat):Int)) <|
   some (Zar (Zar v2 (8:Int)) (IntKind.wrap .i64 ((ZkH T (IntKind.wrap .u8 (Int.fdiv v0 (2 ^ (min (8:Int).toNat (IntKind.bits .u64))))).toNat:Nat):Int)))
  else
   need (0<=(IntKind.wrap .u8 v0)/\(IntKind.wrap .u8 v0)<((T.size:Nat):Int)) <|
   some (Zar v2 (IntKind.wrap .i64 ((ZkH T (IntKind.wrap .u8 v0).toNat:Nat):Int))):=by
 refine⟨_,?_,?_,fun v0 v2=>rfl⟩
 .rfl
 .decide +kernel
theorem ZDb{a:Int}(h:0<=a)(h':a<256):IntKind.u8.wrap a=a:=by
 simp only[IntKind.wrap,IntKind.bits,IntKind.signed];simp;omega
theorem Zxv{a:Int}(h:0<=a)(h':a<256):IntKind.i64.wrap a=a:=by
 simp only[IntKind.wrap,IntKind.bits,IntKind.signed];simp;omega
theorem ZHV(z v:Nat)(hz:z<65536)(hv:v<=1000):∃r,Len z r/\r<=16/\ZeM (z:Int) (v:Int)=some ((v+r:Nat):Int):=by
 obtain⟨T,hT,hi,he⟩:=ZHT;rw[he,Zai,hT];by_cases h:256<=z
 .rw[if_pos (by omega)];have e:Int.fdiv (z:Int) (2 ^ (min (8:Int).toNat (IntKind.bits .u64)))=((z / 256:Nat):Int):=by
   rw[show (2:Int) ^ (min (8:Int).toNat (IntKind.bits .u64))=256 from rfl,Int.fdiv_eq_ediv_of_nonneg _ (by omega)];rfl
  obtain⟨h1,h2,h3⟩:=hi ⟨z / 256,by omega⟩;simp only at h1 h2 h3;rw[e,ZDb (by omega) (by omega),Zax (by omega),Int.toNat_natCast,Zxv (by omega) (by omega)];obtain⟨h4,h5⟩:=ZtT (z:=z) (r:=ZkH T (z / 256)) 8 (by omega) ⟨by rw[show (2:Nat) ^ 8=256 from rfl];exact h1,by rw[show (2:Nat) ^ 8=256 from rfl];exact h2⟩;refine⟨_,h4,by omega,?_⟩;rw[Zdg (a:=(v:Int)) (by omega) (by omega),Zdg (by omega) (by omega)];congr 1;omega
 .rw[if_neg (by omega)];obtain⟨h1,h2,h3⟩:=hi ⟨z,by omega⟩;simp only at h1 h2 h3;rw[ZDb (by omega) (by omega),Zax (by omega),Int.toNat_natCast,Zxv (by omega) (by omega)];refine⟨_,⟨h1,h2⟩,by omega,?_⟩;rw[Zdg (by omega) (by omega)];congr 1
theorem ZHU(z v:Nat)(hz:z<4294967296)(hv:v<=900):∃r,Len z r/\r<=32/\ZeN (z:Int) (v:Int)=some ((v+r:Nat):Int):=by
 simp only[ZeN,Zai];by_cases h:65536<=z
 .rw[if_pos (by omega)];have e:Int.fdiv (z:Int) (2 ^ (min (16:Int).toNat (IntKind.bits .u64)))=((z / 65536:Nat):Int):=by
   rw[show (2:Int) ^ (min (16:Int).toNat (IntKind.bits .u64))=65536 from rfl,Int.fdiv_eq_ediv_of_nonneg _ (by omega)];rfl
  rw[e,show Zar (v:Int) 16=((v+16:Nat):Int)by rw[Zdg (by omega) (by omega)];omega];obtain⟨r,h1,h2,h3⟩:=ZHV (z / 65536) (v+16) (by omega) (by omega);obtain⟨h4,_⟩:=ZtT (z:=z) 16 (by omega) (by rw[show (2:Nat) ^ 16=65536 from rfl];exact h1);exact⟨r+16,h4,by omega,by rw[h3];congr 2;omega⟩
 .rw[if_neg (by omega)];obtain⟨r,h1,h2,h3⟩:=ZHV z v (by omega) (by omega);exact⟨r,h1,by omega,h3⟩
theorem len64(z:Nat)(hz:z<2 ^ 64):∃r,Len z r/\r<=64/\Zhk (z:Int)=some ((r:Nat):Int):=by
 simp only[Zhk,Zai];by_cases h:4294967296<=z
 .rw[if_pos (by omega)];have e:Int.fdiv (z:Int) (2 ^ (min (32:Int).toNat (IntKind.bits .u64)))=((z / 4294967296:Nat):Int):=by
   rw[show (2:Int) ^ (min (32:Int).toNat (IntKind.bits .u64))=4294967296 from rfl,Int.fdiv_eq_ediv_of_nonneg _ (by omega)];rfl
  rw[e];obtain⟨r,h1,h2,h3⟩:=ZHU (z / 4294967296) 32 (by omega) (by omega);obtain⟨h4,_⟩:=ZtT (z:=z) 32 (by omega) (by rw[show (2:Nat) ^ 32=4294967296 from rfl];exact h1);exact⟨r+32,h4,by omega,by rw[show (32:Int)=((32:Nat):Int)from rfl,h3];congr 2;omega⟩
 .rw[if_neg (by omega)];obtain⟨r,h1,h2,h3⟩:=ZHU z 0 (by omega) (by omega);exact⟨r,h1,by omega,by rw[show (0:Int)=((0:Nat):Int)from rfl,h3];congr 2;omega⟩
theorem ZDa(a b:Nat)(ha:a<2 ^ 64)(hb:b<2 ^ 64):IntKind.u64.wrap (((BitVec.ofInt (IntKind.bits .u64) (a:Int)) ^^^ (BitVec.ofInt (IntKind.bits .u64) (b:Int))).toNat:Int)=((a ^^^ b:Nat):Int):=by
 have h1:∀c:Nat,c<2 ^ 64->(BitVec.ofInt 64 (c:Int)).toNat=c:=fun c hc=>by
  rw[BitVec.ofInt_natCast,BitVec.toNat_ofNat];exact Nat.mod_eq_of_lt hc
 have h2:((BitVec.ofInt (IntKind.bits .u64) (a:Int)) ^^^ (BitVec.ofInt (IntKind.bits .u64) (b:Int))).toNat=a ^^^ b:=by
  show (BitVec.ofInt 64 (a:Int) ^^^ BitVec.ofInt 64 (b:Int)).toNat=a ^^^ b;rw[BitVec.toNat_xor,h1 a ha,h1 b hb]
 rw[h2];have:a ^^^ b<2 ^ 64:=Nat.xor_lt_two_pow ha hb;exact ZhV (by omega) (by omega)
theorem lead(a b:Nat)(ha:a<2 ^ 64)(hb:b<2 ^ 64):∃k,k<=64/\ZcZ ((a ^^^ b:Nat):Int)=some ((k:Nat):Int)/\(∀j,64-k<=j->a.testBit j=b.testBit j)/\(k<64->a.testBit (63-k)≠b.testBit (63-k))/\(k=64↔a ^^^ b=0):=by
 have hx:a ^^^ b<2 ^ 64:=Nat.xor_lt_two_pow ha hb;obtain⟨r,h1,h2,h3⟩:=len64 (a ^^^ b) hx;refine⟨64-r,by omega,?_,fun j hj=>?_,fun hk=>?_,?_⟩
 .simp only[ZcZ,h3,Option.bind_some];rw[Zes (by omega) (by omega)];congr 1;omega
 .have h4:(a ^^^ b).testBit j=false:=Nat.testBit_lt_two_pow (Nat.lt_of_lt_of_le h1.1 (Nat.pow_le_pow_right (by omega) (by omega)));rw[Nat.testBit_xor]at h4
  revert h4
  cases a.testBit j<;>cases b.testBit j<;>simp
 .have h4:(a ^^^ b).testBit (r-1)=true:=by
   have h5:=h1.2 (by omega);have h6:a ^^^ b<2 ^ (r-1) * 2:=by rw[<-Nat.pow_succ,show (r-1).succ=r by omega];exact h1.1
   rw[Nat.testBit_eq_decide_div_mod_eq,decide_eq_true_eq];have h7:(a ^^^ b) / 2 ^ (r-1)=1:=by
    have hp:0<2 ^ (r-1):=Nat.pow_pos (by omega);have:=(Nat.le_div_iff_mul_le hp).2 (show 1 * 2 ^ (r-1)<=a ^^^ b by omega);have:=(Nat.div_lt_iff_lt_mul hp).2 (show a ^^^ b<2 * 2 ^ (r-1)by omega);omega
   rw[h7]
  rw[show 63-(64-r)=r-1 by omega];rw[Nat.testBit_xor]at h4
  revert h4
  cases a.testBit (r-1)<;>cases b.testBit (r-1)<;>simp
 .constructor
  .intro e;have:r=0:=by omega
   subst this;have:=h1.1;simpa using this
  .intro e;rw[e]at h1;rcases Nat.eq_zero_or_pos r with h|h
   .omega
   .have:=h1.2 h;have:0<2 ^ (r-1):=Nat.pow_pos (by omega);omega
theorem ZEH{p q:Zap}(hp:RN p)(hq:RN q)(hv:p.fAddr.fV6=q.fAddr.fV6) :
  ∃k:Nat,Zka p q=some (k:Int)/\k<=p.fBits.toNat/\k<=q.fBits.toNat/\(∀i,i<k->bitN p.fAddr i=bitN q.fAddr i)/\(k<p.fBits.toNat->k<q.fBits.toNat->bitN p.fAddr k≠bitN q.fAddr k):=by
 have fp:=hp.fits;have fq:=hq.fits;have a1:=fp.hi0;have a2:=fp.hi1;have a3:=fp.lo0;have a4:=fp.lo1;have b1:=fq.hi0;have b2:=fq.hi1;have b3:=fq.lo0;have b4:=fq.lo1;have n1:=hp.nn;have n2:=hq.nn;have l1:=hp.le;have l2:=hq.le;have kY:=fp.v4;have kZ:=fq.v4;clear hp hq fp fq;obtain⟨⟨v,hi,lo⟩,n⟩:=p;obtain⟨⟨v',cr,jT⟩,n'⟩:=q;simp only at hv a1 a2 a3 a4 b1 b2 b3 b4 n1 n2 kY kZ;subst hv;obtain⟨x,rfl⟩:=ZlV a1;obtain⟨y,rfl⟩:=ZlV a3;obtain⟨x',rfl⟩:=ZlV b1;obtain⟨y',rfl⟩:=ZlV b3;obtain⟨n,rfl⟩:=ZlV n1;obtain⟨n',rfl⟩:=ZlV n2;have cV:(if(n':Int)<(n:Int)then(n':Int)else(n:Int))=((min n n':Nat):Int):=by split<;>omega
 have k6:∀k:Nat,(if((min n n':Nat):Int)<(k:Int)then((min n n':Nat):Int)else(k:Int))=((min k (min n n'):Nat):Int):=fun k=>by split<;>omega
 obtain⟨k1,c1,c2,c3,c4,c5⟩:=lead x x' (by omega) (by omega);obtain⟨k2,d1,d2,d3,d4,d5⟩:=lead y y' (by omega) (by omega);simp only[Zka,ZDa x x' (by omega) (by omega),ZDa y y' (by omega) (by omega),c2,d2,Option.bind_some,cV]
 -- what is to be shown of a number
 have cj:∀k:Nat,(∀i,i<k->i<wid ⟨v,x,y⟩->bitN ⟨v,x,y⟩ i=bitN ⟨v,x',y'⟩ i)->(k<wid ⟨v,x,y⟩->bitN ⟨v,x,y⟩ k≠bitN ⟨v,x',y'⟩ k) ->
   (min k (min n n'))<=n/\(min k (min n n'))<=n'/\(∀i,i<min k (min n n')->bitN ⟨v,x,y⟩ i=bitN ⟨v,x',y'⟩ i)/\((min k (min n n'))<n->(min k (min n n'))<n'->bitN ⟨v,x,y⟩ (min k (min n n'))≠bitN ⟨v,x',y'⟩ (min k (min n n'))):=by
  intro k h1 h2;simp only at l1 l2;refine⟨by omega,by omega,fun i hi=>h1 i (by omega) (by omega),fun h3 h4=>?_⟩;have e:min k (min n n')=k:=by omega
  rw[e];exact h2 (by omega)
 cases v with
 |false=>
  have e1:=(kY rfl).1;have e2:=(kZ rfl).1;have e3:=(kY rfl).2;have e4:=(kZ rfl).2;have gK:x ^^^ x'=0:=by rw[show x=x' by omega,Nat.xor_self]
  have hk2:32<=k2:=by
   rcases Nat.lt_or_ge k2 32 with h|h
   .exfalso;apply d4 (by omega);rw[Nat.testBit_lt_two_pow (Nat.lt_of_lt_of_le (show y<2 ^ 32 by omega) (Nat.pow_le_pow_right (by omega) (by omega))),Nat.testBit_lt_two_pow (Nat.lt_of_lt_of_le (show y'<2 ^ 32 by omega) (Nat.pow_le_pow_right (by omega) (by omega)))]
   .exact h
  rw[gK,show (((0:Nat):Int)==0)=true from rfl,cond_true];have e5:ZaQ (Zar 64 (k2:Int)) (ZaQ 128 32)=((k2-32:Nat):Int):=by
   rw[Zdg (by omega) (by omega),show ZaQ (128:Int) 32=96 from rfl,Zes (by omega) (by omega)];omega
  simp only[ZfB,Bool.not_false,cond_true,ZdT,cond_false,Option.bind_some,e5,k6];refine⟨_,rfl,?_⟩;refine cj (k2-32) (fun i h1 h2=>?_) (fun h=>?_)
  .have h2:i<32:=h2;show (y.testBit (32-1-i))=(y'.testBit (32-1-i));exact d3 _ (by omega)
  .have h:k2-32<32:=h;show (y.testBit (32-1-(k2-32)))≠(y'.testBit (32-1-(k2-32)));rw[show 32-1-(k2-32)=63-k2 by omega];exact d4 (by omega)
 |true=>
  have hb:∀(x y:Nat),y<2 ^ 64->∀i,bitN ⟨true,(x:Int),(y:Int)⟩ i=if 127-i<64 then y.testBit (127-i)else x.testBit (127-i-64):=fun x y hy i=>by
   unfold bitN num wid;simp only[if_true,Int.toNat_natCast];rw[Zoe (by omega)]
  by_cases hx:x ^^^ x'=0
  .rw[hx,show (((0:Nat):Int)==0)=true from rfl,cond_true];have hxx:x=x':=by
    apply Nat.eq_of_testBit_eq;intro j;exact c3 j (by have:=c5.2 hx;omega)
   have e5:Zar 64 (k2:Int)=((64+k2:Nat):Int):=by rw[Zdg (by omega) (by omega)];omega
   simp only[ZfB,Bool.not_true,cond_false,e5,k6];refine⟨_,rfl,?_⟩;refine cj (64+k2) (fun i h1 h2=>?_) (fun h=>?_)
   .have h2:i<128:=h2;rw[hb x y (by omega),hb x' y' (by omega),hxx];split
    .exact d3 _ (by omega)
    .rfl
   .have h:64+k2<128:=h;rw[hb x y (by omega),hb x' y' (by omega),if_pos (by omega),if_pos (by omega)];rw[show 127-(64+k2)=63-k2 by omega];exact d4 (by omega)
  .have hk:k1<64:=by
    rcases Nat.lt_or_ge k1 64 with h|h
    .exact h
    .exact absurd (c5.1 (by omega)) hx
   have hne:(((x ^^^ x':Nat):Int)==0)=false:=by
    rw[beq_eq_false_iff_ne];intro e;exact hx (by omega)
   rw[hne,cond_false];simp only[ZfB,Bool.not_true,cond_false,k6];refine⟨_,rfl,?_⟩;refine cj k1 (fun i h1 h2=>?_) (fun h=>?_)
   .rw[hb x y (by omega),hb x' y' (by omega),if_neg (by omega),if_neg (by omega)];exact c3 _ (by omega)
   .rw[hb x y (by omega),hb x' y' (by omega),if_neg (by omega),if_neg (by omega)];rw[show 127-k1-64=63-k1 by omega];exact c4 hk
def Bel'(n:Nat)(f:Nat->Bool)(p:Zap):Prop:=n<=p.fBits.toNat/\∀i,i<n->bitN p.fAddr i=f i
def ext'(p:Zap)(b:Bool):Nat->Bool:=fun i=>if i<p.fBits.toNat then bitN p.fAddr i else b
theorem ZjH{p q:Zap}{b:Bool}:Bel' (p.fBits.toNat+1) (ext' p b) q↔p.fBits.toNat<q.fBits.toNat/\(∀i,i<p.fBits.toNat->bitN q.fAddr i=bitN p.fAddr i)/\bitN q.fAddr p.fBits.toNat=b:=by
 unfold Bel' ext';constructor
 .rintro ⟨h1,h2⟩;refine⟨by omega,fun i hi=>?_,?_⟩
  .have:=h2 i (by omega);rwa [if_pos hi]at this
  .have:=h2 p.fBits.toNat (by omega);rwa [if_neg (by omega)]at this
 .rintro ⟨h1,h2,h3⟩;refine⟨by omega,fun i hi=>?_⟩;by_cases h:i<p.fBits.toNat
  .rw[if_pos h];exact h2 i h
  .rw[if_neg h,show i=p.fBits.toNat by omega];exact h3
def ZnY(v:Bool):Zav->Nat->(Nat->Bool)->Prop | .nil,_,_=>True | .mk h has k0 k1,n,f=>RN h.fNet/\h.fNet.fAddr.fV6=v/\Bel' n f h.fNet/\ZnY v k0 (h.fNet.fBits.toNat+1) (ext' h.fNet false)/\ZnY v k1 (h.fNet.fBits.toNat+1) (ext' h.fNet true)
def ZbE:Zav->List Zaw | .nil=>[] | .mk h has k0 k1=>(if has then[h]else[])++ZbE k0++ZbE k1
theorem ZbS{v:Bool}:∀{nd:Zav}{n:Nat}{f:Nat->Bool},ZnY v nd n f->∀x∈ZbE nd,RN x.fNet/\x.fNet.fAddr.fV6=v/\Bel' n f x.fNet
 | .nil,_,_,_,x,hx=>by simp[ZbE]at hx
 | .mk h has k0 k1,n,f,hg,x,hx=>by
  obtain⟨g1,g2,g3,g4,g5⟩:=hg
  have hH:∀b,Bel' (h.fNet.fBits.toNat+1) (ext' h.fNet b) x.fNet->Bel' n f x.fNet:=fun b hb=>by
   obtain⟨b1,b2,_⟩:=ZjH.1 hb
   have:=g3.1
   exact⟨by omega,fun i hi=>by rw[b2 i (by omega)];exact g3.2 i hi⟩
  simp only[ZbE,List.mem_append]at hx
  rcases hx with (hx|hx)|hx
  .split at hx
   .rw[List.mem_singleton]at hx;rw[hx];exact⟨g1,g2,g3⟩
   .simp at hx
  .obtain⟨h1,h2,h3⟩:=ZbS g4 x hx
   exact⟨h1,h2,hH _ h3⟩
  .obtain⟨h1,h2,h3⟩:=ZbS g5 x hx
   exact⟨h1,h2,hH _ h3⟩
theorem ZnY.rebase{v:Bool}{nd:Zav}{n m:Nat}{f g:Nat->Bool}(h:ZnY v nd n f)(hb:∀x has k0 k1,nd=.mk x has k0 k1->Bel' m g x.fNet):ZnY v nd m g:=by
 cases nd with
 |nil=>trivial
 |mk x has k0 k1=>exact⟨h.1,h.2.1,hb x has k0 k1 rfl,h.2.2.2⟩
def ZlC(l:List Zaw)(n:Zap):Int×Bool:=match l.find? (fun x=>decide (x.fNet=n))with
 |some x=>(x.fV,true)
 |none=>(0,false)
theorem Zlo{l:List Zaw}{n:Zap}(h:∀x∈l,x.fNet≠n):l.find? (fun x=>decide (x.fNet=n))=none:=by
 rw[List.find?_eq_none];intro x hx;simpa using h x hx
theorem ZBv{v:Bool}{n:Zap}(hn:RN n)(hv:n.fAddr.fV6=v):∀fu (nd:Zav) (m:Nat) (f:Nat->Bool),ZnY v nd m f->n.fBits.toNat+1<fu+m ->
  Zdp fu nd n=some (ZlC (ZbE nd) n)\/(n.fBits.toNat<m/\fu=0):=by
 intro fu;induction fu with
 |zero=>intro nd m f _ h;exact .inr ⟨by omega,rfl⟩
 |succ fu ih=>
  intro nd m f hg hf;refine .inl ?_;cases nd with
  |nil=>rfl
  |mk h has k0 k1=>
   obtain⟨g1,g2,g3,g4,g5⟩:=hg;have hw:wid h.fNet.fAddr=wid n.fAddr:=by unfold wid;rw[g2,hv]
   have b0:=fun x hx=>ZjH.1 (ZbS g4 x hx).2.2;have b1:=fun x hx=>ZjH.1 (ZbS g5 x hx).2.2;have hnn:=g1.nn;have hnn':=hn.nn;simp only[Zdp,Zai];by_cases hlt:h.fNet.fBits<n.fBits
   .rw[if_pos hlt];have ht:=Zwg hn h.fNet.fBits.toNat (by have:=hn.le;omega);rw[Int.toNat_of_nonneg hnn]at ht;rw[ht];have hh:∀x∈(if has then[h]else[]),x.fNet≠n:=fun x hx e=>by
     split at hx
     .rw[List.mem_singleton]at hx;subst hx;rw[e]at hlt;omega
     .simp at hx
    have gm:=g3.1;cases hb:bitN n.fAddr h.fNet.fBits.toNat with
    |false=>
     simp only[Bool.false_eq_true,if_false,Option.bind_some];rw[Zax (by omega)];have he:ZlC (ZbE (.mk h has k0 k1)) n=ZlC (ZbE k0) n:=by
      unfold ZlC;simp only[ZbE];rw[List.find?_append,List.find?_append,Zlo hh,Zlo (l:=ZbE k1) fun x hx e=>by have:=(b1 x hx).2.2;rw[e,hb]at this;cases this];simp
     rw[he];rcases ih k0 _ _ g4 (by omega)with h|h
     .exact h
     .omega
    |true=>
     simp only[if_true,Option.bind_some];rw[Zax (by omega)];have he:ZlC (ZbE (.mk h has k0 k1)) n=ZlC (ZbE k1) n:=by
      unfold ZlC;simp only[ZbE];rw[List.find?_append,List.find?_append,Zlo hh,Zlo (l:=ZbE k0) fun x hx e=>by have:=(b0 x hx).2.2;rw[e,hb]at this;cases this];simp
     rw[he];rcases ih k1 _ _ g5 (by omega)with h|h
     .exact h
     .omega
   .rw[if_neg hlt];have he:ZlC (ZbE (.mk h has k0 k1)) n=ZlC (if has then[h]else[]) n:=by
     unfold ZlC;simp only[ZbE];rw[List.find?_append,List.find?_append,Zlo (l:=ZbE k0) fun x hx e=>by have:=(b0 x hx).1;rw[e]at this;omega,Zlo (l:=ZbE k1) fun x hx e=>by have:=(b1 x hx).1;rw[e]at this;omega];simp
    rw[he];cases has with
    |false=>rfl
    |true=>
     by_cases e:h.fNet=n
     .simp[ZlC,e]
     .simp[ZlC,e]
theorem Zxw{v:Bool}{hit:Zaw}(hn:RN hit.fNet)(hv:hit.fNet.fAddr.fV6=v):∀fu (nd:Zav) (m:Nat) (f:Nat->Bool),ZnY v nd m f->Bel' m f hit.fNet->hit.fNet.fBits.toNat+1<fu+m ->
  ∃jo,Zfi fu nd hit=some jo/\ZnY v jo m f/\∀x,x∈ZbE jo↔x=hit\/(x∈ZbE nd/\x.fNet≠hit.fNet):=by
 intro fu;induction fu with
 |zero=>intro nd m f _ hb h;have:=hb.1;omega
 |succ fu ih=>
  intro nd m f hg ej hf;cases nd with
  |nil=>exact⟨_,rfl,⟨hn,hv,ej,trivial,trivial⟩,fun x=>by simp[ZbE]⟩
  |mk h has k0 k1=>
   have ji:=hg;obtain⟨g1,g2,g3,g4,g5⟩:=hg;have hwd:wid h.fNet.fAddr=wid hit.fNet.fAddr:=by unfold wid;rw[g2,hv]
   have b0:=fun x hx=>ZjH.1 (ZbS g4 x hx).2.2;have b1:=fun x hx=>ZjH.1 (ZbS g5 x hx).2.2;have jp:∀x∈ZbE (.mk h has k0 k1),h.fNet.fBits.toNat<=x.fNet.fBits.toNat/\∀i,i<h.fNet.fBits.toNat->bitN x.fNet.fAddr i=bitN h.fNet.fAddr i:=fun x hx=>by
    simp only[ZbE,List.mem_append]at hx;rcases hx with (hx|hx)|hx
    .split at hx
     .rw[List.mem_singleton]at hx;rw[hx];exact⟨Nat.le_refl _,fun _ _=>rfl⟩
     .simp at hx
    .obtain⟨x1,x2,_⟩:=b0 x hx;exact⟨by omega,x2⟩
    .obtain⟨x1,x2,_⟩:=b1 x hx;exact⟨by omega,x2⟩
   have n1:=g1.nn;have n2:=hn.nn;have l1:=g1.le;have l2:=hn.le;obtain⟨k,c1,c2,c3,c4,c5⟩:=ZEH g1 hn (g2.trans hv.symm);simp only[Zfi,c1,Option.bind_some,Zai];by_cases hk:k<h.fNet.fBits.toNat
   .rw[if_pos (by omega)];have hbit:=Zwg g1 k (by omega);by_cases hU:k=hit.fNet.fBits.toNat
    .-- the new one stands above
     have e:((k:Int)==hit.fNet.fBits)=true:=by rw[beq_iff_eq];omega
     have hne:∀x∈ZbE (.mk h has k0 k1),x.fNet≠hit.fNet:=fun x hx e=>by have:=(jp x hx).1;rw[e]at this;omega
     have hB:Bel' (hit.fNet.fBits.toNat+1) (ext' hit.fNet (bitN h.fNet.fAddr k)) h.fNet:=ZjH.2 ⟨by omega,fun i hi=>c4 i (by omega),by rw[<-hU]⟩;have hG:ZnY v (.mk h has k0 k1) (hit.fNet.fBits.toNat+1) (ext' hit.fNet (bitN h.fNet.fAddr k)):=ji.rebase fun x _ _ _ e=>by cases e;exact hB
     simp only[Zkb,e,cond_true,hbit,Option.bind_some];cases hb:bitN h.fNet.fAddr k with
     |false=>
      rw[hb]at hG;simp only[Bool.false_eq_true,if_false];rw[Zax (by omega)];refine⟨_,rfl,⟨hn,hv,ej,hG,trivial⟩,fun x=>?_⟩;have:ZbE (.mk hit true (.mk h has k0 k1) .nil)=[hit]++ZbE (.mk h has k0 k1):=by simp[ZbE]
      rw[this,List.mem_append,List.mem_singleton];exact or_congr Iff.rfl ⟨fun hx=>⟨hx,hne x hx⟩,fun hx=>hx.1⟩
     |true=>
      rw[hb]at hG;simp only[if_true];rw[Zax (by omega)];refine⟨_,rfl,⟨hn,hv,ej,trivial,hG⟩,fun x=>?_⟩;have:ZbE (.mk hit true .nil (.mk h has k0 k1))=[hit]++ZbE (.mk h has k0 k1):=by simp[ZbE]
      rw[this,List.mem_append,List.mem_singleton];exact or_congr Iff.rfl ⟨fun hx=>⟨hx,hne x hx⟩,fun hx=>hx.1⟩
    .-- they part
     have hk2:k<hit.fNet.fBits.toNat:=by omega
     have e:((k:Int)==hit.fNet.fBits)=false:=by rw[beq_eq_false_iff_ne];omega
     have cM:=c5 hk hk2;have hne:∀x∈ZbE (.mk h has k0 k1),x.fNet≠hit.fNet:=fun x hx e=>cM (by rw[<-(jp x hx).2 k hk,e]);obtain⟨r1,r2⟩:=ZGV hn.ok hn.right k (by omega);have hmk:ZfD hit.fNet.fAddr (k:Int)=some (⟨ZjD hit.fNet.fAddr k,(k:Int)⟩,true):=by
      rw[ZzO _ hn.ok,if_pos ⟨hn.right,by omega,by omega⟩,Int.toNat_natCast]
     have hZ:(⟨ZjD hit.fNet.fAddr k,(k:Int)⟩ : Zap).fBits.toNat=k:=Int.toNat_natCast k;have bw:∀i,i<k->bitN (ZjD hit.fNet.fAddr k) i=bitN hit.fNet.fAddr i:=fun i hi=>by
      rw[ZkZ hn.fits k i (by omega) (by omega),decide_eq_true hi];rfl
     have hm:m<=k:=by
      rcases Nat.lt_or_ge k m with hh|hh
      .exact absurd ((g3.2 k hh).trans (ej.2 k hh).symm) cM
      .exact hh
     have hP:Bel' m f ⟨ZjD hit.fNet.fAddr k,(k:Int)⟩:=⟨by rw[hZ];exact hm,fun i hi=>by rw[bw i (by omega)];exact ej.2 i hi⟩;have hO:ZnY v (.mk h has k0 k1) ((⟨ZjD hit.fNet.fAddr k,(k:Int)⟩ : Zap).fBits.toNat+1) (ext' ⟨ZjD hit.fNet.fAddr k,(k:Int)⟩ (bitN h.fNet.fAddr k)):=ji.rebase fun x _ _ _ e=>by
      cases e;exact ZjH.2 ⟨by rw[hZ];exact hk,fun i hi=>by rw[hZ]at hi;rw[bw i hi];exact c4 i hi,by rw[hZ]⟩
     have hL:ZnY v (.mk hit true .nil .nil) ((⟨ZjD hit.fNet.fAddr k,(k:Int)⟩ : Zap).fBits.toNat+1) (ext' ⟨ZjD hit.fNet.fAddr k,(k:Int)⟩ (bitN hit.fNet.fAddr k)):=
      ⟨hn,hv,ZjH.2 ⟨by rw[hZ];exact hk2,fun i hi=>by rw[hZ]at hi;rw[bw i hi],by rw[hZ]⟩,trivial,trivial⟩
     have bo:=Zwg hn k (by omega);simp only[Zkb,e,cond_false,hmk,hbit,bo,Option.bind_some];cases hb:bitN h.fNet.fAddr k with
     |false=>
      have aC:bitN hit.fNet.fAddr k=true:=by
       cases hq:bitN hit.fNet.fAddr k
       .rw[hb,hq]at cM;exact absurd rfl cM
       .rfl
      rw[hb]at hO;rw[aC]at hL;simp only[aC,Bool.false_eq_true,if_false,if_true];rw[Zax (by omega)];have e1:∀(A B:Option Zav),ix2 0 A B=A:=fun _ _=>rfl;have e2:∀(A B:Option Zav),ix2 1 A B=B:=fun _ _=>rfl;rw[e1,Zax (by omega),e2];refine⟨_,rfl,⟨r1,by simp only[ZiB];exact hv,hP,hO,hL⟩,fun x=>?_⟩;have:ZbE (.mk ⟨⟨ZjD hit.fNet.fAddr k,(k:Int)⟩,0⟩ false (.mk h has k0 k1) (.mk hit true .nil .nil))=ZbE (.mk h has k0 k1)++[hit]:=by simp[ZbE]
      rw[this,List.mem_append,List.mem_singleton,or_comm];exact or_congr Iff.rfl ⟨fun hx=>⟨hx,hne x hx⟩,fun hx=>hx.1⟩
     |true=>
      have aC:bitN hit.fNet.fAddr k=false:=by
       cases hq:bitN hit.fNet.fAddr k
       .rfl
       .rw[hb,hq]at cM;exact absurd rfl cM
      rw[hb]at hO;rw[aC]at hL;simp only[aC,Bool.false_eq_true,if_false,if_true];rw[Zax (by omega)];have e1:∀(A B:Option Zav),ix2 0 A B=A:=fun _ _=>rfl;have e2:∀(A B:Option Zav),ix2 1 A B=B:=fun _ _=>rfl;rw[e2,Zax (by omega),e1];refine⟨_,rfl,⟨r1,by simp only[ZiB];exact hv,hP,hL,hO⟩,fun x=>?_⟩;have:ZbE (.mk ⟨⟨ZjD hit.fNet.fAddr k,(k:Int)⟩,0⟩ false (.mk hit true .nil .nil) (.mk h has k0 k1))=[hit]++ZbE (.mk h has k0 k1):=by simp[ZbE]
      rw[this,List.mem_append,List.mem_singleton];exact or_congr Iff.rfl ⟨fun hx=>⟨hx,hne x hx⟩,fun hx=>hx.1⟩
   .rw[if_neg (by omega)];have hU:k=h.fNet.fBits.toNat:=by omega
    by_cases hke:k=hit.fNet.fBits.toNat
    .-- it is there
     have e:((k:Int)==hit.fNet.fBits)=true:=by rw[beq_iff_eq];omega
     have k7:h.fNet=hit.fNet:=ZHM g1 hn (g2.trans hv.symm) (by
      unfold bs;rw[<-hU,<-hke];apply List.map_congr_left;intro i hi;exact c4 i (by simpa using hi))
     rw[e,cond_true];refine⟨_,rfl,⟨hn,hv,ej,by rw[<-k7];exact g4,by rw[<-k7];exact g5⟩,fun x=>?_⟩;have n0:x∈ZbE k0->x.fNet≠hit.fNet:=fun hx e=>by have:=(b0 x hx).1;rw[e]at this;omega
     have n1:x∈ZbE k1->x.fNet≠hit.fNet:=fun hx e=>by have:=(b1 x hx).1;rw[e]at this;omega
     simp only[ZbE,List.mem_append,if_true,List.mem_singleton];constructor
     .rintro ((hx|hx)|hx)
      .exact .inl hx
      .exact .inr ⟨.inl (.inr hx),n0 hx⟩
      .exact .inr ⟨.inr hx,n1 hx⟩
     .rintro (hx|⟨(hx|hx)|hx,hne⟩)
      .exact .inl (.inl hx)
      .split at hx
       .rw[List.mem_singleton]at hx;rw[hx]at hne;exact absurd k7 hne
       .simp at hx
      .exact .inl (.inr hx)
      .exact .inr hx
    .have e:((k:Int)==hit.fNet.fBits)=false:=by rw[beq_eq_false_iff_ne];omega
     have hbit:=Zwg hn k (by omega);have hB:Bel' (h.fNet.fBits.toNat+1) (ext' h.fNet (bitN hit.fNet.fAddr k)) hit.fNet:=ZjH.2 ⟨by omega,fun i hi=>(c4 i (by omega)).symm,by rw[<-hU]⟩;have nh:∀x∈(if has then[h]else[]),x.fNet≠hit.fNet:=fun x hx e=>by
      split at hx
      .rw[List.mem_singleton]at hx;rw[hx]at e;rw[e]at hU;omega
      .simp at hx
     have gm:=g3.1;simp only[e,cond_false,hbit,Option.bind_some];cases hb:bitN hit.fNet.fAddr k with
     |false=>
      rw[hb]at hB;simp only[Bool.false_eq_true,if_false];rw[Zax (by omega)];obtain⟨jo,w1,w2,w3⟩:=ih k0 _ _ g4 hB (by omega);have e1:∀(A B:Option Zav),ix2 0 A B=A:=fun _ _=>rfl;rw[e1,w1];refine⟨_,rfl,⟨g1,g2,g3,w2,g5⟩,fun x=>?_⟩;have n1:x∈ZbE k1->x.fNet≠hit.fNet:=fun hx e=>by have:=(b1 x hx).2.2;rw[e,<-hU,hb]at this;cases this
      simp only[ZbE,List.mem_append,w3];constructor
      .rintro ((hx|hx|hx)|hx)
       .exact .inr ⟨.inl (.inl hx),nh x hx⟩
       .exact .inl hx
       .exact .inr ⟨.inl (.inr hx.1),hx.2⟩
       .exact .inr ⟨.inr hx,n1 hx⟩
      .rintro (hx|⟨(hx|hx)|hx,hne⟩)
       .exact .inl (.inr (.inl hx))
       .exact .inl (.inl hx)
       .exact .inl (.inr (.inr ⟨hx,hne⟩))
       .exact .inr hx
     |true=>
      rw[hb]at hB;simp only[if_true];rw[Zax (by omega)];obtain⟨jo,w1,w2,w3⟩:=ih k1 _ _ g5 hB (by omega);have e2:∀(A B:Option Zav),ix2 1 A B=B:=fun _ _=>rfl;rw[e2,w1];refine⟨_,rfl,⟨g1,g2,g3,g4,w2⟩,fun x=>?_⟩;have n1:x∈ZbE k0->x.fNet≠hit.fNet:=fun hx e=>by have:=(b0 x hx).2.2;rw[e,<-hU,hb]at this;cases this
      simp only[ZbE,List.mem_append,w3];constructor
      .rintro ((hx|hx)|hx|hx)
       .exact .inr ⟨.inl (.inl hx),nh x hx⟩
       .exact .inr ⟨.inl (.inr hx),n1 hx⟩
       .exact .inl hx
       .exact .inr ⟨.inr hx.1,hx.2⟩
      .rintro (hx|⟨(hx|hx)|hx,hne⟩)
       .exact .inr (.inl hx)
       .exact .inl (.inl hx)
       .exact .inl (.inr hx)
       .exact .inr (.inr ⟨hx,hne⟩)
def cov(a:Zaf)(x:Zaw):Bool:=decide (∀i,i<x.fNet.fBits.toNat->bitN a i=bitN x.fNet.fAddr i)
theorem Zmo{α:Type}{p:α->Bool}{l:List α}(h:∀x∈l,p x=false):l.filter p=[]:=by
 rw[List.filter_eq_nil_iff];intro x hx;rw[h x hx];simp
theorem Zwa{v:Bool}{a:Zaf}(ha:a.ok)(hr:Zek a=true)(hv:a.fV6=v):∀fu (nd:Zav) (m:Nat) (f:Nat->Bool) (w:List Zaw),ZnY v nd m f->(∀i,i<m->i<wid a->bitN a i=f i)->m<=wid a+1->wid a+1<fu+m->w.length<=m ->
  ZbK fu nd w a=some (w++(ZbE nd).filter (cov a)):=by
 have hwa:wid a<=128:=by unfold wid;split<;>omega
 intro fu;induction fu with
 |zero=>intro nd m f w _ _ _ h;omega
 |succ fu ih=>
  intro nd m f w hg hp hmw hf hl;cases nd with
  |nil=>simp[ZbK,ZbE]
  |mk h has k0 k1=>
   obtain⟨g1,g2,g3,g4,g5⟩:=hg;have hwd:wid h.fNet.fAddr=wid a:=by unfold wid;rw[g2,hv]
   have b0:=fun x hx=>ZjH.1 (ZbS g4 x hx).2.2;have b1:=fun x hx=>ZjH.1 (ZbS g5 x hx).2.2;have w0:=fun x hx=>(ZbS g4 x hx);have w1:=fun x hx=>(ZbS g5 x hx);have n1:=g1.nn;have l1:=g1.le;have gm:=g3.1;simp only[ZbK,ZHW _ a g1 ha,hr,decide_eq_true (g2.trans hv.symm),Bool.true_and,Option.bind_some,Zai];by_cases hc:∀i,i<h.fNet.fBits.toNat->bitN a i=bitN h.fNet.fAddr i
   .rw[if_pos hc];have k8:cov a h=true:=by unfold cov;rw[decide_eq_true_eq];exact hc
    -- what lies below
    have jq:∀w':List Zaw,w'.length<=h.fNet.fBits.toNat+1->((Zhp a h.fNet.fBits).bind fun x6=>need (0<=x6/\x6<((2:Nat):Int))<|ix2 x6 (ZbK fu k0 w' a) (ZbK fu k1 w' a))=some (w'++((ZbE k0).filter (cov a)++(ZbE k1).filter (cov a))):=by
     intro w' k9;by_cases hb:h.fNet.fBits.toNat<wid a
     .have ht:=ZFa (Zoz ha hr) h.fNet.fBits.toNat hb;rw[Int.toNat_of_nonneg n1]at ht;rw[ht];cases hbit:bitN a h.fNet.fBits.toNat with
      |false=>
       simp only[Bool.false_eq_true,if_false,Option.bind_some];rw[Zax (by omega),show ∀(A B:Option (List Zaw)),ix2 0 A B=A from fun _ _=>rfl];rw[ih k0 _ _ w' g4 (fun i hi cr=>by
        unfold ext';by_cases h3:i<h.fNet.fBits.toNat
        .rw[if_pos h3];exact hc i h3
        .rw[if_neg h3,show i=h.fNet.fBits.toNat by omega];exact hbit) (by omega) (by omega) k9]
       rw[Zmo (l:=ZbE k1) fun x hx=>?_]
       .simp
       .unfold cov;rw[decide_eq_false_iff_not];intro hq;obtain⟨x1,x2,x3⟩:=b1 x hx;have:=hq _ x1;rw[hbit,x3]at this;cases this
      |true=>
       simp only[if_true,Option.bind_some];rw[Zax (by omega),show ∀(A B:Option (List Zaw)),ix2 1 A B=B from fun _ _=>rfl];rw[ih k1 _ _ w' g5 (fun i hi cr=>by
        unfold ext';by_cases h3:i<h.fNet.fBits.toNat
        .rw[if_pos h3];exact hc i h3
        .rw[if_neg h3,show i=h.fNet.fBits.toNat by omega];exact hbit) (by omega) (by omega) k9]
       rw[Zmo (l:=ZbE k0) fun x hx=>?_]
       .simp
       .unfold cov;rw[decide_eq_false_iff_not];intro hq;obtain⟨x1,x2,x3⟩:=b0 x hx;have:=hq _ x1;rw[hbit,x3]at this;cases this
     .-- a whole address: nothing lies below
      have aT:∀(hH:Zav)(b:Bool),ZnY v hH (h.fNet.fBits.toNat+1) (ext' h.fNet b)->hH=.nil:=fun hH b dz=>by
       cases hH with
       |nil=>rfl
       |mk x hs q0 q1=>
        have h1:=dz.2.2.1.1;have h2:=dz.1.le;have h3:wid x.fNet.fAddr=wid a:=by unfold wid;rw[dz.2.1,hv]
        omega
      rw[aT k0 _ g4,aT k1 _ g5];have jr:Zhp a h.fNet.fBits=some 0:=by
       simp only[Zhp,ZAE,Option.bind_some,Zai];rw[if_neg (by omega),if_pos (by omega)]
      rw[jr];simp only[Option.bind_some];rw[Zax (by omega),show ∀(A B:Option (List Zaw)),ix2 0 A B=A from fun _ _=>rfl];have:=ih .nil (h.fNet.fBits.toNat+1) (ext' h.fNet false) w' trivial (fun i hi cr=>by
        unfold ext';rw[if_pos (by omega)];exact hc i (by omega)) (by omega) (by omega) k9
      rw[this];simp[ZbE]
    cases has with
    |true=>
     simp only[cond_true,ZbE,if_true];rw[Zax ⟨by simp;omega,by unfold maxLen;simp;omega⟩,jq _ (by simp;omega)];simp[k8]
    |false=>
     simp only[cond_false,ZbE,Bool.false_eq_true,if_false];rw[jq _ (by omega)];simp
   .rw[if_neg hc];rw[Zmo]
    .simp
    .intro x hx;unfold cov;rw[decide_eq_false_iff_not];intro hq;apply hc;intro i hi;simp only[ZbE,List.mem_append]at hx;rcases hx with (hx|hx)|hx
     .split at hx
      .rw[List.mem_singleton]at hx;rw[hx]at hq;exact hq i hi
      .simp at hx
     .obtain⟨x1,x2,_⟩:=b0 x hx;rw[hq i (by omega)];exact x2 i hi
     .obtain⟨x1,x2,_⟩:=b1 x hx;rw[hq i (by omega)];exact x2 i hi
theorem ZzC{a:Zaf}(h:Fits a)(i:Nat)(hi:i<wid a):ZdZ a (i:Int)=some (if bitN a i then 1 else 0):=by
 have h1:=h.hi0;have h2:=h.hi1;have h3:=h.lo0;have h4:=h.lo1;obtain⟨v,cr,lo⟩:=a;obtain⟨p,hp⟩:=ZlV h.hi0;obtain⟨q,hq⟩:=ZlV h.lo0;simp only at hp hq h1 h2 h3 h4;subst hp hq;have hw:∀k:Nat,k<64->(IntKind.u64.wrap ((k:Nat):Int))=((k:Nat):Int):=fun k hk=>ZhV (by omega) (by omega);cases v with
 |false=>
  have hi:i<32:=hi;have e:ZaQ (31:Int) (i:Int)=((31-i:Nat):Int):=by rw[Zes (by omega) (by omega)];omega
  simp only[ZdZ,Zch,Zdx,Zai,Option.bind_some,cond_false,Bool.not_false,cond_true,e,hw (31-i) (by omega)];rw[if_neg (by omega),if_neg (by omega),Zax (by omega),Zsp q _ (by omega) (by omega)];rfl
 |true=>
  have hi:i<128:=hi;have hb:bitN ⟨true,(p:Int),(q:Int)⟩ i=if 127-i<64 then q.testBit (127-i)else p.testBit (127-i-64):=by
   unfold bitN num wid;simp only[if_true,Int.toNat_natCast];rw[Zoe (by omega)]
  rw[hb];have et:Int.tmod (i:Int) 64=((i % 64:Nat):Int):=by rw[Int.tmod_eq_emod_of_nonneg (by omega)];rfl
  have hm:i % 64<64:=Nat.mod_lt _ (by omega);have e:ZaQ (63:Int) ((i % 64:Nat):Int)=((63-i % 64:Nat):Int):=by rw[Zes (by omega) (by omega)];omega
  simp only[ZdZ,Zch,Zdx,Zai,Option.bind_some,cond_false,Bool.not_true,cond_true,et,e,hw (63-i % 64) (by omega)];rw[if_neg (by omega),if_neg (by omega)];by_cases h64:i<64
  .rw[if_pos (by omega),Zax (by omega),Zsp p _ (by omega) (by omega),if_neg (show ¬127-i<64 by omega),show 63-i % 64=127-i-64 by omega]
  .rw[if_neg (by omega),Zax (by omega),Zsp q _ (by omega) (by omega),if_pos (show 127-i<64 by omega),show 63-i % 64=127-i by omega]
theorem ZsS(a:Zaf):Zch a=some (wid a:Int):=by
 unfold Zch wid;cases a.fV6<;>rfl
theorem Ztm(a:Zaf):wid a<=128:=by unfold wid;split<;>omega
theorem ZIh{i:Nat}(h:i<=1000000):Zar (i:Int) 1=((i+1:Nat):Int):=by rw[Zdg (by omega) (by omega)];omega
theorem ZDE{p:Zap}(hf:Fits p.fAddr):∀fu (i:Nat),i<=wid p.fAddr->wid p.fAddr-i<fu->∃r,Zde fu (i:Int) p=some r/\(r=true↔∀j,i<=j->j<wid p.fAddr->bitN p.fAddr j=false):=by
 have hw:=Ztm p.fAddr;intro fu;induction fu with
 |zero=>intro _ _ h;omega
 |succ fu ih=>
  intro i hi hfu;simp only[Zde,ZsS,Option.bind_some,Zai];by_cases h:i<wid p.fAddr
  .rw[if_pos (by omega),ZzC hf i h,ZIh (by omega)];simp only[Option.bind_some];obtain⟨r,h1,h2⟩:=ih (i+1) (by omega) (by omega);cases hb:bitN p.fAddr i with
   |true=>
    simp only[if_true,beq_self_eq_true,cond_true];refine⟨false,rfl,?_⟩;simp only[Bool.false_eq_true,false_iff];intro hq;have:=hq i (Nat.le_refl _) h;rw[hb]at this;cases this
   |false=>
    simp only[Bool.false_eq_true,if_false];rw[show ((0:Int)==1)=false from rfl,cond_false];refine⟨r,h1,h2.trans ⟨fun q j h3 h4=>?_,fun q j h3 h4=>q j (by omega) h4⟩⟩;by_cases h5:j=i
    .subst h5;exact hb
    .exact q j (by omega) h4
  .rw[if_neg (by omega)];exact⟨true,rfl,by simp;intro j h3 h4;omega⟩
theorem ZvA(p:Zap)(h:p.fAddr.ok):ZeR p=some (Zic p):=by
 simp only[ZeR,ZlR p.fAddr h,ZsS,Option.bind_some,Zai];unfold Zic;cases hr:Zek p.fAddr
 .simp
 .have hf:=Zoz h hr;simp only[Bool.not_true,cond_false,Bool.true_and];by_cases h0:p.fBits<0
  .rw[if_pos h0,show decide (0<=p.fBits)=false by rw[decide_eq_false_iff_not];omega];simp
  .rw[if_neg h0];by_cases h1:p.fBits>(wid p.fAddr:Int)
   .rw[if_pos h1,show decide (p.fBits<=(wid p.fAddr:Int))=false by rw[decide_eq_false_iff_not];omega];simp
   .rw[if_neg h1,show decide (0<=p.fBits)=true by rw[decide_eq_true_eq];omega,show decide (p.fBits<=(wid p.fAddr:Int))=true by rw[decide_eq_true_eq];omega];have hw:=Ztm p.fAddr;obtain⟨r,r1,r2⟩:=ZDE hf 1000000 p.fBits.toNat (by omega) (by omega);rw[Int.toNat_of_nonneg (by omega)]at r1;rw[r1,Option.some.injEq,Bool.true_and,Bool.true_and,Bool.eq_iff_iff,r2,decide_eq_true_eq];constructor
    .intro q;refine ZrL (ZjJ hf _) hf (ZiB _ _) fun i hi=>?_;have hi:i<wid p.fAddr:=by unfold wid at hi ⊢;rwa [ZiB]at hi
     rw[ZkZ hf p.fBits.toNat i (by omega) hi];by_cases hb:i<p.fBits.toNat
     .rw[decide_eq_true hb];rfl
     .rw[decide_eq_false hb,q i (by omega) hi];rfl
    .intro q j h3 h4;have:=ZkZ hf p.fBits.toNat j (by omega) h4;rw[q,decide_eq_false (by omega)]at this;exact this
def hasS(p:Zap)(a:Zaf):Bool:=Zic p&&(Zek a&&decide (p.fAddr.fV6=a.fV6)&&decide (∀i,i<p.fBits.toNat->bitN a i=bitN p.fAddr i))
theorem ZxP{p:Zap}{a:Zaf}(hp:RN p)(ha:Fits a)(hv:p.fAddr.fV6=a.fV6):∀fu (i:Nat),i<=p.fBits.toNat->p.fBits.toNat-i<fu->∃r,ZcY fu (i:Int) p a=some r/\(r=true↔∀j,i<=j->j<p.fBits.toNat->bitN a j=bitN p.fAddr j):=by
 have hw:=Ztm p.fAddr;have hwa:wid p.fAddr=wid a:=by unfold wid;rw[hv]
 have n1:=hp.nn;have l1:=hp.le;intro fu;induction fu with
 |zero=>intro _ _ h;omega
 |succ fu ih=>
  intro i hi hfu;simp only[ZcY,Zai];by_cases h:i<p.fBits.toNat
  .rw[if_pos (by omega),ZzC hp.fits i (by omega),ZzC ha i (by omega),ZIh (by omega)];simp only[Option.bind_some];obtain⟨r,h1,h2⟩:=ih (i+1) (by omega) (by omega);by_cases hb:bitN a i=bitN p.fAddr i
   .rw[hb];simp only[bne_self_eq_false,cond_false];refine⟨r,h1,h2.trans ⟨fun q j h3 h4=>?_,fun q j h3 h4=>q j (by omega) h4⟩⟩;by_cases h5:j=i
    .subst h5;exact hb
    .exact q j (by omega) h4
   .have hne:((if bitN p.fAddr i=true then(1:Int)else 0) != if bitN a i=true then 1 else 0)=true:=by
     revert hb
     cases bitN a i<;>cases bitN p.fAddr i<;>simp
    rw[hne,cond_true];refine⟨false,rfl,?_⟩;simp only[Bool.false_eq_true,false_iff];intro hq;exact hb (hq i (Nat.le_refl _) h)
  .rw[if_neg (by omega)];exact⟨true,rfl,by simp;intro j h3 h4;omega⟩
theorem ZFF(p:Zap)(a:Zaf)(hp:p.fAddr.ok)(ha:a.ok):ZgJ p a=some (hasS p a):=by
 simp only[ZgJ,ZvA p hp,ZlR a ha,Option.bind_some];unfold hasS;cases hc:Zic p
 .rfl
 .have ek:=(Zvw hp).1 hc;simp only[Bool.not_true,cond_false,Bool.true_and];cases hr:Zek a
  .rfl
  .simp only[Bool.not_true,cond_false,Bool.true_and];by_cases hv:p.fAddr.fV6=a.fV6
   .rw[show (!(p.fAddr.fV6==a.fV6))=false by simp[hv],cond_false,decide_eq_true hv,Bool.true_and];have hw:=Ztm p.fAddr;have n1:=ek.nn;have l1:=ek.le;obtain⟨r,r1,r2⟩:=ZxP ek (Zoz ha hr) hv 1000000 0 (by omega) (by omega);have r1:ZcY 1000000 0 p a=some r:=r1;rw[r1,Option.some.injEq,Bool.eq_iff_iff,r2,decide_eq_true_eq];exact⟨fun q j hj=>q j (by omega) hj,fun q j _ hj=>q j hj⟩
   .rw[show (!(p.fAddr.fV6==a.fV6))=true by simp[hv],cond_true,decide_eq_false hv];rfl
def f0:Nat->Bool:=fun _=>false
def GT:ZaE->Prop | .nil=>False | .mk r4 r6 _=>ZnY false r4 0 f0/\ZnY true r6 0 f0
def Zie:ZaE->List Zaw | .nil=>[] | .mk r4 r6 _=>ZbE r4++ZbE r6
theorem bel0(p:Zap):Bel' 0 f0 p:=⟨Nat.zero_le _,fun i hi=>by omega⟩
theorem Zyl{t:ZaE}(h:GT t):∀x∈Zie t,RN x.fNet:=by
 cases t with
 |nil=>exact h.elim
 |mk r4 r6 n=>
  intro x hx;simp only[Zie,List.mem_append]at hx;rcases hx with hx|hx
  .exact(ZbS h.1 x hx).1
  .exact(ZbS h.2 x hx).1
theorem ZEp(a:Zaf):ZgA a=some (if a.fV6 then 1 else 0):=by
 unfold ZgA;cases a.fV6<;>rfl
theorem ZAO{t:ZaE}(h:GT t)(n:Zap)(hn:n.fAddr.ok):Zhi t n=some (if Zic n then ZlC (Zie t) n else(0,false)):=by
 cases t with
 |nil=>exact h.elim
 |mk r4 r6 k=>
  simp only[Zhi,ZnX n hn,Option.bind_some,ZEp];cases hr:Zic n
  .rfl
  .have ek:=(Zvw hn).1 hr;have hb:n.fBits.toNat<=128:=by have:=ek.le;have:=ek.nn;have:=Ztm n.fAddr;omega
   simp only[Bool.not_true,cond_false,if_true];cases hv:n.fAddr.fV6 with
   |false=>
    simp only[Bool.false_eq_true,if_false];rw[Zax (by omega),show ∀(A B:Option (Int×Bool)),ix2 0 A B=A from fun _ _=>rfl];rcases ZBv ek hv 1000000 r4 0 f0 h.1 (by omega)with e|e
    .rw[e];unfold ZlC;simp only[Zie];rw[List.find?_append,Zlo (l:=ZbE r6) fun x hx e=>by have:=(ZbS h.2 x hx).2.1;rw[e,hv]at this;cases this];simp
    .omega
   |true=>
    simp only[if_true];rw[Zax (by omega),show ∀(A B:Option (Int×Bool)),ix2 1 A B=B from fun _ _=>rfl];rcases ZBv ek hv 1000000 r6 0 f0 h.2 (by omega)with e|e
    .rw[e];unfold ZlC;simp only[Zie];rw[List.find?_append,Zlo (l:=ZbE r4) fun x hx e=>by have:=(ZbS h.1 x hx).2.1;rw[e,hv]at this;cases this];simp
    .omega
theorem ZDf{t:ZaE}(h:GT t)(n:Zap)(hn:n.fAddr.ok)(val:Int)(hr:Zic n=true):∃t',ZeT t n val=some t'/\GT t'/\∀x,x∈Zie t'↔x=⟨n,val⟩\/(x∈Zie t/\x.fNet≠n):=by
 cases t with
 |nil=>exact h.elim
 |mk r4 r6 k=>
  have ek:=(Zvw hn).1 hr;have hb:n.fBits.toNat<=128:=by have:=ek.le;have:=ek.nn;have:=Ztm n.fAddr;omega
  have hg:=ZAO h n hn;simp only[ZeT,Zfj,ZnX n hn,hr,hg,if_true,Option.bind_some,Bool.not_true,cond_false,ZEp];have js:n.fAddr.fV6=false->∃r,Zfi 1000 r4 ⟨n,val⟩=some r/\ZnY false r 0 f0/\∀x,(x∈ZbE r\/x∈ZbE r6)↔x=⟨n,val⟩\/((x∈ZbE r4\/x∈ZbE r6)/\x.fNet≠n):=fun hv=>by
   obtain⟨r,w1,w2,w3⟩:=Zxw (hit:=⟨n,val⟩) ek hv 1000 r4 0 f0 h.1 (bel0 _) (by simp only;omega);refine⟨r,w1,w2,fun x=>?_⟩;rw[w3 x];have h6:x∈ZbE r6->x.fNet≠n:=fun hx e=>by have:=(ZbS h.2 x hx).2.1;rw[e,hv]at this;cases this
   constructor
   .rintro ((hx|hx)|hx)
    .exact .inl hx
    .exact .inr ⟨.inl hx.1,hx.2⟩
    .exact .inr ⟨.inr hx,h6 hx⟩
   .rintro (hx|⟨hx|hx,hne⟩)
    .exact .inl (.inl hx)
    .exact .inl (.inr ⟨hx,hne⟩)
    .exact .inr hx
  have jt:n.fAddr.fV6=true->∃r,Zfi 1000 r6 ⟨n,val⟩=some r/\ZnY true r 0 f0/\∀x,(x∈ZbE r4\/x∈ZbE r)↔x=⟨n,val⟩\/((x∈ZbE r4\/x∈ZbE r6)/\x.fNet≠n):=fun hv=>by
   obtain⟨r,w1,w2,w3⟩:=Zxw (hit:=⟨n,val⟩) ek hv 1000 r6 0 f0 h.2 (bel0 _) (by simp only;omega);refine⟨r,w1,w2,fun x=>?_⟩;rw[w3 x];have h4:x∈ZbE r4->x.fNet≠n:=fun hx e=>by have:=(ZbS h.1 x hx).2.1;rw[e,hv]at this;cases this
   constructor
   .rintro (hx|hx|hx)
    .exact .inr ⟨.inl hx,h4 hx⟩
    .exact .inl hx
    .exact .inr ⟨.inr hx.1,hx.2⟩
   .rintro (hx|⟨hx|hx,hne⟩)
    .exact .inr (.inl hx)
    .exact .inl hx
    .exact .inr (.inr ⟨hx,hne⟩)
  have e1:∀(A B:Option ZaE),ix2 0 A B=A:=fun _ _=>rfl;have e2:∀(A B:Option ZaE),ix2 1 A B=B:=fun _ _=>rfl;cases hv:n.fAddr.fV6 with
  |false=>
   obtain⟨r,w1,w2,w3⟩:=js hv;cases(ZlC (Zie (.mk r4 r6 k)) n).2 <;>
   .simp only[Bool.not_false,Bool.not_true,cond_true,cond_false,Bool.false_eq_true,if_false];rw[Zax (by omega),e1,w1];exact⟨_,rfl,⟨w2,h.2⟩,fun x=>by simp only[Zie,List.mem_append];exact w3 x⟩
  |true=>
   obtain⟨r,w1,w2,w3⟩:=jt hv;cases(ZlC (Zie (.mk r4 r6 k)) n).2 <;>
   .simp only[Bool.not_false,Bool.not_true,cond_true,cond_false,if_true];rw[Zax (by omega),e2,w1];exact⟨_,rfl,⟨h.1,w2⟩,fun x=>by simp only[Zie,List.mem_append];exact w3 x⟩
theorem Zog{v:Bool}:∀{nd:Zav}{n:Nat}{f:Nat->Bool},ZnY v nd n f->(ZbE nd).Pairwise fun x y=>x.fNet≠y.fNet
 | .nil,_,_,_=>List.Pairwise.nil
 | .mk h has k0 k1,n,f,hg=>by
  obtain⟨g1,g2,g3,g4,g5⟩:=hg
  have b0:=fun x hx=>ZjH.1 (ZbS g4 x hx).2.2
  have b1:=fun x hx=>ZjH.1 (ZbS g5 x hx).2.2
  have hh:∀x∈(if has then[h]else[]),x.fNet=h.fNet:=fun x hx=>by
   split at hx
   .rw[List.mem_singleton]at hx;rw[hx]
   .simp at hx
  simp only[ZbE]
  rw[List.pairwise_append,List.pairwise_append]
  refine⟨⟨?_,Zog g4,fun x hx y hy e=>?_⟩,Zog g5,fun x hx y hy e=>?_⟩
  .split
   .exact List.pairwise_singleton _ _
   .exact List.Pairwise.nil
  .have:=(b0 y hy).1
   rw[<-e,hh x hx]at this;omega
  .rcases List.mem_append.1 hx with hx|hx
   .have:=(b1 y hy).1
    rw[<-e,hh x hx]at this;omega
   .have h1:=(b0 x hx).2.2
    have h2:=(b1 y hy).2.2
    rw[e,h2]at h1;cases h1
theorem Zym{t:ZaE}(h:GT t):(Zie t).Pairwise fun x y=>x.fNet≠y.fNet:=by
 cases t with
 |nil=>exact h.elim
 |mk r4 r6 k=>
  simp only[Zie];rw[List.pairwise_append];refine⟨Zog h.1,Zog h.2,fun x hx y hy e=>?_⟩;have h1:=(ZbS h.1 x hx).2.1;have h2:=(ZbS h.2 y hy).2.1;rw[e,h2]at h1;cases h1
theorem ZDZ{l:List Zaw}{n:Zap}(h:(ZlC l n).2=true):∃x∈l,x.fNet=n/\x.fV=(ZlC l n).1:=by
 unfold ZlC at h ⊢;cases hq:l.find? (fun x=>decide (x.fNet=n))with
 |none=>rw[hq]at h;cases h
 |some x=>
  have:=List.find?_some hq;exact⟨x,List.mem_of_find?_eq_some hq,by simpa using this,rfl⟩
theorem ZFU{l:List Zaw}{n:Zap}(h:(ZlC l n).2=false):∀x∈l,x.fNet≠n:=by
 unfold ZlC at h;cases hq:l.find? (fun x=>decide (x.fNet=n))with
 |none=>rw[List.find?_eq_none]at hq;intro x hx;simpa using hq x hx
 |some x=>rw[hq]at h;cases h
theorem ZGi{l:List Zaw}(h:l.Pairwise fun x y=>x.fNet≠y.fNet){x y:Zaw}(hx:x∈l)(hy:y∈l)(e:x.fNet=y.fNet):x=y:=by
 obtain⟨i,hi,rfl⟩:=List.getElem_of_mem hx;obtain⟨j,hj,rfl⟩:=List.getElem_of_mem hy;have hp:=List.pairwise_iff_getElem.1 h;rcases Nat.lt_trichotomy i j with h1|h1|h1
 .exact absurd e (hp i j hi hj h1)
 .subst h1;rfl
 .exact absurd e.symm (hp j i hj hi h1)
theorem ZrH{v:Bool}{a:Zaf}(hv:a.fV6=v):∀{nd:Zav}{m:Nat}{f:Nat->Bool},ZnY v nd m f->m<=wid a+1->((ZbE nd).filter (cov a)).length+m<=wid a+1
 | .nil,m,f,_,h=>by simp[ZbE];exact h
 | .mk h has k0 k1,m,f,hg,hm=>by
  obtain⟨g1,g2,g3,g4,g5⟩:=hg
  have b0:=fun x hx=>ZjH.1 (ZbS g4 x hx).2.2
  have b1:=fun x hx=>ZjH.1 (ZbS g5 x hx).2.2
  have hw:wid h.fNet.fAddr=wid a:=by unfold wid;rw[g2,hv]
  have n1:=g1.nn;have l1:=g1.le;have gm:=g3.1
  have i0:=ZrH hv g4 (by omega)
  have i1:=ZrH hv g5 (by omega)
  have hh:((if has then[h]else[]).filter (cov a)).length<=1:=by
   split
   .exact List.length_filter_le _ _
   .simp
  have hz:((ZbE k0).filter (cov a)).length=0\/((ZbE k1).filter (cov a)).length=0:=by
   cases hb:bitN a h.fNet.fBits.toNat with
   |false=>
    refine .inr ?_;rw[Zmo]
    .rfl
    .intro x hx;unfold cov;rw[decide_eq_false_iff_not];intro hq;obtain⟨x1,x2,x3⟩:=b1 x hx;have:=hq _ x1;rw[hb,x3]at this;cases this
   |true=>
    refine .inl ?_;rw[Zmo]
    .rfl
    .intro x hx;unfold cov;rw[decide_eq_false_iff_not];intro hq;obtain⟨x1,x2,x3⟩:=b0 x hx;have:=hq _ x1;rw[hb,x3]at this;cases this
  simp only[ZbE,List.filter_append,List.length_append];omega
theorem ZBV{t:ZaE}(h:GT t)(a:Zaf)(ha:a.ok):∃L,ZfX t a=some L/\L.length<=maxLen/\∀x,x∈L↔x∈Zie t/\hasS x.fNet a=true:=by
 cases t with
 |nil=>exact h.elim
 |mk r4 r6 k=>
  simp only[ZfX,ZkP a ha,Option.bind_some,ZEp];cases hr:Zek a
  .exact⟨[],rfl,by simp,fun x=>by simp[hasS,hr]⟩
  .simp only[Bool.not_true,cond_false];have hw:=Ztm a;have e1:∀(A B:Option (List Zaw)),ix2 0 A B=A:=fun _ _=>rfl;have e2:∀(A B:Option (List Zaw)),ix2 1 A B=B:=fun _ _=>rfl;have hs:∀x:Zaw,RN x.fNet->hasS x.fNet a=(decide (x.fNet.fAddr.fV6=a.fV6)&&cov a x):=fun x hx=>by
    unfold hasS cov;rw[(Zvw hx.ok).2 hx,hr,Bool.true_and,Bool.true_and]
   cases hv:a.fV6 with
   |false=>
    simp only[Bool.false_eq_true,if_false];rw[Zax (by omega),e1,Zwa ha hr hv 1000000 r4 0 f0 [] h.1 (fun i hi=>by omega) (by omega) (by omega) (by simp)];refine⟨_,rfl,by have:=ZrH hv h.1 (by omega);unfold maxLen;simp only[List.nil_append];omega,fun x=>?_⟩;simp only[List.nil_append,List.mem_filter,Zie,List.mem_append];constructor
    .rintro ⟨hx,hc⟩;have:=ZbS h.1 x hx;rw[hs x this.1,this.2.1,hv,hc];exact⟨.inl hx,rfl⟩
    .rintro ⟨hx|hx,hc⟩
     .have:=ZbS h.1 x hx;rw[hs x this.1,Bool.and_eq_true]at hc;exact⟨hx,hc.2⟩
     .have:=ZbS h.2 x hx;rw[hs x this.1,this.2.1,hv]at hc;simp at hc
   |true=>
    simp only[if_true];rw[Zax (by omega),e2,Zwa ha hr hv 1000000 r6 0 f0 [] h.2 (fun i hi=>by omega) (by omega) (by omega) (by simp)];refine⟨_,rfl,by have:=ZrH hv h.2 (by omega);unfold maxLen;simp only[List.nil_append];omega,fun x=>?_⟩;simp only[List.nil_append,List.mem_filter,Zie,List.mem_append];constructor
    .rintro ⟨hx,hc⟩;have:=ZbS h.2 x hx;rw[hs x this.1,this.2.1,hv,hc];exact⟨.inr hx,rfl⟩
    .rintro ⟨hx|hx,hc⟩
     .have:=ZbS h.1 x hx;rw[hs x this.1,this.2.1,hv]at hc;simp at hc
     .have:=ZbS h.2 x hx;rw[hs x this.1,Bool.and_eq_true]at hc;exact⟨hx,hc.2⟩
structure Idx (ap:Int) (t:ZaE) (l:List Zag):Prop where
 gt:GT t
 from_:∀x∈Zie t,∃b∈l,ap<b.fUntil/\b.fNet=x.fNet/\b.fUntil=x.fV
 has:∀b∈l,ap<b.fUntil->Zic b.fNet=true->∃x∈Zie t,x.fNet=b.fNet/\b.fUntil<=x.fV
theorem ZwP{ap:Int}{t:ZaE}{l:List Zag}{b:Zag}(h:Idx ap t l)(hb:ap<b.fUntil->Zic b.fNet=true->∃x∈Zie t,x.fNet=b.fNet/\b.fUntil<=x.fV):Idx ap t (l++[b]):=
 ⟨h.gt,fun x hx=>by obtain⟨c,h1,h2⟩:=h.from_ x hx;exact⟨c,by simp[h1],h2⟩,fun c hc h1 h2=>by
  rcases List.mem_append.1 hc with hc|hc
  .exact h.has c hc h1 h2
  .rw[List.mem_singleton]at hc;subst hc;exact hb h1 h2⟩
theorem ZwO{ap:Int}{t:ZaE}{l:List Zag}{b:Zag}(h:Idx ap t l)(hb:b.fNet.fAddr.ok)(hl:ap<b.fUntil)(ce:∀x∈Zie t,x.fNet=b.fNet->x.fV<=b.fUntil):∃t',ZeT t b.fNet b.fUntil=some t'/\Idx ap t' (l++[b]):=by
 cases hr:Zic b.fNet with
 |true=>
  obtain⟨t',w1,w2,w3⟩:=ZDf h.gt b.fNet hb b.fUntil hr;refine⟨t',w1,w2,fun x hx=>?_,fun c hc h1 h2=>?_⟩
  .rcases(w3 x).1 hx with e|⟨hx,hne⟩
   .subst e;exact⟨b,by simp,hl,rfl,rfl⟩
   .obtain⟨c,h1,h2⟩:=h.from_ x hx;exact⟨c,by simp[h1],h2⟩
  .by_cases e:c.fNet=b.fNet
   .refine⟨⟨b.fNet,b.fUntil⟩,(w3 _).2 (.inl rfl),e.symm,?_⟩;rcases List.mem_append.1 hc with hc|hc
    .obtain⟨x,x1,x2,x3⟩:=h.has c hc h1 h2;have:=ce x x1 (x2.trans e);simp only;omega
    .rw[List.mem_singleton]at hc;subst hc;exact Int.le_refl _
   .rcases List.mem_append.1 hc with hc|hc
    .obtain⟨x,x1,x2,x3⟩:=h.has c hc h1 h2;exact⟨x,(w3 x).2 (.inr ⟨x1,fun q=>e (x2.symm.trans q)⟩),x2,x3⟩
    .rw[List.mem_singleton]at hc;subst hc;exact absurd rfl e
 |false=>
  refine⟨t,?_,ZwP h fun _ q=>by rw[hr]at q;cases q⟩;cases t with
  |nil=>exact h.gt.elim
  |mk r4 r6 k=>
   simp only[ZeT,Zfj,ZnX b.fNet hb,hr,Option.bind_some,Bool.not_false,cond_true]
theorem ZEW(b:Zag)(ap:Int):Zox b ap=some (decide (ap<b.fUntil)):=rfl
theorem ZCx(l:List Zag)(ap:Int)(hl:l.length<=maxLen)(aA:∀b∈l,b.ok):∀fu (i:Nat) (t:ZaE),i<=l.length->l.length-i<fu->Idx ap t (l.take i)->∃t',ZdA ap fu t l (l.length:Int) (i:Int)=some t'/\Idx ap t' l:=by
 intro fu;induction fu with
 |zero=>intro _ _ _ h;omega
 |succ fu ih=>
  intro i t hi hf h;simp only[ZdA,Zai];by_cases hlt:i<l.length
  .rw[if_pos (by omega),Zax ⟨by omega,by omega⟩];simp only[Int.toNat_natCast];have gc:=aA _ (Zjv l Zag.d i hlt);have dA:l.take (i+1)=l.take i++[l.getD i Zag.d]:=by rw[List.take_succ_eq_append_getElem hlt,ZdM l _ i hlt]
   generalize l.getD i Zag.d=b at gc dA ⊢;rw[ZAO h.gt b.fNet gc.1.1,ZEW];simp only[Option.bind_some];rw[add1 hlt hl];have next:∀t',Idx ap t' (l.take i++[b])->∃t'',ZdA ap fu t' l (l.length:Int) ((i+1:Nat):Int)=some t''/\Idx ap t'' l:=fun t' ht'=>ih (i+1) t' (by omega) (by omega) (by rw[dA];exact ht')
   by_cases hlv:ap<b.fUntil
   .rw[decide_eq_true hlv,cond_true];cases hr:Zic b.fNet with
    |false=>
     simp only[Bool.false_eq_true,if_false,Bool.not_false,cond_true];obtain⟨t',s1,s2⟩:=ZwO h gc.1.1 hlv (fun x hx e=>by
      have:=(Zvw gc.1.1).2 (e ▸ Zyl h.gt x hx);rw[hr]at this;cases this)
     rw[s1];exact next t' s2
    |true=>
     simp only[if_true];cases hq:(ZlC (Zie t) b.fNet).2 with
     |false=>
      simp only[Bool.not_false,cond_true];obtain⟨t',s1,s2⟩:=ZwO h gc.1.1 hlv (fun x hx e=>absurd e (ZFU hq x hx));rw[s1];exact next t' s2
     |true=>
      simp only[Bool.not_true,cond_false];obtain⟨y,y1,y2,y3⟩:=ZDZ hq;by_cases hlt2:(ZlC (Zie t) b.fNet).1<b.fUntil
      .rw[if_pos hlt2];obtain⟨t',s1,s2⟩:=ZwO h gc.1.1 hlv (fun x hx e=>by
        have:=ZGi (Zym h.gt) hx y1 (e.trans y2.symm);rw[this];omega)
       rw[s1];exact next t' s2
      .rw[if_neg hlt2];exact next t (ZwP h fun _ _=>⟨y,y1,y2,by omega⟩)
   .rw[decide_eq_false hlv,cond_false];exact next t (ZwP h fun q=>absurd q hlv)
  .rw[if_neg (by omega)];refine⟨t,rfl,?_⟩;rw[List.take_of_length_le (by omega)]at h;exact h
theorem ZFT(l:List Zag)(ap:Int)(hl:l.length<=maxLen)(aA:∀b∈l,b.ok):∃t,Zlm l ap=some t/\Idx ap t l:=by
 have:=ZCx l ap hl aA ((((l.length:Nat):Int)-(0:Int)).toNat+2) 0 (.mk .nil .nil 0) (by omega) (by omega) ⟨⟨trivial,trivial⟩,fun x hx=>by simp[Zie,ZbE]at hx,fun b hb=>by simp at hb⟩;simpa[Zlm,Znz]using this
def Zmv(l:List Zag)(a:Zaf)(ap:Int)(b:Zag):Prop:=b∈l/\ap<b.fUntil/\hasS b.fNet a=true
def Zxr(l:List Zag)(a:Zaf)(ap r:Int):Prop:=(r=0/\∀b,¬Zmv l a ap b)\/∃b,Zmv l a ap b/\r=b.fUntil/\∀c,Zmv l a ap c->c.fUntil<=r
theorem ZCu{l l':List Zag}{a:Zaf}{ap r s:Int}(h:Zxr l a ap r)(h':Zxr l' a ap s)(e:∀b,Zmv l a ap b↔Zmv l' a ap b):r=s:=by
 rcases h with⟨h1,h2⟩|⟨b,h1,h2,h3⟩
 .rcases h' with⟨g1,g2⟩|⟨c,g1,g2,g3⟩
  .omega
  .exact absurd ((e c).2 g1) (h2 c)
 .rcases h' with⟨g1,g2⟩|⟨c,g1,g2,g3⟩
  .exact absurd ((e b).1 h1) (g2 b)
  .have:=h3 c ((e c).2 g1);have:=g3 b ((e b).1 h1);omega
theorem ZFP(L:List Zaw)(hL:L.length<=maxLen):∀fu (i:Nat) (v:Int),i<=L.length->L.length-i<fu->∃r,Zgl fu v L (L.length:Int) (i:Int)=some r/\v<=r/\(∀x∈L.drop i,x.fV<=r)/\(r=v\/∃x∈L.drop i,r=x.fV):=by
 intro fu;induction fu with
 |zero=>intro _ _ _ h;omega
 |succ fu ih=>
  intro i v hi hf;simp only[Zgl,Zai];by_cases h:i<L.length
  .rw[if_pos (by omega),Zax ⟨by omega,by omega⟩];simp only[Int.toNat_natCast];rw[add1 h hL,Zjr L Zaw.d i h];generalize L.getD i Zaw.d=x;obtain⟨r,r1,r2,r3,r4⟩:=ih (i+1) (if x.fV>v then x.fV else v) (by omega) (by omega);refine⟨r,r1,by split at r2<;>omega,fun y hy=>?_,?_⟩
   .rcases List.mem_cons.1 hy with e|hy
    .subst e;split at r2<;>omega
    .exact r3 y hy
   .rcases r4 with e|⟨y,y1,y2⟩
    .split at e
     .exact .inr ⟨x,by simp,e⟩
     .exact .inl e
    .exact .inr ⟨y,by simp[y1],y2⟩
  .rw[if_neg (by omega)];have:L.drop i=[]:=List.drop_eq_nil_of_le (by omega);exact⟨v,rfl,Int.le_refl _,by simp[this],.inl rfl⟩
theorem ZFj(l:List Zag)(a:Zaf)(ap:Int)(hl:l.length<=maxLen)(aA:∀b∈l,b.ok)(ha:a.ok):∃r,Ziv l a ap=some r/\Zxr l a ap r:=by
 obtain⟨t,t1,t2⟩:=ZFT l ap hl aA;obtain⟨L,c1,hL,c2⟩:=ZBV t2.gt a ha;simp only[Ziv,t1,c1,Option.bind_some];have one:∀x∈L,∃b,Zmv l a ap b/\b.fUntil=x.fV:=fun x hx=>by
  obtain⟨x1,x2⟩:=(c2 x).1 hx;obtain⟨b,b1,b2,b3,b4⟩:=t2.from_ x x1;exact⟨b,⟨b1,b2,by rw[b3];exact x2⟩,b4⟩
 have jL:∀b,Zmv l a ap b->∃x∈L,b.fUntil<=x.fV:=fun b hb=>by
  have hr:Zic b.fNet=true:=by have:=hb.2.2;unfold hasS at this;rw[Bool.and_eq_true]at this;exact this.1
  obtain⟨x,x1,x2,x3⟩:=t2.has b hb.1 hb.2.1 hr;exact⟨x,(c2 x).2 ⟨x1,by rw[x2];exact hb.2.2⟩,x3⟩
 by_cases h0:L=[]
 .subst h0;refine⟨0,rfl,.inl ⟨rfl,fun b hb=>?_⟩⟩;obtain⟨x,hx,_⟩:=jL b hb;simp at hx
 .have ia:0<L.length:=List.length_pos_iff.2 h0;rw[show (((L.length:Nat):Int)==0)=false by rw[beq_eq_false_iff_ne];omega,cond_false,Zax ⟨by omega,by omega⟩];obtain⟨r,r1,r2,r3,r4⟩:=ZFP L hL ((((L.length:Nat):Int)-(0:Int)).toNat+2) 0 (L.getD (0:Int).toNat Zaw.d).fV (by omega) (by omega);simp only[Int.natCast_zero,List.drop_zero]at r1 r3 r4;refine⟨r,r1,.inr ?_⟩;have bZ:∃x∈L,r=x.fV:=by
   rcases r4 with e|e
   .exact⟨_,Zjv L Zaw.d 0 ia,e⟩
   .exact e
  obtain⟨x,x1,x2⟩:=bZ;obtain⟨b,b1,b2⟩:=one x x1;refine⟨b,b1,by omega,fun c hc=>?_⟩;obtain⟨y,y1,y2⟩:=jL c hc;have:=r3 y y1;omega
theorem Zwq(l:List Zag)(a:Zaf)(ap:Int)(hl:l.length<=maxLen)(aA:∀b∈l,b.ok)(ha:a.ok):∀fu (i:Nat) (v:Int) (q:Bool),i<=l.length->l.length-i<fu ->
  ∃r,ZbQ l ap fu v q (i:Int) a=some r/\(∀b,Zmv (l.drop i) a ap b->b.fUntil<=r)/\(q=true->v<=r)/\(r=v\/∃b,Zmv (l.drop i) a ap b/\r=b.fUntil)/\(q=false->(∃b,Zmv (l.drop i) a ap b)->∃b,Zmv (l.drop i) a ap b/\r=b.fUntil):=by
 intro fu;induction fu with
 |zero=>intro _ _ _ _ h;omega
 |succ fu ih=>
  intro i v q hi hf;simp only[ZbQ,Zai];by_cases h:i<l.length
  .rw[if_pos (by omega),Zax ⟨by omega,by omega⟩];simp only[Int.toNat_natCast];have gc:=aA _ (Zjv l Zag.d i h);rw[add1 h hl,Zjr l Zag.d i h];generalize l.getD i Zag.d=b at gc ⊢;have la:Zgi b a ap=some (decide (ap<b.fUntil)&&hasS b.fNet a):=by
    simp only[Zgi,ZFF _ _ gc.1.1 ha,Zai,gt_iff_lt,Option.bind_some];by_cases h:ap<b.fUntil
    .rw[if_pos h,decide_eq_true h];rfl
    .rw[if_neg h,decide_eq_false h];rfl
   rw[la];simp only[Option.bind_some];have b5:∀c,Zmv (l.drop (i+1)) a ap c->Zmv (b :: l.drop (i+1)) a ap c:=fun c hc=>⟨by simp[hc.1],hc.2⟩;cases hq:(decide (ap<b.fUntil)&&hasS b.fNet a)with
   |false=>
    simp only[cond_false];have aT:∀c,Zmv (b :: l.drop (i+1)) a ap c↔Zmv (l.drop (i+1)) a ap c:=fun c=>by
     refine⟨fun hc=>⟨?_,hc.2⟩,b5 c⟩;rcases List.mem_cons.1 hc.1 with e|hm
     .subst e;rw[decide_eq_true hc.2.1,hc.2.2]at hq;cases hq
     .exact hm
    obtain⟨r,r1,r2,r3,r4,r5⟩:=ih (i+1) v q (by omega) (by omega);refine⟨r,r1,fun c hc=>r2 c ((aT c).1 hc),r3,?_,fun hf hx=>?_⟩
    .rcases r4 with e|⟨c,c1,c2⟩
     .exact .inl e
     .exact .inr ⟨c,b5 c c1,c2⟩
    .obtain⟨c,hc⟩:=hx;obtain⟨d,d1,d2⟩:=r5 hf ⟨c,(aT c).1 hc⟩;exact⟨d,b5 d d1,d2⟩
   |true=>
    simp only[cond_true];rw[Bool.and_eq_true,decide_eq_true_eq]at hq;have hb:Zmv (b :: l.drop (i+1)) a ap b:=⟨by simp,hq⟩
    -- what follows from a step that took b's,or something longer
    have step:∀v',b.fUntil<=v'->(q=true->v<=v')->(v'=b.fUntil\/(q=true/\v'=v))->∃r,ZbQ l ap fu v' true ((i+1:Nat):Int) a=some r/\(∀c,Zmv (b :: l.drop (i+1)) a ap c->c.fUntil<=r)/\(q=true->v<=r)/\(r=v\/∃c,Zmv (b :: l.drop (i+1)) a ap c/\r=c.fUntil)/\(q=false->(∃c,Zmv (b :: l.drop (i+1)) a ap c)->∃c,Zmv (b :: l.drop (i+1)) a ap c/\r=c.fUntil):=by
     intro v' g1 g2 g3;obtain⟨r,r1,r2,r3,r4,r5⟩:=ih (i+1) v' true (by omega) (by omega);have r3':=r3 rfl;refine⟨r,r1,fun c hc=>?_,fun dC=>by have:=g2 dC;omega,?_,fun hf _=>?_⟩
     .rcases List.mem_cons.1 hc.1 with e|hm
      .subst e;omega
      .exact r2 c ⟨hm,hc.2⟩
     .rcases r4 with e|⟨c,c1,c2⟩
      .rcases g3 with e2|⟨_,e2⟩
       .exact .inr ⟨b,hb,by omega⟩
       .exact .inl (by omega)
      .exact .inr ⟨c,b5 c c1,c2⟩
     .rcases r4 with e|⟨c,c1,c2⟩
      .rcases g3 with e2|⟨e1,_⟩
       .exact⟨b,hb,by omega⟩
       .rw[hf]at e1;cases e1
      .exact⟨c,b5 c c1,c2⟩
    cases q with
    |false=>
     rw[Bool.not_false,cond_true];exact step b.fUntil (Int.le_refl _) (fun h=>by cases h) (.inl rfl)
    |true=>
     rw[Bool.not_true,cond_false];by_cases hgt:b.fUntil>v
     .rw[if_pos hgt];exact step b.fUntil (Int.le_refl _) (fun _=>by omega) (.inl rfl)
     .rw[if_neg hgt];exact step v (by omega) (fun _=>Int.le_refl _) (.inr ⟨rfl,rfl⟩)
  .rw[if_neg (by omega)];have:l.drop i=[]:=List.drop_eq_nil_of_le (by omega);rw[this];exact⟨v,rfl,fun b hb=>by simp[Zmv]at hb,fun _=>Int.le_refl _,.inl rfl,fun _ ⟨b,hb⟩=>by simp[Zmv]at hb⟩
theorem Zzz(l:List Zag)(a:Zaf)(ap:Int)(hl:l.length<=maxLen)(aA:∀b∈l,b.ok)(ha:a.ok):∃r,ZeQ l a ap=some r/\Zxr l a ap r:=by
 obtain⟨r,r1,r2,r3,r4,r5⟩:=Zwq l a ap hl aA ha ((((l.length:Nat):Int)-(0:Int)).toNat+2) 0 0 false (by omega) (by omega);simp only[Int.natCast_zero,List.drop_zero]at r1 r2 r4 r5;refine⟨r,r1,?_⟩;by_cases h:∃b,Zmv l a ap b
 .obtain⟨b,b1,b2⟩:=r5 trivial h;exact .inr ⟨b,b1,b2,r2⟩
 .refine .inl ⟨?_,fun b hb=>h ⟨b,hb⟩⟩;rcases r4 with e|⟨b,b1,_⟩
  .exact e
  .exact absurd ⟨b,b1⟩ h
def u64r(x:Int):Prop:=0<=x/\x<=18446744073709551615
theorem ZnZ(a:Int):u64r (IntKind.wrap .u64 a):=by
 unfold u64r;simp only[IntKind.wrap,IntKind.bits,IntKind.signed];simp;omega
theorem ZGt{a:Int}(h:u64r a):IntKind.wrap .u64 a=a:=ZhV h.1 h.2
theorem Zsr{a:Int}(h:u64r a)(k:Int)(hk:0<k):IntKind.wrap .u64 (Int.tdiv a k)=Int.fdiv a k:=by
 obtain⟨n,rfl⟩ : ∃n:Nat,a=n:=⟨a.toNat,by have:=h.1;omega⟩;obtain⟨m,rfl⟩ : ∃m:Nat,k=m:=⟨k.toNat,by omega⟩;have h1:=h.2;rw[Int.fdiv_eq_tdiv_of_nonneg (by omega) (by omega)];refine ZGt ⟨Int.tdiv_nonneg (by omega) (by omega),?_⟩;have:Int.tdiv (n:Int) (m:Int)<=(n:Int):=by
  rw[<-Int.ofNat_tdiv];have:=Nat.div_le_self n m;omega
 omega
theorem pw30:(2:Int) ^ (min (30:Int).toNat (IntKind.bits .u64))=1073741824:=by decide
theorem pw27:(2:Int) ^ (min (27:Int).toNat (IntKind.bits .u64))=134217728:=by decide
theorem pw31:(2:Int) ^ (min (31:Int).toNat (IntKind.bits .u64))=2147483648:=by decide
theorem pw32:(2:Int) ^ (min (32:Int).toNat (IntKind.bits .u64))=4294967296:=by decide
theorem pw57:(2:Int) ^ (min (57:Int).toNat (IntKind.bits .u64))=144115188075855872:=by decide
theorem pw7:(2:Int) ^ (min (7:Int).toNat (IntKind.bits .u64))=128:=by decide
theorem ZzL(x:Int)(h:u64r x):∃y,Zme x=some y/\ZeI x=some y/\u64r y:=by
 unfold Zme ZeI;simp only[pw30,pw27,pw31,Zsr h 1073741824 (by omega),Zsr (ZnZ _) 134217728 (by omega),Zsr (ZnZ _) 2147483648 (by omega)];exact⟨_,rfl,rfl,ZnZ _⟩
theorem ZHP(a b:Nat)(ha:a<2 ^ 64)(hb:b<2 ^ 64):IntKind.u64.wrap (((BitVec.ofInt (IntKind.bits .u64) (a:Int)) ||| (BitVec.ofInt (IntKind.bits .u64) (b:Int))).toNat:Int)=((a |||b:Nat):Int):=by
 have h1:∀c:Nat,c<2 ^ 64->(BitVec.ofInt 64 (c:Int)).toNat=c:=fun c hc=>by
  rw[BitVec.ofInt_natCast,BitVec.toNat_ofNat];exact Nat.mod_eq_of_lt hc
 have h2:((BitVec.ofInt (IntKind.bits .u64) (a:Int)) ||| (BitVec.ofInt (IntKind.bits .u64) (b:Int))).toNat=a |||b:=by
  show (BitVec.ofInt 64 (a:Int) |||BitVec.ofInt 64 (b:Int)).toNat=a |||b;rw[BitVec.toNat_or,h1 a ha,h1 b hb]
 rw[h2];have:=Nat.or_lt_two_pow ha hb;exact ZhV (by omega) (by omega)
theorem rot7(x:Int)(h:u64r x):Zep x 7=some (IntKind.wrap .u64 (IntKind.wrap .u64 (x * 128)+IntKind.wrap .u64 (Int.tdiv x 144115188075855872))):=by
 unfold Zep;have e7:IntKind.wrap .u64 (((BitVec.ofInt (IntKind.bits .u64) (IntKind.wrap .u64 (7:Int))) &&& (BitVec.ofInt (IntKind.bits .u64) (63:Int))).toNat:Int)=7:=by decide
 have e57:IntKind.wrap .u64 ((64:Int)-7)=57:=by decide
 simp only[e7,e57,pw57,pw7];rw[Zax (by omega),Zax (by omega),Zsr h 144115188075855872 (by omega)];obtain⟨n,rfl⟩ : ∃n:Nat,x=n:=⟨x.toNat,by have:=h.1;omega⟩;have h1:=h.2;have e1:IntKind.wrap .u64 ((n:Int) * 128)=((n % 2 ^ 57 * 128:Nat):Int):=by
  simp only[IntKind.wrap,IntKind.bits,IntKind.signed];simp;omega
 have e2:Int.fdiv (n:Int) 144115188075855872=((n / 2 ^ 57:Nat):Int):=by
  rw[Int.fdiv_eq_tdiv_of_nonneg (by omega) (by omega)];exact(Int.ofNat_tdiv n 144115188075855872).symm
 have hlt:n % 2 ^ 57 * 128<2 ^ 64:=by omega
 have hlt2:n / 2 ^ 57<2 ^ 7:=by omega
 rw[e1,e2,ZHP _ _ hlt (by omega)];have e3:n % 2 ^ 57 * 128 |||n / 2 ^ 57=n % 2 ^ 57 * 128+n / 2 ^ 57:=by
  have:=Nat.shiftLeft_add_eq_or_of_lt hlt2 (n % 2 ^ 57);rw[Nat.shiftLeft_eq]at this;exact this.symm
 rw[e3];congr 1;rw[ZhV (by omega) (by omega)];omega
theorem ZGz(k:Int)(l:List Int)(hl:l.length<=1000):∃h,ZpQ k l=some h/\Zga k l=some h/\u64r h:=by
 have hL:l.length<=maxLen:=by unfold maxLen;omega
 have az:∀fu (i:Nat) (v:Int),u64r v->i<=l.length->l.length-i<fu->∃h,ZjE fu v l (l.length:Int) (i:Int)=some h/\ZdP l fu v (i:Int)=some h/\u64r h:=by
  intro fu;induction fu with
  |zero=>intro i v _ _ h;omega
  |succ fu ih=>
   intro i v hv hi hf;unfold ZjE ZdP;simp only[Zai];by_cases h:i<l.length
   .rw[if_pos (by omega),if_pos (by omega),Zax ⟨by omega,by omega⟩,Zax ⟨by omega,by omega⟩,rot7 v hv];obtain⟨y,h1,h2,h3⟩:=ZzL _ (ZnZ ((l.getD ((i:Int)).toNat (0:Int))+(11400714819323198485:Int)));simp only[h1,h2,Option.bind_some];obtain⟨z,h4,h5,h6⟩:=ZzL _ (ZnZ (((BitVec.ofInt (IntKind.bits .u64) (IntKind.wrap .u64 (IntKind.wrap .u64 (v * 128)+IntKind.wrap .u64 (Int.tdiv v 144115188075855872)))) ^^^ (BitVec.ofInt (IntKind.bits .u64) y)).toNat:Int));simp only[h4,h5,Option.bind_some,add1 h hL];exact ih (i+1) z h6 (by omega) (by omega)
   .rw[if_neg (by omega),if_neg (by omega)];exact⟨v,rfl,rfl,hv⟩
 unfold ZpQ Zga;obtain⟨y,h1,h2,h3⟩:=ZzL _ (ZnZ (k+(11400714819323198485:Int)));simp only[h1,h2,Option.bind_some];exact az _ 0 y h3 (by omega) (by omega)
theorem ZzM(k:Int)(n:Zap):∃h,Zmf k n=some h/\ZdX k n=some h/\u64r h:=by
 unfold Zmf ZdX;cases n.fAddr.fV6
 .obtain⟨h,h1,h2,h3⟩:=ZGz k [(4:Int),n.fAddr.fHi,n.fAddr.fLo,(IntKind.wrap .u64 n.fBits)] (by simp);simp only[cond_false,h1,h2,Option.bind_some];exact⟨h,rfl,rfl,h3⟩
 .obtain⟨h,h1,h2,h3⟩:=ZGz k [(6:Int),n.fAddr.fHi,n.fAddr.fLo,(IntKind.wrap .u64 n.fBits)] (by simp);simp only[cond_true,h1,h2,Option.bind_some];exact⟨h,rfl,rfl,h3⟩
theorem ZGg(h n:Int)(hh:u64r h)(h1:1<=n)(h8:n<=8):∃r,Zmg h n=some r/\ZfL h n=some r/\0<=r/\r<n:=by
 unfold Zmg ZfL;simp only[Zai,pw32];rw[if_neg (by omega),if_neg (by omega),if_neg (by omega),if_neg (by omega),Zsr hh 4294967296 (by omega),Zsr (ZnZ _) 4294967296 (by omega)];refine⟨_,rfl,rfl,?_⟩;obtain⟨a,rfl⟩ : ∃a:Nat,h=a:=⟨h.toNat,by have:=hh.1;omega⟩;have h2:=hh.2;have e1:Int.fdiv (a:Int) 4294967296=((a / 4294967296:Nat):Int):=by
  rw[Int.fdiv_eq_tdiv_of_nonneg (by omega) (by omega)];exact(Int.ofNat_tdiv a 4294967296).symm
 rw[e1,ZGt (a:=n) ⟨by omega,by omega⟩];have hb:∀m:Nat,1<=m->m<=8->a / 4294967296*m<4294967296*m:=fun m h1 h2=>by
  have:a / 4294967296<4294967296:=by omega
  exact Nat.mul_lt_mul_of_pos_right this (by omega)
 obtain⟨m,rfl⟩ : ∃m:Nat,n=m:=⟨n.toNat,by omega⟩;have hb:=hb m (by omega) (by omega);generalize hq:a / 4294967296*m=q at hb;have e2:((a / 4294967296:Nat):Int)*(m:Int)=(q:Int):=by rw[<-hq];simp
 rw[e2,ZhV (a:=(q:Int)) (by omega) (by omega)];have e3:Int.fdiv (q:Int) 4294967296=((q / 4294967296:Nat):Int):=by
  rw[Int.fdiv_eq_tdiv_of_nonneg (by omega) (by omega)];exact(Int.ofNat_tdiv q 4294967296).symm
 rw[e3,ZkI (by omega) (by omega)];omega
theorem ZCt{a:Zaf}(h:Fits a):ZjD a (wid a)=a:=by
 refine ZrL (ZjJ h _) h (ZiB a _) fun i hi=>?_;have hw:wid (ZjD a (wid a))=wid a:=by unfold wid;rw[ZiB]
 rw[hw]at hi;rw[ZkZ h (wid a) i (Nat.le_refl _) hi,decide_eq_true hi,Bool.true_and]
def ZEo(a:Zaf):Zap:=if Zek a=true then⟨a,(wid a:Int)⟩else⟨⟨false,0,0⟩,0⟩
theorem ZEP(a:Zaf)(h:a.ok):Zmm a=some (ZEo a):=by
 unfold Zmm ZEo;simp only[ZAE,Option.bind_some,ZzO a h];by_cases hr:Zek a=true
 .rw[if_pos ⟨hr,by omega,by omega⟩,if_pos hr];simp only[Int.toNat_natCast,ZCt (Zoz h hr)]
 .rw[if_neg (fun x=>hr x.1),if_neg hr]
theorem ZGb(hi lo:Nat)(h1:hi<2 ^ 64)(h2:lo<2 ^ 64):∀fu (i:Nat) (z:Int),i<=64->64-i<fu->(i<64->z=((2 ^ (63-i):Nat):Int)) ->
  ZbL (hi:Int) (lo:Int) 128 fu ((hi-hi % 2 ^ (64-i):Nat):Int) ((lo-lo % 2 ^ (64-i):Nat):Int) z (i:Int)=some ((hi:Int),(lo:Int)):=by
 intro fu;induction fu with
 |zero=>intro i z _ h;omega
 |succ fu ih=>
  intro i z hi64 hf hz;unfold ZbL;simp only[Zai];by_cases h:i<64
  .have e1:Zar (i:Int) 64=((i+64:Nat):Int):=by rw[Zdg (by omega) (by omega)];omega
   have e2:Zar (i:Int) 1=((i+1:Nat):Int):=by rw[Zdg (by omega) (by omega)];omega
   have hz:=hz h;obtain⟨p,hp⟩ : ∃p:Nat,p=2 ^ (63-i):=⟨_,rfl⟩;have hp0:0<p:=by rw[hp];exact Nat.two_pow_pos _
   have aS:2 ^ (64-i)=2*p:=by rw[hp,show 64-i=(63-i)+1 by omega,Nat.pow_succ];omega
   have hp3:p<=2 ^ 63:=by rw[hp];exact Nat.pow_le_pow_right (by omega) (by omega)
   have bc:p<2 ^ 64:=by omega
   rw[<-hp]at hz;subst hz;have ju:IntKind.wrap .u64 (Int.tdiv (p:Int) 2)=((p / 2:Nat):Int):=by
    rw[Zsr ⟨by omega,by omega⟩ 2 (by omega),Int.fdiv_eq_tdiv_of_nonneg (by omega) (by omega)];exact(Int.ofNat_tdiv p 2).symm
   have cf:i+1<64->((p / 2:Nat):Int)=((2 ^ (63-(i+1)):Nat):Int):=fun hh=>by
    have:p=2 * 2 ^ (63-(i+1)):=by rw[hp,show 63-i=(63-(i+1))+1 by omega,Nat.pow_succ];omega
    rw[this];congr 1;omega
   have bit:∀n:Nat,n<2 ^ 64->IntKind.wrap .u64 (Int.tdiv (n:Int) (p:Int))=((n / p:Nat):Int):=fun n hn=>by
    rw[Zsr ⟨by omega,by omega⟩ _ (by omega),Int.fdiv_eq_tdiv_of_nonneg (by omega) (by omega)];exact(Int.ofNat_tdiv n p).symm
   have step:∀n:Nat,n<2 ^ 64->(n / p % 2=1->IntKind.wrap .u64 (((n-n % 2 ^ (64-i):Nat):Int)+(p:Int))=((n-n % 2 ^ (64-(i+1)):Nat):Int))/\(n / p % 2≠1->((n-n % 2 ^ (64-i):Nat):Int)=((n-n % 2 ^ (64-(i+1)):Nat):Int)):=fun n hn=>by
    have e:2 ^ (64-(i+1))=p:=by rw[hp];congr 1;omega
    rw[e,aS];have hm:n % (2*p)=n % p+p*(n / p % 2):=by rw[Nat.mul_comm 2 p];exact Nat.mod_mul
    have hm2:n % p<p:=Nat.mod_lt _ hp0;have hm3:n % (2*p)<=n:=Nat.mod_le _ _;refine⟨fun hb=>?_,fun hb=>?_⟩
    .rw[hb,Nat.mul_one]at hm;rw[ZhV (by omega) (by omega)];omega
    .have bH:n / p % 2=0:=by omega
     rw[bH,Nat.mul_zero]at hm;rw[hm];congr 1
   have tm:∀n:Nat,((Int.tmod ((n:Nat):Int) 2)==(1:Int))=decide (n % 2=1):=fun n=>by
    have:Int.tmod ((n:Nat):Int) 2=((n % 2:Nat):Int):=(Int.ofNat_tmod n 2).symm;rw[this];by_cases hh:n % 2=1
    .rw[hh];rfl
    .rw[decide_eq_false hh];exact beq_false_of_ne (by omega)
   have fg:∀v8:Int,v8=((hi-hi % 2 ^ (64-(i+1)):Nat):Int)->Zdw (hi:Int) (lo:Int) 128 ((lo-lo % 2 ^ (64-i):Nat):Int) (p:Int) (i:Int) (ZbL (hi:Int) (lo:Int) 128 fu) v8=some ((hi:Int),(lo:Int)):=by
    rintro v8 rfl;unfold Zdw;simp only[Zai,e1,e2,ju,bit lo h2,tm];rw[if_pos (by omega),Zax (by omega)];by_cases hb:lo / p % 2=1
    .rw[if_pos hb,(step lo h2).1 hb];exact ih (i+1) _ (by omega) (by omega) cf
    .rw[if_neg hb,(step lo h2).2 hb];exact ih (i+1) _ (by omega) (by omega) cf
   rw[if_pos (by omega),if_pos (by omega),Zax (by omega)];simp only[bit hi h1,tm,Zai];by_cases hb:hi / p % 2=1
   .rw[if_pos hb];exact fg _ ((step hi h1).1 hb)
   .rw[if_neg hb];exact fg _ ((step hi h1).2 hb)
  .have:i=64:=by omega
   subst this;rw[if_neg (by omega)];simp[Nat.mod_one]
theorem ZDA(hi lo:Nat)(h1:hi<2 ^ 64)(h2:lo<2 ^ 64):ZdY (hi:Int) (lo:Int) 128=some ((hi:Int),(lo:Int)):=by
 unfold ZdY;have:=ZGb hi lo h1 h2 66 0 9223372036854775808 (by omega) (by omega) (fun _=>by decide);have e1:hi-hi % 2 ^ (64-0)=0:=by rw[Nat.sub_zero,Nat.mod_eq_of_lt h1];omega
 have e2:lo-lo % 2 ^ (64-0)=0:=by rw[Nat.sub_zero,Nat.mod_eq_of_lt h2];omega
 rw[e1,e2]at this;exact this
theorem ZFC(a:Zaf)(h:a.ok):Zgj a=some (ZEo a):=by
 unfold Zgj ZhG ZEo;simp only[ZsS,Option.bind_some,ZlR a h,Zai];by_cases hr:Zek a=true
 .rw[hr,Bool.not_true,cond_false,if_neg (by omega),if_neg (by omega),if_pos rfl];unfold ZhF Zff Zfe;simp only[ZlR a h,hr,Bool.not_true,cond_false,Option.bind_some,Zai,ZsS];rw[if_neg (by omega),if_neg (by omega)];have hf:=Zoz h hr;obtain⟨v6,hi,lo⟩:=a;have a1:=hf.hi0;have a2:=hf.hi1;have a3:=hf.lo0;have a4:=hf.lo1;simp only at a1 a2 a3 a4;obtain⟨x,rfl⟩ : ∃x:Nat,hi=x:=⟨hi.toNat,by omega⟩;obtain⟨y,rfl⟩ : ∃y:Nat,lo=y:=⟨lo.toNat,by omega⟩;cases v6
  .have hv:=hf.v4 rfl;have e:wid ⟨false,(x:Int),(y:Int)⟩=32:=rfl;have e1:Zar (96:Int) ((32:Nat):Int)=128:=by decide
   simp only[e,e1,cond_false];have:=ZDA 0 y (by omega) (by omega);have e0:ZdY (0:Int) (y:Int) 128=some (((0:Nat):Int),(y:Int)):=this;rw[e0,Option.bind_some];simp only at hv;simp[hv.1]
  .have e:wid ⟨true,(x:Int),(y:Int)⟩=128:=rfl;simp only[e,cond_true];have:=ZDA x y (by omega) (by omega);have e0:ZdY (x:Int) (y:Int) ((128:Nat):Int)=some ((x:Int),(y:Int)):=this;rw[e0,Option.bind_some];rfl
 .simp[hr]
def ZxX(a:Zaf)(s n:Int):Int:=(ZkL a s n).getD 0
def Znp(p:Int):Int:=if p<1 then 1 else if p>8 then 8 else p
theorem ZqS(a:Zaf)(h:a.ok)(s n:Int):ZkL a s n=some (ZxX a s n)/\Zdh a s n=some (ZxX a s n)/\0<=ZxX a s n/\ZxX a s n<Znp n:=by
 have e1:Zkf n=some (Znp n):=by
  unfold Zkf Znp;congr 1
  repeat' split
  all_goals omega
 have e2:ZcN n=some (Znp n):=by
  unfold ZcN Znp;simp only[Zai]
  repeat' split
  all_goals rfl
 have e3:1<=Znp n/\Znp n<=8:=by
  unfold Znp
  repeat' split
  all_goals omega
 obtain⟨m,h1,h2,h3⟩:=ZzM s (ZEo a);obtain⟨r,h4,h5,h6,h7⟩:=ZGg m (Znp n) h3 e3.1 e3.2;have q1:ZkL a s n=some r:=by
  unfold ZkL;simp only[ZEP a h,h1,e1,h4,Option.bind_some]
 have q2:Zdh a s n=some r:=by
  unfold Zdh;simp only[ZFC a h,h2,e2,h5,Option.bind_some]
 have q3:ZxX a s n=r:=by unfold ZxX;rw[q1];rfl
 rw[q3];exact⟨q1,q2,h6,h7⟩
def grp(a:Zaf):Zap:=if Zek a then(if a.fV6 then⟨⟨true,a.fHi-a.fHi % 4294967296,0⟩,32⟩else⟨⟨false,0,a.fLo-a.fLo % 65536⟩,16⟩)else⟨⟨false,0,0⟩,0⟩
theorem top16:Zfl 16=some 18446462598732840960:=by decide +kernel
theorem top32:Zfl 32=some 18446744069414584320:=by decide +kernel
theorem topm:Zfl (ZaQ 32 64)=some 0:=by decide +kernel
theorem ZBO(n k:Nat)(hk:k<=64)(h:n<2 ^ 64):n &&& (2 ^ 64-2 ^ k)=n-n % 2 ^ k:=by
 have h1:n-n % 2 ^ k=2 ^ k*(n / 2 ^ k):=by have:=Nat.div_add_mod n (2 ^ k);omega
 rw[h1];apply Nat.eq_of_testBit_eq;intro i;have h2:2 ^ 64-2 ^ k=2 ^ k*(2 ^ (64-k)-1):=by
  rw[Nat.mul_sub,<-Nat.pow_add,Nat.mul_one];congr 2;omega
 rw[Nat.testBit_and,h2,Nat.testBit_two_pow_mul,Nat.testBit_two_pow_mul,Nat.testBit_two_pow_sub_one,Nat.testBit_div_two_pow];by_cases hi:k<=i
 .by_cases h3:i<64
  .simp[hi,show i-k<64-k by omega,show i-k+k=i by omega]
  .have:n.testBit i=false:=Nat.testBit_lt_two_pow (Nat.lt_of_lt_of_le h (Nat.pow_le_pow_right (by omega) (by omega)));simp[hi,this,show i-k+k=i by omega]
 .simp[hi]
theorem ZIg(n:Nat)(h:n<4294967296):n &&& 4294901760=n-n % 65536:=by
 have h1:=ZBO n 16 (by omega) (by omega);have h2:n &&& 4294901760=n &&& (2 ^ 64-2 ^ 16):=by
  apply Nat.eq_of_testBit_eq;intro i;rw[Nat.testBit_and,Nat.testBit_and];by_cases hi:i<32
  .congr 1;have:∀i:Fin 32,Nat.testBit 4294901760 i.val=Nat.testBit (2 ^ 64-2 ^ 16) i.val:=by decide
   exact this ⟨i,hi⟩
  .have:n.testBit i=false:=Nat.testBit_lt_two_pow (Nat.lt_of_lt_of_le h (Nat.pow_le_pow_right (n:=2) (by omega) (show 32<=i by omega)));rw[this];rfl
 rw[h2,h1]
theorem ZAG(a b:Nat)(ha:a<2 ^ 64)(hb:b<2 ^ 64):IntKind.u64.wrap (((BitVec.ofInt (IntKind.bits .u64) (a:Int)) &&& (BitVec.ofInt (IntKind.bits .u64) (b:Int))).toNat:Int)=((a &&& b:Nat):Int):=by
 rw[ZAF a b ha hb];have:a &&& b<2 ^ 64:=Nat.and_lt_two_pow _ hb;exact ZhV (by omega) (by omega)
theorem ZsZ(a:Zaf)(h:a.ok):ZhS a=some (grp a):=by
 have hr:=ZkP a h;obtain⟨v,hi,lo⟩:=a;obtain⟨_,h1,h2,_⟩:=h;have h1:=ZmV h1;have h2:=ZmV h2;simp only at h1 h2;obtain⟨n,hn⟩:=ZlV h1.1;obtain⟨m,hm⟩:=ZlV h2.1;subst hn hm;cases hv:Zek ⟨v,n,m⟩with
 |false=>
  cases v<;>simp[ZhS,ZjM,ZfD,hr,hv,grp]
 |true=>
  cases v with
  |false=>
   have hc:(n:Int)=0/\(m:Int)<4294967296:=by simpa[Zek]using hv
   have e2:(m &&& 4294901760:Nat)=m-m % 65536:=ZIg m (by omega);have e1:=ZAG m 4294901760 (by omega) (by omega);rw[e2]at e1;have e3:Int.fdiv (18446462598732840960:Int) (2 ^ (min (32:Int).toNat (IntKind.bits .u64)))=((4294901760:Nat):Int):=by decide +kernel
   simp only[ZhS,ZjM,ZfD,hr,hv,Option.bind_some,cond_false,Bool.not_true,ZdT,ZhI,Bool.not_false,cond_true,grp,if_true,Bool.false_eq_true,if_false];simp only[show (decide ((16:Int)<0))=false from rfl,show decide ((16:Int)>32)=false from rfl,cond_false,Option.bind_some];rw[show (if(32:Int)<(if(0:Int)>16 then(0:Int)else 16)then(32:Int)else(if(0:Int)>16 then(0:Int)else 16))=16 from rfl,top16];simp only[Option.bind_some,e3,e1,hc.1];congr 4;omega
  |true=>
   have e1:=ZAG n 18446744069414584320 (by omega) (by omega);have e2:=ZBO n 32 (by omega) (by omega);rw[show (2:Nat) ^ 64-2 ^ 32=18446744069414584320 from rfl,show (2:Nat) ^ 32=4294967296 from rfl]at e2;rw[e2]at e1;have e3:=ZAG m 0 (by omega) (by omega);rw[Nat.and_zero]at e3;simp only[ZhS,ZjM,ZfD,hr,hv,Option.bind_some,cond_false,Bool.not_true,ZdT,ZhI,Bool.not_false,cond_true,grp,if_true,Bool.false_eq_true,if_false];simp only[show (decide ((32:Int)<0))=false from rfl,show decide ((32:Int)>128)=false from rfl,cond_false,Option.bind_some];rw[show (if(128:Int)<(if(0:Int)>32 then(0:Int)else 32)then(128:Int)else(if(0:Int)>32 then(0:Int)else 32))=32 from rfl];simp only[Zks,top32,topm,Option.bind_some];simp only[show ((18446744069414584320:Int))=((18446744069414584320:Nat):Int)from rfl,show (0:Int)=((0:Nat):Int)from rfl,e1,e3];congr 4;omega
theorem ZAX(a:Zaf)(h:a.ok):Zdj a=some (grp a):=by
 have hr:=ZlR a h;obtain⟨v,hi,lo⟩:=a;obtain⟨_,h1,h2,_⟩:=h;have h1:=ZmV h1;have h2:=ZmV h2;simp only at h1 h2;have t1:Int.tmod hi 4294967296=hi % 4294967296:=Int.tmod_eq_emod_of_nonneg h1.1;have t2:Int.tmod lo 65536=lo % 65536:=Int.tmod_eq_emod_of_nonneg h2.1;cases hv:Zek ⟨v,hi,lo⟩with
 |false=>simp[Zdj,hr,hv,grp]
 |true=>
  cases v with
  |false=>
   simp only[Zdj,hr,hv,Option.bind_some,cond_false,Bool.not_true,grp,if_true,Bool.false_eq_true,if_false,t2];rw[ZhV (by omega) (by omega)]
  |true=>
   simp only[Zdj,hr,hv,Option.bind_some,cond_false,Bool.not_true,grp,if_true,cond_true,t1];rw[ZhV (by omega) (by omega)]
end Go.Proofs.YtmnloegcpaahcaaGreat
