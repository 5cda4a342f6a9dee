import Derived.Test.YtmnloegcpaahcaaGreatDPlEb
import Derived.Test.YtmnloegcpaahcaaGreatDMdiA4
import Derived.Test.YtmnloegcpaahcaaGreatDPlA
namespace Go.Proofs.YtmnloegcpaahcaaGreat
set_option linter.unusedSectionVars false
set_option linter.unusedSimpArgs false
set_option linter.unusedVariables false
def grp(a:Zah):Zae:=if Zdj a then(if a.fV6 then⟨⟨true,a.fHi-a.fHi % 4294967296,0⟩,32⟩else⟨⟨false,0,a.fLo-a.fLo % 65536⟩,16⟩)else⟨⟨false,0,0⟩,0⟩
theorem top16:ZfG 16=some 18446462598732840960:=by decide +kernel
theorem top32:ZfG 32=some 18446744069414584320:=by decide +kernel
theorem topm:ZfG (ZaG 32 64)=some 0:=by decide +kernel
theorem ZEu(n k:Nat)(f:k<=64)(h:n<2 ^ 64):n &&& (2 ^ 64-2 ^ k)=n-n % 2 ^ k:=by
 have d:n-n % 2 ^ k=2 ^ k*(n / 2 ^ k):=by have:=Nat.div_add_mod n (2 ^ k);omega
 rw[d];apply Nat.eq_of_testBit_eq;intro i;have e:2 ^ 64-2 ^ k=2 ^ k*(2 ^ (64-k)-1):=by
  rw[Nat.mul_sub,<-Nat.pow_add,Nat.mul_one];congr 2;omega
 rw[Nat.testBit_and,e,Nat.testBit_two_pow_mul,Nat.testBit_two_pow_mul,Nat.testBit_two_pow_sub_one,Nat.testBit_div_two_pow];by_cases b:k<=i
 .by_cases g:i<64
  .simp[b,show i-k<64-k by omega,show i-k+k=i by omega]
  .have:n.testBit i=false:=Nat.testBit_lt_two_pow (Nat.lt_of_lt_of_le h (Nat.pow_le_pow_right (by omega) (by omega)));simp[b,this,show i-k+k=i by omega]
 .simp[b]
theorem ZMc(n:Nat)(h:n<4294967296):n &&& 4294901760=n-n % 65536:=by
 have b:=ZEu n 16 (by omega) (by omega);have d:n &&& 4294901760=n &&& (2 ^ 64-2 ^ 16):=by
  apply Nat.eq_of_testBit_eq;intro i;rw[Nat.testBit_and,Nat.testBit_and];by_cases e:i<32
  .congr 1;have:∀i:Fin 32,Nat.testBit 4294901760 i.val=Nat.testBit (2 ^ 64-2 ^ 16) i.val:=by decide
   exact this ⟨i,e⟩
  .have:n.testBit i=false:=Nat.testBit_lt_two_pow (Nat.lt_of_lt_of_le h (Nat.pow_le_pow_right (n:=2) (by omega) (show 32<=i by omega)));rw[this];rfl
 rw[d,b]
theorem ZzI(a b:Nat)(d:a<2 ^ 64)(hb:b<2 ^ 64):IntKind.u64.wrap (((BitVec.ofInt (IntKind.bits .u64) (a:Int)) &&& (BitVec.ofInt (IntKind.bits .u64) (b:Int))).toNat:Int)=((a &&& b:Nat):Int):=by
 rw[ZDg a b d hb];have:a &&& b<2 ^ 64:=Nat.and_lt_two_pow _ hb;exact ZhU (by omega) (by omega)
theorem ZpB(a:Zah)(h:a.ok):ZgK a=some (grp a):=by
 have j:=ZkK a h;obtain⟨v,t,lo⟩:=a;obtain⟨_,d,e,_⟩:=h;have d:=ZjS d;have e:=ZjS e;simp only at d e;obtain⟨n,o⟩:=ZjX d.1;obtain⟨m,p⟩:=ZjX e.1;subst o p;cases f:Zdj ⟨v,n,m⟩with
 |false=>
  cases v<;>simp[ZgK,ZkC,Zhb,j,f,grp]
 |true=>
  cases v with
  |false=>
   have r:(n:Int)=0/\(m:Int)<4294967296:=by simpa[Zdj]using f
   have g:(m &&& 4294901760:Nat)=m-m % 65536:=ZMc m (by omega);have b:=ZzI m 4294901760 (by omega) (by omega);rw[g]at b;have i:Int.fdiv (18446462598732840960:Int) (2 ^ (min (32:Int).toNat (IntKind.bits .u64)))=((4294901760:Nat):Int):=by decide +kernel
   simp only[ZgK,ZkC,Zhb,j,f,Option.bind_some,cond_false,Bool.not_true,Zex,ZiM,Bool.not_false,cond_true,grp,if_true,Bool.false_eq_true,if_false];simp only[show (decide ((16:Int)<0))=false from rfl,show decide ((16:Int)>32)=false from rfl,cond_false,Option.bind_some];rw[show (if(32:Int)<(if(0:Int)>16 then(0:Int)else 16)then(32:Int)else(if(0:Int)>16 then(0:Int)else 16))=16 from rfl,top16];simp only[Option.bind_some,i,b,r.1];congr 4;omega
  |true=>
   have b:=ZzI n 18446744069414584320 (by omega) (by omega);have g:=ZEu n 32 (by omega) (by omega);rw[show (2:Nat) ^ 64-2 ^ 32=18446744069414584320 from rfl,show (2:Nat) ^ 32=4294967296 from rfl]at g;rw[g]at b;have i:=ZzI m 0 (by omega) (by omega);rw[Nat.and_zero]at i;simp only[ZgK,ZkC,Zhb,j,f,Option.bind_some,cond_false,Bool.not_true,Zex,ZiM,Bool.not_false,cond_true,grp,if_true,Bool.false_eq_true,if_false];simp only[show (decide ((32:Int)<0))=false from rfl,show decide ((32:Int)>128)=false from rfl,cond_false,Option.bind_some];rw[show (if(128:Int)<(if(0:Int)>32 then(0:Int)else 32)then(128:Int)else(if(0:Int)>32 then(0:Int)else 32))=32 from rfl];simp only[Zlp,top32,topm,Option.bind_some];simp only[show ((18446744069414584320:Int))=((18446744069414584320:Nat):Int)from rfl,show (0:Int)=((0:Nat):Int)from rfl,b,i];congr 4;omega
theorem ZDu(a:Zah)(h:a.ok):Zdo a=some (grp a):=by
 have e:=ZjW a h;obtain⟨v,f,lo⟩:=a;obtain⟨_,b,d,_⟩:=h;have b:=ZjS b;have d:=ZjS d;simp only at b d;have t1:Int.tmod f 4294967296=f % 4294967296:=Int.tmod_eq_emod_of_nonneg b.1;have t2:Int.tmod lo 65536=lo % 65536:=Int.tmod_eq_emod_of_nonneg d.1;cases g:Zdj ⟨v,f,lo⟩with
 |false=>simp[Zdo,e,g,grp]
 |true=>
  cases v with
  |false=>
   simp only[Zdo,e,g,Option.bind_some,cond_false,Bool.not_true,grp,if_true,Bool.false_eq_true,if_false,t2];rw[ZhU (by omega) (by omega)]
  |true=>
   simp only[Zdo,e,g,Option.bind_some,cond_false,Bool.not_true,grp,if_true,cond_true,t1];rw[ZhU (by omega) (by omega)]
def Srt(l:List Zae):Prop:=l.Pairwise fun a b=>cmpN a b<0
theorem Srt.nodup{l:List Zae}(h:Srt l):l.Nodup:=List.Pairwise.imp (fun{a b} hab e=>by subst e;have:=(Zkl (a:=a) (b:=a)).2 rfl;omega) h
def ddN(l:List Zae):Nat->List Zae|0=>[]|m+1=>if 0<m/\l.getD m Zae.d=l.getD (m-1) Zae.d then ddN l m else ddN l m++[l.getD m Zae.d]
theorem Zvx(l:List Zae):∀m,m<=l.length->(∀i,0<i->i<m->l.getD i Zae.d≠l.getD (i-1) Zae.d)->ddN l m=l.take m
 | 0,_,_=>by simp[ddN]
 |m+1,h,b=>by
  rw[ddN,if_neg (fun e=>b m e.1 (by omega) e.2),Zvx l m (by omega) (fun i f g=>b i f (by omega)),List.take_succ_eq_append_getElem (by omega),Zcn l _ m (by omega)]
theorem ZIh(l:List Zae):∀m,m<=l.length->∀x,x∈ddN l m↔x∈l.take m
 | 0,_,x=>by simp[ddN]
 |m+1,h,x=>by
  have ih:=ZIh l m (by omega)
  rw[List.take_succ_eq_append_getElem (by omega),List.mem_append,ddN]
  have e:=Zcn l Zae.d m (by omega)
  split
  .rename_i b
   rw[ih x]
   constructor
   .exact .inl
   .rintro (h1|h1)
    .exact h1
    .rw[List.mem_singleton]at h1
     rw[h1,<-e,b.2,Zcn l Zae.d (m-1) (by omega)]
     exact List.mem_take_iff_getElem.2 ⟨m-1,by omega,rfl⟩
  .rw[List.mem_append,ih x,e]
theorem ZIg(l:List Zae)(g:l.Pairwise fun a b=>cmpN a b<=0):∀m,m<=l.length->Srt (ddN l m)/\∀x∈ddN l m,cmpN x (l.getD (m-1) Zae.d)<=0
 | 0,_=>by simp[ddN,Srt]
 |m+1,h=>by
  obtain⟨i,j⟩:=ZIg l g m (by omega)
  rw[ddN]
  by_cases o:m=0
  .subst o
   rw[if_neg (by simp)]
   simp only[ddN,List.nil_append]
   exact⟨List.pairwise_singleton _ _,fun x hx=>by rw[List.mem_singleton]at hx;rw[hx];have:=(Zkl (a:=l.getD 0 Zae.d) (b:=l.getD 0 Zae.d)).2 rfl;simp at this ⊢;omega⟩
  .split
   .rename_i f
    refine⟨i,fun x hx=>?_⟩
    rw[Nat.add_sub_cancel,f.2]
    exact j x hx
   .rename_i f
    have hne:l.getD m Zae.d≠l.getD (m-1) Zae.d:=fun e=>f ⟨by omega,e⟩
    have hle:cmpN (l.getD (m-1) Zae.d) (l.getD m Zae.d)<=0:=by
     rw[Zcn l _ m (by omega),Zcn l _ (m-1) (by omega)];exact List.pairwise_iff_getElem.1 g (m-1) m (by omega) (by omega) (by omega)
    have hlt:cmpN (l.getD (m-1) Zae.d) (l.getD m Zae.d)<0:=by
     have:cmpN (l.getD (m-1) Zae.d) (l.getD m Zae.d)≠0:=fun e=>hne (Zkl.1 e).symm;omega
    have cJ:∀x∈ddN l m,cmpN x (l.getD m Zae.d)<0:=fun x hx=>by
     have r:=j x hx;by_cases p:cmpN x (l.getD (m-1) Zae.d)=0
     .rw[Zkl.1 p];exact hlt
     .exact ZrM (by omega) hlt
    refine⟨List.pairwise_append.2 ⟨i,List.pairwise_singleton _ _,fun x hx y n=>by rw[List.mem_singleton]at n;rw[n];exact cJ x hx⟩,fun x hx=>?_⟩;rw[Nat.add_sub_cancel];rcases List.mem_append.1 hx with hx|hx
    .have:=cJ x hx;omega
    .rw[List.mem_singleton]at hx;rw[hx];have:=(Zkl (a:=l.getD m Zae.d) (b:=l.getD m Zae.d)).2 rfl;omega
theorem sub1{i:Nat}(h:0<i)(b:i<=maxLen):ZaG (i:Int) 1=((i-1:Nat):Int):=by
 unfold maxLen at b;rw[ZcO (by omega) (by omega)];omega
theorem ZFJ(l:List Zae)(hl:l.length<=maxLen)(b:Nat)(hk0:0<b)(hk0l:b<l.length)(k:Int->List Zae->Option (List Zae)):∀fu (j kk:Nat) (w:List Zae),0<j->b+j<=l.length->l.length-(b+j)<fu ->
  w.length=l.length->(∀i,b+j-1<=i->w.getD i Zae.d=l.getD i Zae.d)->kk<b+j->w.take kk=ddN l (b+j)->kk<=w.length ->
  Zbk k fu (kk:Int) b (l.length-b) l.length (j:Int) w=some (ddN l l.length):=by
 intro fu;induction fu with
 |zero=>intro _ _ _ _ _ h;omega
 |succ fu ih=>
  intro j kk w p hjl u g cW lL dZ hkl;simp only[Zbk,Zak];by_cases h:b+j<l.length
  .rw[if_pos (by omega),Zar ⟨by omega,by omega⟩,Zar (by simp;omega),sub1 p (by omega),Zar ⟨by omega,by omega⟩,Zar (by simp;omega)];simp only[Int.toNat_natCast];simp only[show b+(j-1)=b+j-1 by omega,cW (b+j) (by omega),cW (b+j-1) (by omega)];have o:Zaq (j:Int) 1=((j+1:Nat):Int):=add1 (n:=l.length) (by omega) hl;have kF:ddN l (b+(j+1))=if 0<b+j/\l.getD (b+j) Zae.d=l.getD (b+j-1) Zae.d then ddN l (b+j)else ddN l (b+j)++[l.getD (b+j) Zae.d]:=rfl;by_cases f:l.getD (b+j) Zae.d=l.getD (b+j-1) Zae.d
   .rw[if_pos ⟨by omega,f⟩]at kF;rw[decide_eq_true f];simp only[Bool.not_true,cond_false];rw[o];exact ih (j+1) kk w (by omega) (by omega) (by omega) g (fun i r=>cW i (by omega)) (by omega) (by rw[kF];exact dZ) hkl
   .rw[if_neg (fun t=>f t.2)]at kF;rw[decide_eq_false f];simp only[Bool.not_false,cond_true];rw[Zar ⟨by omega,by omega⟩,o,show Zaq (kk:Int) 1=((kk+1:Nat):Int)from add1 (n:=l.length) (by omega) hl];have hkw:kk<w.length:=by omega
    refine ih (j+1) (kk+1) _ (by omega) (by omega) (by omega) (by simp[g]) (fun i r=>?_) (by omega) ?_ (by simp;omega)
    .rw[<-cW i (by omega)];simp only[List.getD_eq_getElem?_getD,Int.toNat_natCast];rw[List.getElem?_set_ne (by omega)]
    .rw[kF,<-dZ]
     (try simp only[Int.toNat_natCast])
     rw[List.take_succ_eq_append_getElem (by simp;omega),List.take_set_of_le (by omega)];simp
  .have e:b+j=l.length:=by omega
   rw[if_neg (by omega),Zar ⟨by omega,by omega,by omega⟩,Zar (by simp;omega),Zar ⟨by omega,by omega,by omega⟩];simp only[Int.toNat_natCast];rw[Zar (by rw[ZwU _ _ _ _ (by omega)];exact hkl)];rw[<-e,<-dZ];congr 1;simp only[Zhf,List.append_assoc];rw[List.take_append_of_le_length (by simp;omega),List.take_take,Nat.min_self]
theorem ZCZ(l:List Zae)(hl:l.length<999999):∀fu (i:Nat),0<i->i<=l.length->l.length-i<fu->(∀q,0<q->q<i->l.getD q Zae.d≠l.getD (q-1) Zae.d) ->
  Zba fu (i:Int) l=some (ddN l l.length):=by
 have n:l.length<=maxLen:=by unfold maxLen;omega
 intro fu;induction fu with
 |zero=>intro _ _ _ h;omega
 |succ fu ih=>
  intro i f lH r g;simp only[Zba,Zak];by_cases h:i<l.length
  .rw[if_pos (by omega),Zar ⟨by omega,by omega⟩,sub1 f (by omega),Zar ⟨by omega,by omega⟩];simp only[Int.toNat_natCast];by_cases b:l.getD i Zae.d=l.getD (i-1) Zae.d
   .rw[if_pos b,Zar ⟨by omega,by omega,by omega⟩];refine ZFJ l n i f h _ 1000000 1 i l (by omega) (by omega) (by omega) rfl (fun _ _=>rfl) (by omega) ?_ (by omega);rw[ddN,if_pos ⟨f,b⟩,Zvx l i (by omega) g]
   .rw[if_neg b,add1 h n];refine ih (i+1) (by omega) (by omega) (by omega) fun q j o=>?_;by_cases p:q=i
    .subst p;exact b
    .exact g q j (by omega)
  .have e:i=l.length:=by omega
   rw[if_neg (by omega)];congr 1;rw[Zvx l l.length (Nat.le_refl _) (fun q j o=>g q j (by omega)),List.take_length]
theorem ZFK(l:List Zae)(hl:l.length<999999):Zbz l=some (ddN l l.length):=by
 simp only[Zbz,Zak];split
 .rename_i h;congr 1;rw[Zvx l l.length (Nat.le_refl _) (fun i b d=>by omega),List.take_length]
 .rename_i h;exact ZCZ l hl _ 1 (by omega) (by omega) (by omega) (fun q b d=>by omega)
theorem ZIQ(l:List Zae)(h:l.length<999999):∃L,(ZhI l).bind Zbz=some L/\Srt L/\∀x,x∈L↔x∈l:=by
 unfold ZhI;rw[Zar (by omega)];simp only[Option.bind_some];have e:=List.mergeSort_perm l (fun x y=>!(Go.Proofs.ltOf cmpN) y x);have g:=List.pairwise_mergeSort (le:=fun x y=>!(Go.Proofs.ltOf cmpN) y x) (fun a b c d f=>by
   have:=ZEn.ntrans c b a (by simpa using f) (by simpa using d);simpa using this) (fun a b=>by
   rw[ltN,ltN,Bool.or_eq_true,Bool.not_eq_true',Bool.not_eq_true',decide_eq_false_iff_not,decide_eq_false_iff_not];by_cases d:cmpN b a<0
   .refine .inr fun f=>?_;have:=ZrM d f;have:=(Zkl (a:=b) (b:=b)).2 rfl;omega
   .exact .inl d) l
 generalize l.mergeSort (fun x y=>!(Go.Proofs.ltOf cmpN) y x)=m at e g;rw[ZFK m (by rw[e.length_eq];exact h)];refine⟨_,rfl,(ZIg m (g.imp fun{a b} hab=>?_) m.length (Nat.le_refl _)).1,fun x=>?_⟩
 .rw[ltN,Bool.not_eq_true',decide_eq_false_iff_not]at hab;have:¬0<cmpN a b:=fun h=>hab (Zrq.1 h);omega
 .rw[ZIh m m.length (Nat.le_refl _),List.take_length];exact e.mem_iff
def endZ:Zaj:=⟨⟨false,0,0⟩,0⟩
def repZ:Zap:=⟨0,endZ,0,0,[]⟩
theorem Zhe(a b:Int){α:Type}(x y:α):(bif a==b then x else y)=if a=b then x else y:=by
 by_cases h:a=b
 .subst h;simp
 .rw[if_neg h,beq_false_of_ne h];rfl
theorem ZaF{α β:Type}(x:α)(f:α->Option β):(some x).bind f=f x:=by simp
section
end
theorem ZLB{i:Nat}(h:i<=1000000):ZaG ((i+1:Nat):Int) 1=(i:Int):=by
 unfold ZaG;have:IntKind.i64.wrap (((i+1:Nat):Int)-1)=((i+1:Nat):Int)-1:=Zhl (by omega) (by omega);exact this.trans (by omega)
theorem ZyK(l:List Zac)(h:l.length<=1000000):Zhv l l=some true:=by
 have aA:∀(k i f:Nat),l.length-i=k->i<=l.length->k+1<=f->Zda l l f i=some true:=by
  intro k;induction k with
  |zero=>
   intro i f d e g;obtain⟨f,rfl⟩ : ∃x,f=x+1:=⟨f-1,by omega⟩;have b:¬((i:Int)<(l.length:Int)):=by omega
   unfold Zda;simp only[Zak,if_neg b]
  |succ k ih=>
   intro i f d e g;obtain⟨f,rfl⟩ : ∃x,f=x+1:=⟨f-1,by omega⟩;have b:(i:Int)<(l.length:Int):=by omega
   have j:Zaq (i:Int) 1=((i+1:Nat):Int):=add1 (n:=i+1) (by omega) (by simp only[maxLen];omega);unfold Zda;simp only[Zak,if_pos b,j,decide_true,Bool.not_true,cond_false];rw[Zar (by omega),Zar (by omega)];exact ih (i+1) f (by omega) (by omega) (by omega)
 unfold Zhv;simp only[bne_self_eq_false,cond_false];exact aA l.length 0 _ (by omega) (by omega) (by omega)
theorem ZyJ(l:List Zab)(h:l.length<=1000000):Zhu l l=some true:=by
 have aA:∀(k i f:Nat),l.length-i=k->i<=l.length->k+1<=f->ZcZ l l f i=some true:=by
  intro k;induction k with
  |zero=>
   intro i f d e g;obtain⟨f,rfl⟩ : ∃x,f=x+1:=⟨f-1,by omega⟩;have b:¬((i:Int)<(l.length:Int)):=by omega
   unfold ZcZ;simp only[Zak,if_neg b]
  |succ k ih=>
   intro i f d e g;obtain⟨f,rfl⟩ : ∃x,f=x+1:=⟨f-1,by omega⟩;have b:(i:Int)<(l.length:Int):=by omega
   have j:Zaq (i:Int) 1=((i+1:Nat):Int):=add1 (n:=i+1) (by omega) (by simp only[maxLen];omega);unfold ZcZ;simp only[Zak,if_pos b,j,decide_true,Bool.not_true,cond_false];rw[Zar (by omega),Zar (by omega)];exact ih (i+1) f (by omega) (by omega) (by omega)
 unfold Zhu;simp only[bne_self_eq_false,cond_false];exact aA l.length 0 _ (by omega) (by omega) (by omega)
theorem Zxi(l:List Zaa)(h:l.length<=1000000):ZgQ l l=some true:=by
 have aA:∀(k i f:Nat),l.length-i=k->i<=l.length->k+1<=f->ZcP l l f i=some true:=by
  intro k;induction k with
  |zero=>
   intro i f d e g;obtain⟨f,rfl⟩ : ∃x,f=x+1:=⟨f-1,by omega⟩;have b:¬((i:Int)<(l.length:Int)):=by omega
   unfold ZcP;simp only[Zak,if_neg b]
  |succ k ih=>
   intro i f d e g;obtain⟨f,rfl⟩ : ∃x,f=x+1:=⟨f-1,by omega⟩;have b:(i:Int)<(l.length:Int):=by omega
   have j:Zaq (i:Int) 1=((i+1:Nat):Int):=add1 (n:=i+1) (by omega) (by simp only[maxLen];omega);unfold ZcP;simp only[Zak,if_pos b,j,decide_true,Bool.not_true,cond_false];rw[Zar (by omega),Zar (by omega)];exact ih (i+1) f (by omega) (by omega) (by omega)
 unfold ZgQ;simp only[bne_self_eq_false,cond_false];exact aA l.length 0 _ (by omega) (by omega) (by omega)
structure Cx where
 c:List Zaa
 b:Int
 s:Int
def InR(K:Cx)(x:Int):Prop:=(0<=x/\x<((K.c.length:Nat):Int))/\(K.c.getD x.toNat Zaa.d).fEnd.fAddr.ok
def Rg(K:Cx)(l:List Int):Prop:=∀x∈l,InR K x
theorem Rg.app{K:Cx}{l r:List Int}(h:Rg K l)(b:Rg K r):Rg K (l++r):=fun x hx=>(List.mem_append.1 hx).elim (h x) (b x)
theorem Rg.take{K:Cx}{l:List Int}(h:Rg K l)(k:Nat):Rg K (l.take k):=fun x hx=>h x (List.mem_of_mem_take hx)
theorem Rg.drop{K:Cx}{l:List Int}(h:Rg K l)(k:Nat):Rg K (l.drop k):=fun x hx=>h x (List.mem_of_mem_drop hx)
theorem Rg.get{K:Cx}{l:List Int}(h:Rg K l){i:Nat}(b:i<l.length):InR K (l.getD i 0):=by rw[Zcn l _ i b];exact h _ (List.getElem_mem b)
def keyZ(s:Int)(p:Zaa):Int:=(ZoO s (grp p.fEnd.fAddr)).getD 0
def kv(b s:Int)(p:Zaa):Int:=if b=1 then-keyZ s p else if b=2 then p.fPing else if b=3 then-p.fWork else if b=4 then p.fSince else 0
def Zrj(b s:Int)(p q:Zaa):Int:=orI (cmpI (kv b s p) (kv b s q)) (cmpE p.fEnd q.fEnd)
theorem Zvt{b s:Int}{p q:Zaa}:Zrj b s p q<0↔kv b s p<kv b s q\/(kv b s p=kv b s q/\cmpE p.fEnd q.fEnd<0):=by simp only[Zrj,ZxV,Zuz,ZjB]
theorem ZEo(a b:Int):cmpI b a=cmpI (-a) (-b):=by
 unfold cmpI
 repeat' split
 all_goals omega
theorem ZDA(p:Zaa)(s:Int)(h:p.fEnd.fAddr.ok):ZmX p s=some (keyZ s p):=by
 obtain⟨m,b,_,_⟩:=ZHc s (grp p.fEnd.fAddr);unfold ZmX keyZ;rw[ZpB _ h,ZaF,b,ZaF];rfl
theorem ZAo(p q:Zaa)(b s:Int)(h:p.fEnd.fAddr.ok)(i:q.fEnd.fAddr.ok):Zkg p q b s=some (cmpI (kv b s p) (kv b s q)):=by
 unfold Zkg kv;simp only[ZDA _ _ h,ZDA _ _ i,ZIm,ZsK,ZaF,Zhe];by_cases d:b=1
 .simp only[if_pos d,<-ZEo]
 .simp only[if_neg d];by_cases e:b=2
  .simp only[if_pos e]
  .simp only[if_neg e];by_cases f:b=3
   .simp only[if_pos f,<-ZEo]
   .simp only[if_neg f];by_cases g:b=4
    .simp only[if_pos g]
    .simp only[if_neg g];rfl
theorem ZGL(p q:Zaa)(b s:Int)(d:p.fEnd.fAddr.ok)(e:q.fEnd.fAddr.ok):Znh p q b s=some (Zrj b s p q):=by
 unfold Znh Zrj;simp only[ZAo _ _ _ _ d e,ZzB,or2,ZaF]
def cmpJ(K:Cx)(x y:Int):Int:=Zrj K.b K.s (K.c.getD x.toNat Zaa.d) (K.c.getD y.toNat Zaa.d)
def ltJ(K:Cx)(x y:Int):Bool:=decide (cmpJ K x y<0)
theorem Zwd{K:Cx}{x y:Int}:ltJ K x y=true↔cmpJ K x y<0:=by unfold ltJ;simp
theorem Zyc{K:Cx}{x y:Int}:ltJ K x y=false↔¬cmpJ K x y<0:=by unfold ltJ;simp
theorem Zvu{K:Cx}{x y:Int}(hx:InR K x)(d:InR K y):ZgF x y K.c K.b K.s=some (cmpJ K x y):=by
 unfold ZgF cmpJ;rw[Zar hx.1,Zar d.1,ZGL _ _ _ _ hx.2 d.2];rfl
theorem ZCt{b s:Int}{p q r:Zaa}(e:Zrj b s p q<0)(d:Zrj b s q r<0):Zrj b s p r<0:=by
 rw[Zvt]at *
 rcases e with e|⟨e,g⟩
 .rcases d with d|⟨d,f⟩
  .left;omega
  .left;omega
 .rcases d with d|⟨d,f⟩
  .left;omega
  .right;exact⟨by omega,ZmZ g f⟩
theorem ZHC{b s:Int}{p q r:Zaa}(f:¬Zrj b s p q<0)(d:¬Zrj b s q r<0):¬Zrj b s p r<0:=by
 rw[Zvt]at *
 rintro (h|⟨h,g⟩)
 .by_cases e:kv b s p=kv b s q
  .exact d (.inl (by omega))
  .by_cases i:kv b s p<kv b s q
   .exact f (.inl i)
   .exact d (.inl (by omega))
 .by_cases e:kv b s p=kv b s q
  .have n1:¬cmpE p.fEnd q.fEnd<0:=fun x=>f (.inr ⟨e,x⟩);have n2:¬cmpE q.fEnd r.fEnd<0:=fun x=>d (.inr ⟨by omega,x⟩);have e4:cmpE p.fEnd q.fEnd=0\/0<cmpE p.fEnd q.fEnd:=by omega
   rcases e4 with e4|e4
   .rw[Zip.1 e4]at g;exact n2 g
   .exact n2 (ZmZ (ZhH.1 e4) g)
  .by_cases i:kv b s p<kv b s q
   .exact f (.inl i)
   .exact d (.inl (by omega))
theorem ZHD(b s:Int)(p:Zaa):¬Zrj b s p p<0:=by
 rw[Zvt];rintro (h|⟨_,h⟩)
 .omega
 .rw[Zip.2 rfl]at h;omega
theorem ZAB{K:Cx}{x y z:Int}(b:ltJ K x y=true)(d:ltJ K y z=true):ltJ K x z=true:=by
 rw[Zwd]at *;exact ZCt b d
theorem Znc{K:Cx}{x y z:Int}(b:ltJ K x y=false)(d:ltJ K y z=false):ltJ K x z=false:=by
 rw[Zyc]at *;exact ZHC b d
theorem ZHg{K:Cx}(x:Int):ltJ K x x=false:=by rw[Zyc];exact ZHD _ _ _
theorem ZJt{K:Cx}{x y:Int}(h:ltJ K x y=true):ltJ K y x=false:=by
 cases b:ltJ K y x with
 |false=>rfl
 |true=>have:=ZAB h b;rw[ZHg]at this;cases this
theorem ZIR{α:Type}(L R:List α)(x y:α):(L++x :: R).set L.length y=L++y :: R:=by
 induction L with
 |nil=>rfl
 |cons z L ih=>simp[ih]
theorem ZDX{α:Type}(L R:List α)(x d:α):(L++x :: R).getD L.length d=x:=by
 induction L with
 |nil=>rfl
 |cons z L ih=>simp
theorem ZqC{α:Type}{l L R:List α}{x y:α}{k:Nat}(h:l=L++x :: R)(b:k=L.length):l.set k y=L++y :: R:=by rw[h,b,ZIR]
theorem Zod{α:Type}{l L R:List α}{x d:α}{k:Nat}(h:l=L++x :: R)(b:k=L.length):l.getD k d=x:=by rw[h,b,ZDX]
abbrev aC:=List Int
variable {K:Cx}
theorem ZEJ(P B Q:aC):∀(k:Nat)(A1 A2 C1 C2:aC)(fu:Nat),A2.length=k->C2.length=k->A1.length=C1.length->k+1<=fu->P.length+B.length+Q.length+2*(A1.length+k)<=1000000 ->
  Zbf (P.length:Int) ((P.length+(A1.length+k)+B.length:Nat):Int) ((A1.length+k:Nat):Int) fu (A1.length:Int) (P++(C1++(A2++(B++(A1++(C2++Q))))))=some (P++(C1++(C2++(B++(A1++(A2++Q)))))):=by
 intro k;induction k with
 |zero=>
  intro A1 A2 C1 C2 fu b d e f hb;obtain⟨fu,rfl⟩ : ∃x,fu=x+1:=⟨fu-1,by omega⟩;obtain rfl:=List.eq_nil_of_length_eq_zero b;obtain rfl:=List.eq_nil_of_length_eq_zero d;unfold Zbf;rw[Zak,if_neg (by omega)]
 |succ k ih=>
  intro A1 A2 C1 C2 fu b d e f hb;obtain⟨fu,rfl⟩ : ∃x,fu=x+1:=⟨fu-1,by omega⟩;cases A2 with
  |nil=>cases b
  |cons a A2=>
   cases C2 with
   |nil=>cases d
   |cons c C2=>
    simp only[List.length_cons,Nat.add_right_cancel_iff]at b d;unfold Zbf;have g:Zaq (P.length:Int) (A1.length:Int)=((P.length+A1.length:Nat):Int):=by rw[Zcm (by omega) (by omega)];omega
    have h:Zaq ((P.length+(A1.length+(k+1))+B.length:Nat):Int) (A1.length:Int)=((P.length+(A1.length+(k+1))+B.length+A1.length:Nat):Int):=by rw[Zcm (by omega) (by omega)];omega
    have i:Zaq (A1.length:Int) 1=((A1.length+1:Nat):Int):=by rw[Zcm (by omega) (by omega)];omega
    have hl:(P++(C1++(a :: A2++(B++(A1++(c :: C2++Q)))))).length=P.length+B.length+Q.length+2*(A1.length+(k+1)):=by simp;omega
    rw[Zak,if_pos (by omega),g,h,i,Zar (by rw[hl];omega),Zar (by rw[hl];omega)];simp only[Int.toNat_natCast];have j:(P++(C1++(a :: A2++(B++(A1++(c :: C2++Q)))))).getD (P.length+(A1.length+(k+1))+B.length+A1.length) 0=c:=
     Zod (L:=P++(C1++(a :: A2++(B++A1)))) (R:=C2++Q) (by simp) (by simp;omega)
    have n:(P++(C1++(a :: A2++(B++(A1++(c :: C2++Q)))))).getD (P.length+A1.length) 0=a:=
     Zod (L:=P++C1) (R:=A2++(B++(A1++(c :: C2++Q)))) (by simp) (by simp;omega)
    have s1:(P++(C1++(a :: A2++(B++(A1++(c :: C2++Q)))))).set (P.length+A1.length) c=P++(C1++(c :: A2++(B++(A1++(c :: C2++Q))))):=by
     rw[ZqC (L:=P++C1) (x:=a) (R:=A2++(B++(A1++(c :: C2++Q)))) (by simp) (by simp;omega)];simp
    have s2:(P++(C1++(c :: A2++(B++(A1++(c :: C2++Q)))))).set (P.length+(A1.length+(k+1))+B.length+A1.length) a=P++(C1++(c :: A2++(B++(A1++(a :: C2++Q))))):=by
     rw[ZqC (L:=P++(C1++(c :: A2++(B++A1)))) (x:=c) (R:=C2++Q) (by simp) (by simp;omega)];simp
    rw[j,n,s1,s2];have:=ih (A1++[a]) A2 (C1++[c]) C2 fu b d (by simp;omega) (by omega) (by simp;omega);simp only[List.length_append,List.length_singleton,List.append_assoc,List.singleton_append,List.cons_append]at this ⊢;have x1:A1.length+1+k=A1.length+(k+1):=by omega
    rw[x1]at this;exact this
theorem ZyC(P A B C Q:aC)(h:A.length=C.length)(hb:P.length+B.length+Q.length+2*A.length<=1000000)(a b n:Int)(d:a=(P.length:Int))(j8:b=((P.length+A.length+B.length:Nat):Int))(e:n=(A.length:Int)) :
  ZbH (P++(A++(B++(C++Q)))) a b n K.c K.b K.s=some (P++(C++(B++(A++Q)))):=by
 subst d j8 e;unfold ZbH;have:=ZEJ P B Q A.length [] A [] C (((A.length:Int)-0).toNat+2) rfl h.symm rfl (by omega) (by simpa using hb);simpa using this
theorem ZGt(m:Nat):∀(s:Nat)(P X Y Q:aC)(fu:Nat),X.length+Y.length<=s->0<X.length->0<Y.length->m=P.length+X.length->P.length+X.length+Y.length+Q.length<=1000000->s+1<=fu ->
  Zbv (m:Int) K.c K.b K.s fu (X.length:Int) (Y.length:Int) (P++(X++(Y++Q)))=some (P++(Y++(X++Q))):=by
 intro s;induction s with
 |zero=>intro P X Y Q fu j d;omega
 |succ s ih=>
  intro P X Y Q fu j d r n hb t;obtain⟨fu,rfl⟩ : ∃x,fu=x+1:=⟨fu-1,by omega⟩;unfold Zbv;have g:ZaG (m:Int) (X.length:Int)=(P.length:Int):=by rw[ZcO (by omega) (by omega)];omega
  by_cases h:X.length=Y.length
  .have e:((X.length:Int) != (Y.length:Int))=false:=by rw[h];simp
   rw[e,cond_false,g];have:=ZyC (K:=K) P X [] Y Q h (by simp;omega) (P.length:Int) (m:Int) (X.length:Int) rfl (by simp[n]) rfl;simp only[List.nil_append]at this;rw[this];rfl
  .have e:((X.length:Int) != (Y.length:Int))=true:=by rw[bne_iff_ne];omega
   rw[e,cond_true,Zak,g];by_cases u:Y.length<X.length
   .obtain⟨X1,X2,rfl,hx⟩ : ∃X1 X2,X=X1++X2/\X1.length=Y.length:=⟨X.take Y.length,X.drop Y.length,(List.take_append_drop ..).symm,by simp;omega⟩;simp only[List.length_append]at *
    have f:ZaG ((X1.length+X2.length:Nat):Int) (Y.length:Int)=(X2.length:Int):=by rw[ZcO (by omega) (by omega)];omega
    rw[if_pos (by omega),f];have:=ZyC (K:=K) P X1 X2 Y Q hx (by omega) (P.length:Int) (m:Int) (Y.length:Int) rfl (by omega) (by omega);simp only[List.append_assoc]at this ⊢;rw[this,ZaF];have d:=ih (P++Y) X2 X1 Q fu (by omega) (by omega) (by omega) (by simp;omega) (by simp;omega) (by omega);simp only[List.append_assoc,hx]at d;exact d
   .obtain⟨Y1,Y2,rfl,i⟩ : ∃Y1 Y2,Y=Y1++Y2/\Y2.length=X.length:=⟨Y.take (Y.length-X.length),Y.drop (Y.length-X.length),(List.take_append_drop ..).symm,by simp;omega⟩;simp only[List.length_append]at *
    have f:ZaG ((Y1.length+Y2.length:Nat):Int) (X.length:Int)=(Y1.length:Int):=by rw[ZcO (by omega) (by omega)];omega
    have o:Zaq (m:Int) ((Y1.length+Y2.length:Nat):Int)=((m+Y1.length+Y2.length:Nat):Int):=by rw[Zcm (by omega) (by omega)];omega
    have p:ZaG ((m+Y1.length+Y2.length:Nat):Int) (X.length:Int)=((P.length+X.length+Y1.length:Nat):Int):=by rw[ZcO (by omega) (by omega)];omega
    rw[if_neg (by omega),f,o,p];have:=ZyC (K:=K) P X Y1 Y2 Q i.symm (by omega) (P.length:Int) ((P.length+X.length+Y1.length:Nat):Int) (X.length:Int) rfl rfl rfl;simp only[List.append_assoc]at this ⊢;rw[this,ZaF];have d:=ih P Y2 Y1 (X++Q) fu (by omega) (by omega) (by omega) (by omega) (by simp;omega) (by omega);simp only[List.append_assoc,i]at d;exact d
theorem ZKD(P X Y Q:aC)(d:0<X.length)(e:0<Y.length)(hb:P.length+X.length+Y.length+Q.length<=900000)(a m b:Int)(f:a=(P.length:Int))(g:m=((P.length+X.length:Nat):Int))(j8:b=((P.length+X.length+Y.length:Nat):Int)) :
  Zcu (P++(X++(Y++Q))) a m b K.c K.b K.s=some (P++(Y++(X++Q))):=by
 subst f g j8;unfold Zcu;have h:ZaG ((P.length+X.length:Nat):Int) (P.length:Int)=(X.length:Int):=by rw[ZcO (by omega) (by omega)];omega
 have i:ZaG ((P.length+X.length+Y.length:Nat):Int) ((P.length+X.length:Nat):Int)=(Y.length:Int):=by rw[ZcO (by omega) (by omega)];omega
 rw[h,i];exact ZGt _ (X.length+Y.length) P X Y Q 1000000 (Nat.le_refl _) d e rfl (by omega) (by omega)
theorem ZCo{x y z:Int}(b:ltJ K z x=true)(d:ltJ K y x=false):ltJ K z y=true:=by
 cases h:ltJ K z y with
 |true=>rfl
 |false=>rw[Znc h d]at b;cases b
def mrgJ(K:Cx):aC->aC->aC | [],ys=>ys|x :: xs,[]=>x :: xs|x :: xs,y :: ys=>if ltJ K y x=true then y :: mrgJ K (x :: xs) ys else x :: mrgJ K xs (y :: ys)
termination_by xs ys=>xs.length+ys.length
theorem ZhV(xs:aC):mrgJ K xs []=xs:=by cases xs<;>simp[mrgJ]
theorem ZeH(xs:aC):mrgJ K [] xs=xs:=by simp[mrgJ]
theorem Zix{x y:Int}(xs ys:aC)(h:ltJ K y x=true):mrgJ K (x :: xs) (y :: ys)=y :: mrgJ K (x :: xs) ys:=by rw[mrgJ,if_pos h]
theorem Zjm{x y:Int}(xs ys:aC)(h:ltJ K y x=false):mrgJ K (x :: xs) (y :: ys)=x :: mrgJ K xs (y :: ys):=by rw[mrgJ,if_neg (by simp[h])]
theorem ZFh:∀(n:Nat)(a b c:aC),a.length+b.length+c.length<=n->mrgJ K (mrgJ K a b) c=mrgJ K a (mrgJ K b c):=by
 intro n;induction n with
 |zero=>
  intro a b c h;obtain rfl:=List.eq_nil_of_length_eq_zero (show a.length=0 by omega);rw[ZeH,ZeH]
 |succ n ih=>
  intro a b c h;cases a with
  |nil=>rw[ZeH,ZeH]
  |cons x a=>
   cases b with
   |nil=>rw[ZhV,ZeH]
   |cons y b=>
    cases c with
    |nil=>rw[ZhV,ZhV]
    |cons z c=>
     simp only[List.length_cons]at h;cases e:ltJ K y x with
     |true=>
      rw[Zix _ _ e];cases d:ltJ K z y with
      |true=>
       rw[Zix _ _ d,Zix _ _ d,Zix _ _ (ZAB d e),<-Zix a b e,ih (x :: a) (y :: b) c (by simp only[List.length_cons];omega)]
      |false=>
       rw[Zjm _ _ d,Zjm _ _ d,Zix _ _ e,ih (x :: a) b (z :: c) (by simp only[List.length_cons];omega)]
     |false=>
      rw[Zjm _ _ e];cases f:ltJ K z x with
      |true=>
       have d:=ZCo f e;rw[Zix _ _ f,Zix _ _ d,Zix _ _ f,<-Zjm a b e,ih (x :: a) (y :: b) c (by simp only[List.length_cons];omega)]
      |false=>
       rw[Zjm _ _ f,ih a (y :: b) (z :: c) (by simp only[List.length_cons];omega)];cases d:ltJ K z y with
       |true=>rw[Zix _ _ d,Zjm _ _ f]
       |false=>rw[Zjm _ _ d,Zjm _ _ e]
theorem ZoJ:∀(n:Nat)(x1 x2 y1 y2:aC),x1.length+y1.length<=n->(∀y∈y1,∀x∈x2,ltJ K y x=true)->(∀x∈x1,∀y∈y2,ltJ K y x=false)->mrgJ K (x1++x2) (y1++y2)=mrgJ K x1 y1++mrgJ K x2 y2:=by
 intro n;induction n with
 |zero=>
  intro x1 x2 y1 y2 h _ _;obtain rfl:=List.eq_nil_of_length_eq_zero (show x1.length=0 by omega);obtain rfl:=List.eq_nil_of_length_eq_zero (show y1.length=0 by omega);simp[ZeH]
 |succ n ih=>
  intro x1 x2 y1 y2 h b d;cases x1 with
  |nil=>
   cases y1 with
   |nil=>simp[ZeH]
   |cons y y1=>
    cases x2 with
    |nil=>simp[ZeH]
    |cons x x2=>
     simp only[List.length_cons,List.length_nil]at h;rw[List.nil_append,List.cons_append,Zix _ _ (b y (by simp) x (by simp)),ZeH];have:=ih [] (x :: x2) y1 y2 (by simp only[List.length_nil];omega) (fun y' er=>b y' (by simp[er])) (by simp);rw[List.nil_append,ZeH]at this;rw[this];rfl
  |cons x x1=>
   cases y1 with
   |nil=>
    cases y2 with
    |nil=>simp[ZhV]
    |cons y y2=>
     simp only[List.length_cons,List.length_nil]at h;rw[List.nil_append,List.cons_append,Zjm _ _ (d x (by simp) y (by simp)),ZhV];have:=ih x1 x2 [] (y :: y2) (by simp only[List.length_nil];omega) (by simp) (fun x' iJ=>d x' (by simp[iJ]));rw[List.nil_append,ZhV]at this;rw[this];rfl
   |cons y y1=>
    simp only[List.length_cons]at h;rw[List.cons_append,List.cons_append];cases e:ltJ K y x with
    |true=>
     rw[Zix _ _ e,Zix _ _ e,<-List.cons_append,ih (x :: x1) x2 y1 y2 (by simp only[List.length_cons];omega) (fun y' er=>b y' (by simp[er])) d];rfl
    |false=>
     have:=ih x1 x2 (y :: y1) y2 (by simp only[List.length_cons];omega) b (fun x' iJ=>d x' (by simp[iJ]));rw[List.cons_append]at this;rw[Zjm _ _ e,Zjm _ _ e,this];rfl
theorem ZDG:∀(n:Nat)(a b:aC),a.length+b.length<=n->(mrgJ K a b).length=a.length+b.length:=by
 intro n;induction n with
 |zero=>
  intro a b h;obtain rfl:=List.eq_nil_of_length_eq_zero (show a.length=0 by omega);simp[ZeH]
 |succ n ih=>
  intro a b h;cases a with
  |nil=>simp[ZeH]
  |cons x a=>
   cases b with
   |nil=>simp[ZhV]
   |cons y b=>
    simp only[List.length_cons]at h ⊢;cases d:ltJ K y x with
    |true=>rw[Zix _ _ d,List.length_cons,ih _ _ (by simp only[List.length_cons];omega)];simp only[List.length_cons];omega
    |false=>rw[Zjm _ _ d,List.length_cons,ih _ _ (by simp only[List.length_cons];omega)];simp only[List.length_cons];omega
theorem Zvo:∀(n:Nat)(a b:aC),a.length+b.length<=n->∀z∈mrgJ K a b,z∈a\/z∈b:=by
 intro n;induction n with
 |zero=>
  intro a b h z hz;obtain rfl:=List.eq_nil_of_length_eq_zero (show a.length=0 by omega);rw[ZeH]at hz;exact .inr hz
 |succ n ih=>
  intro a b h z hz;cases a with
  |nil=>rw[ZeH]at hz;exact .inr hz
  |cons x a=>
   cases b with
   |nil=>rw[ZhV]at hz;exact .inl hz
   |cons y b=>
    simp only[List.length_cons]at h;cases d:ltJ K y x with
    |true=>
     rw[Zix _ _ d]at hz;rcases List.mem_cons.1 hz with hz|hz
     .exact .inr (by simp[hz])
     .rcases ih _ _ (by simp only[List.length_cons];omega) z hz with q|q
      .exact .inl q
      .exact .inr (by simp[q])
    |false=>
     rw[Zjm _ _ d]at hz;rcases List.mem_cons.1 hz with hz|hz
     .exact .inl (by simp[hz])
     .rcases ih _ _ (by simp only[List.length_cons];omega) z hz with q|q
      .exact .inl (by simp[q])
      .exact .inr q
def bc(K:Cx)(l:aC):Prop:=l.Pairwise fun x y=>ltJ K y x=false
theorem ZJr:∀(n:Nat)(a b:aC),a.length+b.length<=n->bc K a->bc K b->bc K (mrgJ K a b):=by
 intro n;induction n with
 |zero=>
  intro a b h e hb;obtain rfl:=List.eq_nil_of_length_eq_zero (show a.length=0 by omega);rw[ZeH];exact hb
 |succ n ih=>
  intro a b h e hb;cases a with
  |nil=>rw[ZeH];exact hb
  |cons x a=>
   cases b with
   |nil=>rw[ZhV];exact e
   |cons y b=>
    simp only[List.length_cons]at h;have cm:=List.pairwise_cons.1 e;have aL:=List.pairwise_cons.1 hb;cases d:ltJ K y x with
    |true=>
     rw[Zix _ _ d];refine List.pairwise_cons.2 ⟨fun z f=>?_,ih _ _ (by simp only[List.length_cons];omega) e aL.2⟩;rcases Zvo _ _ _ (Nat.le_refl _) z f with q|q
     .have:ltJ K x y=false:=ZJt d;rcases List.mem_cons.1 q with q|q
      .rw[q];exact this
      .exact Znc (cm.1 z q) this
     .exact aL.1 z q
    |false=>
     rw[Zjm _ _ d];refine List.pairwise_cons.2 ⟨fun z f=>?_,ih _ _ (by simp only[List.length_cons];omega) cm.2 hb⟩;rcases Zvo _ _ _ (Nat.le_refl _) z f with q|q
     .exact cm.1 z q
     .rcases List.mem_cons.1 q with q|q
      .rw[q];exact d
      .exact Znc (aL.1 z q) d
def ZbU(K:Cx)(l:aC):aC:=l.foldl (fun o x=>mrgJ K o [x]) []
theorem ZhZ(l:aC)(x:Int):ZbU K (l++[x])=mrgJ K (ZbU K l) [x]:=by unfold ZbU;rw[List.foldl_append];rfl
theorem Ztf(xs ys:aC):ZbU K (xs++ys)=mrgJ K (ZbU K xs) (ZbU K ys):=by
 have:∀n,n<=ys.length->ZbU K (xs++ys.take n)=mrgJ K (ZbU K xs) (ZbU K (ys.take n)):=by
  intro n;induction n with
  |zero=>intro _;simp[ZbU,ZhV]
  |succ n ih=>
   intro h;rw[List.take_succ_eq_append_getElem (show n<ys.length by omega),<-List.append_assoc,ZhZ,ZhZ,ih (by omega),ZFh _ _ _ _ (Nat.le_refl _)]
 have h:=this ys.length (Nat.le_refl _);rwa [List.take_length]at h
theorem Zhm(l:aC):(ZbU K l).length=l.length:=by
 have:∀n,n<=l.length->(ZbU K (l.take n)).length=n:=by
  intro n;induction n with
  |zero=>intro _;simp[ZbU]
  |succ n ih=>
   intro h;rw[List.take_succ_eq_append_getElem (show n<l.length by omega),ZhZ,ZDG _ _ _ (Nat.le_refl _),ih (by omega)];rfl
 have h:=this l.length (Nat.le_refl _);rwa [List.take_length]at h
theorem ZqH{l:aC}(h:Rg K l):Rg K (ZbU K l):=by
 have:∀n,n<=l.length->Rg K (ZbU K (l.take n)):=by
  intro n;induction n with
  |zero=>intro _;simp[ZbU,Rg]
  |succ n ih=>
   intro d;rw[List.take_succ_eq_append_getElem (show n<l.length by omega),ZhZ];intro x hx;rcases Zvo _ _ _ (Nat.le_refl _) x hx with q|q
   .exact ih (by omega) x q
   .rw[List.mem_singleton.1 q];exact h _ (List.getElem_mem _)
 have b:=this l.length (Nat.le_refl _);rwa [List.take_length]at b
theorem ZoK(l:aC):bc K (ZbU K l):=by
 have:∀n,n<=l.length->bc K (ZbU K (l.take n)):=by
  intro n;induction n with
  |zero=>intro _;simp[ZbU,bc]
  |succ n ih=>
   intro h;rw[List.take_succ_eq_append_getElem (show n<l.length by omega),ZhZ];exact ZJr _ _ _ (Nat.le_refl _) (ih (by omega)) (by simp[bc])
 have h:=this l.length (Nat.le_refl _);rwa [List.take_length]at h
theorem Zzc{o1 d:aC}{x:Int}(g:∀y∈o1,ltJ K x y=false)(h:∀y∈d,ltJ K x y=true):mrgJ K (o1++d) [x]=o1++x :: d:=by
 have a:=ZoJ _ o1 d [x] [] (Nat.le_refl _) (fun y e z f=>by rw[List.mem_singleton.1 e];exact h z f) (by simp);have b:=ZoJ _ o1 [] [] [x] (Nat.le_refl _) (by simp) (fun z f y e=>by rw[List.mem_singleton.1 e];exact g z f);simp only[List.append_nil,List.nil_append,ZhV,ZeH]at a b;rw[a,b];simp
theorem ZJn{o1 d:aC}{x:Int}(g:∀y∈o1,ltJ K y x=true)(h:∀y∈d,ltJ K y x=false):mrgJ K [x] (o1++d)=o1++x :: d:=by
 have a:=ZoJ _ [] [x] o1 d (Nat.le_refl _) (fun y e z f=>by rw[List.mem_singleton.1 f];exact g y e) (by simp);have b:=ZoJ _ [x] [] [] d (Nat.le_refl _) (by simp) (fun z f y e=>by rw[List.mem_singleton.1 f];exact h y e);simp only[List.append_nil,List.nil_append,ZhV,ZeH]at a b;rw[a,b];simp
theorem ZKA{α:Type}:∀(l:List α),l.length≠0->∃T s,l=T++[s]
 | [x],_=>⟨[],x,rfl⟩
 |x :: y :: l,_=>by
  obtain⟨T,s,h⟩:=ZKA (y :: l) (by simp)
  exact⟨x :: T,s,by rw[h];rfl⟩
theorem ZGl{K:Cx}{T:aC}{s x:Int}(h:bc K (T++[s]))(hx:ltJ K x s=false):∀y∈T++[s],ltJ K x y=false:=by
 intro y b;rcases List.mem_append.1 b with q|q
 .exact Znc hx ((List.pairwise_append.1 h).2.2 y q s (by simp))
 .rw[List.mem_singleton.1 q];exact hx
theorem ZFl{K:Cx}(P:aC)(x:Int)(hx:InR K x)(R:aC)(j v8:Int)(k:Int->aC->Option aC):∀(n:Nat)(S1 S2:aC)(fu:Nat),S1.length=n->bc K S1->Rg K S1->(∀y∈S2,ltJ K x y=true)->n+1<=fu->P.length+S1.length+S2.length+R.length<=900000 ->
  ZaX (P.length:Int) j K.c K.b K.s v8 k fu ((P.length+n:Nat):Int) (P++(S1++(x :: (S2++R))))=k (Zaq v8 1) (P++(mrgJ K (S1++S2) [x]++R)):=by
 intro n;induction n with
 |zero=>
  intro S1 S2 fu f g h d o hb;obtain⟨fu,rfl⟩ : ∃x,fu=x+1:=⟨fu-1,by omega⟩;obtain rfl:=List.eq_nil_of_length_eq_zero f;unfold ZaX;rw[Zak,if_neg (by omega),Zzc (o1:=[]) (by simp) d];simp
 |succ n ih=>
  intro S1 S2 fu f g h d o hb;obtain⟨fu,rfl⟩ : ∃x,fu=x+1:=⟨fu-1,by omega⟩;obtain⟨T,s,rfl⟩:=ZKA S1 (by omega);have p:T.length=n:=by simpa using f
  have r:ZaG ((P.length+(n+1):Nat):Int) 1=((P.length+n:Nat):Int):=by rw[ZcO (by omega) (by omega)];omega
  have hl:(P++(T++[s]++(x :: (S2++R)))).length=P.length+(n+1)+1+S2.length+R.length:=by simp;omega
  unfold ZaX;rw[Zak,if_pos (by omega),r,Zar (by rw[hl];omega),Zar (by rw[hl];omega)];simp only[Int.toNat_natCast];have t:(P++(T++[s]++(x :: (S2++R)))).getD (P.length+(n+1)) 0=x:=Zod (L:=P++(T++[s])) (R:=S2++R) (by simp) (by simp;omega);have u:(P++(T++[s]++(x :: (S2++R)))).getD (P.length+n) 0=s:=Zod (L:=P++T) (R:=x :: (S2++R)) (by simp) (by simp;omega);rw[t,u,Zvu hx (h s (by simp)),ZaF,Zak];by_cases e:cmpJ K x s<0
  .have eE:ltJ K x s=true:=Zwd.2 e;have s1:(P++(T++[s]++(x :: (S2++R)))).set (P.length+(n+1)) s=P++(T++(s :: (s :: (S2++R)))):=by
    rw[ZqC (L:=P++(T++[s])) (x:=x) (R:=S2++R) (by simp) (by simp;omega)];simp
   have s2:(P++(T++(s :: (s :: (S2++R))))).set (P.length+n) x=P++(T++(x :: (s :: S2++R))):=by
    rw[ZqC (L:=P++T) (x:=s) (R:=s :: (S2++R)) (by simp) (by simp;omega)];simp
   rw[if_pos e,s1,s2];have:=ih T (s :: S2) fu p (List.pairwise_append.1 g).1 (fun y i=>h y (by simp[i])) (fun y i=>by
    rcases List.mem_cons.1 i with q|q
    .rw[q];exact eE
    .exact d y q) (by omega) (by simp only[List.length_append,List.length_singleton,List.length_cons]at hb ⊢;omega)
   rw[this];simp
  .rw[if_neg e,Zzc (ZGl g (Zyc.2 e)) d];simp
theorem ZHn{K:Cx}(P L Q:aC)(e:Rg K L)(hb:P.length+L.length+Q.length<=900000)(a b:Int)(g:a=(P.length:Int))(j8:b=((P.length+L.length:Nat):Int)) :
  ZbN (P++(L++Q)) a b K.c K.b K.s=some (P++(ZbU K L++Q)):=by
 subst g j8;have h:Zaq (P.length:Int) 1=((P.length+1:Nat):Int):=by rw[Zcm (by omega) (by omega)];omega
 unfold ZbN;rw[h];cases hL:L with
 |nil=>
  unfold ZaJ;rw[Zak,if_neg (by simp;omega)];simp[ZbU]
 |cons z Z=>
  rw[<-hL];have hl1:1<=L.length:=by rw[hL];simp
  have aA:∀(j k fu:Nat),L.length-k=j->1<=k->k<=L.length->j+1<=fu->ZaJ (P.length:Int) ((P.length+L.length:Nat):Int) K.c K.b K.s fu ((P.length+k:Nat):Int) (P++(ZbU K (L.take k)++(L.drop k++Q)))=some (P++(ZbU K L++Q)):=by
   intro j;induction j with
   |zero=>
    intro k fu i d f n;obtain⟨fu,rfl⟩ : ∃x,fu=x+1:=⟨fu-1,by omega⟩;unfold ZaJ;rw[Zak,if_neg (by omega),List.take_of_length_le (by omega),List.drop_eq_nil_of_le (by omega)];rfl
   |succ j ih=>
    intro k fu i d f n;obtain⟨fu,rfl⟩ : ∃x,fu=x+1:=⟨fu-1,by omega⟩;unfold ZaJ;have il:=Zhm (K:=K) (L.take k);rw[List.length_take,Nat.min_eq_left f]at il;have o:Zaq ((P.length+k:Nat):Int) 1=((P.length+(k+1):Nat):Int):=by rw[Zcm (by omega) (by omega)];omega
    rw[Zak,if_pos (by omega),Zfv L 0 k (by omega)];have:=ZFl (K:=K) P (L.getD k 0) (e.get (by omega)) (L.drop (k+1)++Q) ((P.length+L.length:Nat):Int) ((P.length+k:Nat):Int) (ZaJ (P.length:Int) ((P.length+L.length:Nat):Int) K.c K.b K.s fu) k (ZbU K (L.take k)) [] ((((P.length+k:Nat):Int)-(P.length:Int)).toNat+2) il (ZoK _) (ZqH (e.take k)) (by simp) (by omega) (by simp[il];omega);simp only[List.nil_append,List.append_nil,List.cons_append]at this ⊢;rw[this,o,<-ZhZ,Zcn L _ k (by omega),<-List.take_succ_eq_append_getElem (by omega)];exact ih (k+1) fu (by omega) (by omega) (by omega) (by omega)
  have d:ZbU K (L.take 1)=L.take 1:=by rw[hL];simp[ZbU,ZeH]
  have:=aA (L.length-1) 1 ((((P.length+L.length:Nat):Int)-((P.length+1:Nat):Int)).toNat+2) rfl (Nat.le_refl _) hl1 (by omega);rw[d,<-List.append_assoc (L.take 1),List.take_append_drop]at this;exact this
theorem Zvs(i j:Nat)(h:i+j<=10000000):IntKind.wrap .i64 (Int.fdiv (IntKind.wrap .u64 (Zaq (i:Int) (j:Int))) (2 ^ (min (1:Int).toNat (IntKind.bits .u64))))=(((i+j) / 2:Nat):Int):=by
 have b:Zaq (i:Int) (j:Int)=((i+j:Nat):Int):=by rw[Zcm (by omega) (by omega)];omega
 have d:IntKind.wrap .u64 ((i+j:Nat):Int)=((i+j:Nat):Int):=by
  simp only[IntKind.wrap,IntKind.bits,IntKind.signed];simp;omega
 have e:(2:Int) ^ (min (1:Int).toNat (IntKind.bits .u64))=2:=rfl;rw[b,d,e,Int.fdiv_eq_ediv_of_nonneg _ (by omega),Zhl (by omega) (by omega)];omega
theorem ZDK{K:Cx}{x y z:Int}(b:ltJ K z x=true)(d:ltJ K z y=false):ltJ K y x=true:=by
 cases h:ltJ K y x with
 |true=>rfl
 |false=>rw[Znc d h]at b;cases b
theorem ZlT{K:Cx}{Y:aC}(h:bc K Y){i j:Nat}(d:i<=j)(b:j<Y.length):ltJ K (Y.getD j 0) (Y.getD i 0)=false:=by
 by_cases e:i=j
 .rw[e];exact ZHg _
 .rw[Zcn Y _ j b,Zcn Y _ i (by omega)];exact List.pairwise_iff_getElem.1 h i j (by omega) b (by omega)
theorem ZsQ{Y:aC}{k:Nat}{y:Int}(h:y∈Y.take k):∃i,i<k/\i<Y.length/\y=Y.getD i 0:=by
 obtain⟨i,b,rfl⟩:=List.getElem_of_mem h;rw[List.length_take]at b;exact⟨i,by omega,by omega,by rw[Zcn Y _ i (by omega),List.getElem_take]⟩
theorem ZtL{Y:aC}{k:Nat}{y:Int}(h:y∈Y.drop k):∃i,k<=i/\i<Y.length/\y=Y.getD i 0:=by
 obtain⟨i,b,rfl⟩:=List.getElem_of_mem h;rw[List.length_drop]at b;exact⟨k+i,by omega,by omega,by rw[Zcn Y _ (k+i) (by omega),List.getElem_drop]⟩
theorem Zzl{P Y Q:aC}{i k:Nat}(d:k=P.length+i)(b:i<Y.length):(P++(Y++Q)).getD k 0=Y.getD i 0:=by
 have:=Zfv Y 0 i b;have e:P++(Y++Q)=(P++Y.take i)++Y.getD i 0 :: (Y.drop (i+1)++Q):=by
  rw[List.append_assoc,<-List.cons_append,<-this,<-List.append_assoc (Y.take i),List.take_append_drop]
 exact Zod e (by simp;omega)
theorem mv1J{K:Cx}(P R:aC)(x j7:Int)(k:Int->Int->aC->Option aC):∀(Y2 Y1:aC)(fu:Nat),Y2.length+1<=fu->P.length+Y1.length+Y2.length+R.length<=900000 ->
  Zbj (P.length:Int) K.c K.b K.s ((P.length+Y1.length+Y2.length+1:Nat):Int) j7 k fu ((P.length+Y1.length:Nat):Int) (P++(Y1++(x :: (Y2++R))))=some (P++(Y1++(Y2++(x :: R)))):=by
 intro Y2;induction Y2 with
 |nil=>
  intro Y1 fu d hb;obtain⟨fu,rfl⟩ : ∃x,fu=x+1:=⟨fu-1,by omega⟩;unfold Zbj;simp only[List.length_nil,Nat.add_zero];rw[Zak,if_neg (by rw[ZcO (by omega) (by omega)];omega)];rfl
 |cons y Y2 ih=>
  intro Y1 fu d hb;obtain⟨fu,rfl⟩ : ∃x,fu=x+1:=⟨fu-1,by omega⟩;simp only[List.length_cons]at d hb ⊢;have e:Zaq ((P.length+Y1.length:Nat):Int) 1=((P.length+Y1.length+1:Nat):Int):=by rw[Zcm (by omega) (by omega)];omega
  have hl:(P++(Y1++(x :: (y :: Y2++R)))).length=P.length+Y1.length+Y2.length+R.length+2:=by simp;omega
  unfold Zbj;rw[Zak,if_pos (by rw[ZcO (by omega) (by omega)];omega),e,Zar (by rw[hl];omega),Zar (by rw[hl];omega)];simp only[Int.toNat_natCast];have f:(P++(Y1++(x :: (y :: Y2++R)))).getD (P.length+Y1.length+1) 0=y:=Zod (L:=P++(Y1++[x])) (R:=Y2++R) (by simp) (by simp;omega);have g:(P++(Y1++(x :: (y :: Y2++R)))).getD (P.length+Y1.length) 0=x:=Zod (L:=P++Y1) (R:=y :: (Y2++R)) (by simp) (by simp);have s1:(P++(Y1++(x :: (y :: Y2++R)))).set (P.length+Y1.length) y=P++(Y1++(y :: (y :: Y2++R))):=by
   rw[ZqC (L:=P++Y1) (x:=x) (R:=y :: (Y2++R)) (by simp) (by simp)];simp
  have s2:(P++(Y1++(y :: (y :: Y2++R)))).set (P.length+Y1.length+1) x=P++(Y1++(y :: (x :: (Y2++R)))):=by
   rw[ZqC (L:=P++(Y1++[y])) (x:=y) (R:=Y2++R) (by simp) (by simp;omega)];simp
  rw[f,g,s1,s2];have:=ih (Y1++[y]) fu (by omega) (by simp only[List.length_append,List.length_singleton];omega);simp only[List.length_append,List.length_singleton,List.append_assoc,List.singleton_append]at this;have x1:P.length+(Y1.length+1)+Y2.length+1=P.length+Y1.length+(Y2.length+1)+1:=by omega
  have x2:P.length+(Y1.length+1)=P.length+Y1.length+1:=by omega
  rw[x1,x2]at this;exact this
theorem bs1J{K:Cx}(P Y Q:aC)(x:Int)(r:bc K Y)(hxR:InR K x)(t:Rg K Y)(hb:P.length+Y.length+Q.length<=800000):∀(s lo d fu:Nat),d-lo<=s->lo<=d->d<=Y.length->s+1<=fu->(∀y∈Y.take lo,ltJ K y x=true)->(∀y∈Y.drop d,ltJ K y x=false) ->
  ZaI (P.length:Int) K.c K.b K.s fu ((P.length+1+lo:Nat):Int) ((P.length+1+d:Nat):Int) (P++(x :: (Y++Q)))=some (P++(mrgJ K [x] Y++Q)):=by
 intro s;have fin:∀(lo d fu:Nat),lo=d->d<=Y.length->(∀y∈Y.take lo,ltJ K y x=true)->(∀y∈Y.drop d,ltJ K y x=false) ->
   ZaI (P.length:Int) K.c K.b K.s (fu+1) ((P.length+1+lo:Nat):Int) ((P.length+1+d:Nat):Int) (P++(x :: (Y++Q)))=some (P++(mrgJ K [x] Y++Q)):=by
  intro lo d fu e u n f;subst e;unfold ZaI;rw[Zak,if_neg (by omega)];have ho:=ZJn n f;rw[List.take_append_drop]at ho;have:=mv1J (K:=K) P (Y.drop lo++Q) x ((P.length+1+lo:Nat):Int) (ZaI (P.length:Int) K.c K.b K.s fu) (Y.take lo) [] 1000000 (by simp;omega) (by simp;omega);simp only[List.length_take,Nat.min_eq_left u,List.length_nil,Nat.add_zero,List.nil_append]at this;rw[<-List.append_assoc (Y.take lo),List.take_append_drop,show P.length+lo+1=P.length+1+lo by omega]at this;rw[this,ho];simp
 induction s with
 |zero=>
  intro lo d fu h0 n f v g h;obtain⟨fu,rfl⟩ : ∃x,fu=x+1:=⟨fu-1,by omega⟩;exact fin lo d fu (by omega) f g h
 |succ s ih=>
  intro lo d fu h0 n f v g h;obtain⟨fu,rfl⟩ : ∃x,fu=x+1:=⟨fu-1,by omega⟩;by_cases e:lo=d
  .exact fin lo d fu e f g h
  .have z:(P.length+1+lo+(P.length+1+d)) / 2=P.length+1+(lo+d) / 2:=by omega
   have o:(lo+d) / 2<Y.length:=by omega
   have hl:(P++(x :: (Y++Q))).length=P.length+1+Y.length+Q.length:=by simp;omega
   unfold ZaI;rw[Zak,if_pos (by omega),Zvs _ _ (by omega),z,Zar (by rw[hl];omega),Zar (by rw[hl];omega)];simp only[Int.toNat_natCast];have A:(P++(x :: (Y++Q))).getD (P.length+1+(lo+d) / 2) 0=Y.getD ((lo+d) / 2) 0:=by
    have:=Zzl (P:=P++[x]) (Y:=Y) (Q:=Q) (i:=(lo+d) / 2) (k:=P.length+1+(lo+d) / 2) (by simp) o;simpa using this
   rw[A,ZDX,Zvu (t.get o) hxR,ZaF,Zak];have B:Zaq ((P.length+1+(lo+d) / 2:Nat):Int) 1=((P.length+1+((lo+d) / 2+1):Nat):Int):=by rw[Zcm (by omega) (by omega)];omega
   by_cases j:cmpJ K (Y.getD ((lo+d) / 2) 0) x<0
   .rw[if_pos j,B];refine ih _ _ fu (by omega) (by omega) f (by omega) (fun y p=>?_) h;obtain⟨i,i1,i2,rfl⟩:=ZsQ p;exact ZDK (Zwd.2 j) (ZlT r (by omega) o)
   .rw[if_neg j];refine ih _ _ fu (by omega) (by omega) (by omega) (by omega) g (fun y p=>?_);obtain⟨i,i1,i2,rfl⟩:=ZtL p;exact Znc (ZlT r i1 i2) (Zyc.2 j)
theorem mv2J{K:Cx}(P Q:aC)(y e v15:Int)(k:Int->Int->aC->Option aC):∀(n:Nat)(T U:aC)(fu:Nat),T.length=n->n+1<=fu->P.length+T.length+U.length+Q.length<=900000 ->
  Zbi e K.c K.b K.s (P.length:Int) v15 k fu ((P.length+n:Nat):Int) (P++(T++(y :: (U++Q))))=some (P++(y :: (T++(U++Q)))):=by
 intro n;induction n with
 |zero=>
  intro T U fu d f hb;obtain⟨fu,rfl⟩ : ∃x,fu=x+1:=⟨fu-1,by omega⟩;obtain rfl:=List.eq_nil_of_length_eq_zero d;unfold Zbi;rw[Zak,if_neg (by omega)];rfl
 |succ n ih=>
  intro T U fu d f hb;obtain⟨fu,rfl⟩ : ∃x,fu=x+1:=⟨fu-1,by omega⟩;obtain⟨T,s,rfl⟩:=ZKA T (by omega);have g:T.length=n:=by simpa using d
  simp only[List.length_append,List.length_singleton]at hb;have h:ZaG ((P.length+(n+1):Nat):Int) 1=((P.length+n:Nat):Int):=by rw[ZcO (by omega) (by omega)];omega
  have hl:(P++(T++[s]++(y :: (U++Q)))).length=P.length+(n+1)+1+U.length+Q.length:=by simp;omega
  unfold Zbi;rw[Zak,if_pos (by omega),h,Zar (by rw[hl];omega),Zar (by rw[hl];omega)];simp only[Int.toNat_natCast];have i:(P++(T++[s]++(y :: (U++Q)))).getD (P.length+(n+1)) 0=y:=Zod (L:=P++(T++[s])) (R:=U++Q) (by simp) (by simp;omega);have j:(P++(T++[s]++(y :: (U++Q)))).getD (P.length+n) 0=s:=Zod (L:=P++T) (R:=y :: (U++Q)) (by simp) (by simp;omega);have s1:(P++(T++[s]++(y :: (U++Q)))).set (P.length+(n+1)) s=P++(T++(s :: (s :: (U++Q)))):=by
   rw[ZqC (L:=P++(T++[s])) (x:=y) (R:=U++Q) (by simp) (by simp;omega)];simp
  have s2:(P++(T++(s :: (s :: (U++Q))))).set (P.length+n) y=P++(T++(y :: (s :: U++Q))):=by
   rw[ZqC (L:=P++T) (x:=s) (R:=s :: (U++Q)) (by simp) (by simp;omega)];simp
  rw[i,j,s1,s2,ih T (s :: U) fu g (by omega) (by simp only[List.length_cons];omega)];simp
theorem bs2J{K:Cx}(P X Q:aC)(y:Int)(p:bc K X)(hyR:InR K y)(r:Rg K X)(hb:P.length+X.length+Q.length<=800000):∀(s lo d fu:Nat),d-lo<=s->lo<=d->d<=X.length->s+1<=fu->(∀x∈X.take lo,ltJ K y x=false)->(∀x∈X.drop d,ltJ K y x=true) ->
  ZaH ((P.length+X.length:Nat):Int) K.c K.b K.s fu ((P.length+lo:Nat):Int) ((P.length+d:Nat):Int) (P++(X++(y :: Q)))=some (P++(mrgJ K X [y]++Q)):=by
 intro s;have fin:∀(lo d fu:Nat),lo=d->d<=X.length->(∀x∈X.take lo,ltJ K y x=false)->(∀x∈X.drop d,ltJ K y x=true) ->
   ZaH ((P.length+X.length:Nat):Int) K.c K.b K.s (fu+1) ((P.length+lo:Nat):Int) ((P.length+d:Nat):Int) (P++(X++(y :: Q)))=some (P++(mrgJ K X [y]++Q)):=by
  intro lo d fu e t n f;subst e;unfold ZaH;rw[Zak,if_neg (by omega)];have ho:=Zzc n f;rw[List.take_append_drop]at ho;have:=mv2J (K:=K) (P++X.take lo) Q y ((P.length+X.length:Nat):Int) ((P.length+lo:Nat):Int) (ZaH ((P.length+X.length:Nat):Int) K.c K.b K.s fu) (X.length-lo) (X.drop lo) [] ((((P.length+X.length:Nat):Int)-((P.length+lo:Nat):Int)).toNat+2) (by simp) (by omega) (by simp;omega);simp only[List.length_append,List.length_take,Nat.min_eq_left t,List.nil_append,List.append_assoc]at this;rw[<-List.append_assoc (X.take lo) (X.drop lo),List.take_append_drop,show P.length+lo+(X.length-lo)=P.length+X.length by omega]at this;rw[this,ho];simp
 induction s with
 |zero=>
  intro lo d fu h0 n f u g h;obtain⟨fu,rfl⟩ : ∃x,fu=x+1:=⟨fu-1,by omega⟩;exact fin lo d fu (by omega) f g h
 |succ s ih=>
  intro lo d fu h0 n f u g h;obtain⟨fu,rfl⟩ : ∃x,fu=x+1:=⟨fu-1,by omega⟩;by_cases e:lo=d
  .exact fin lo d fu e f g h
  .have v:(P.length+lo+(P.length+d)) / 2=P.length+(lo+d) / 2:=by omega
   have o:(lo+d) / 2<X.length:=by omega
   have hl:(P++(X++(y :: Q))).length=P.length+X.length+1+Q.length:=by simp;omega
   unfold ZaH;rw[Zak,if_pos (by omega),Zvs _ _ (by omega),v,Zar (by rw[hl];omega),Zar (by rw[hl];omega)];simp only[Int.toNat_natCast];have z:(P++(X++(y :: Q))).getD (P.length+(lo+d) / 2) 0=X.getD ((lo+d) / 2) 0:=Zzl rfl o;have A:(P++(X++(y :: Q))).getD (P.length+X.length) 0=y:=Zod (L:=P++X) (R:=Q) (by simp) (by simp);rw[z,A,Zvu hyR (r.get o),ZaF];have B:Zaq ((P.length+(lo+d) / 2:Nat):Int) 1=((P.length+((lo+d) / 2+1):Nat):Int):=by rw[Zcm (by omega) (by omega)];omega
   by_cases j:cmpJ K y (X.getD ((lo+d) / 2) 0)<0
   .rw[decide_eq_true j,Bool.not_true,cond_false];refine ih _ _ fu (by omega) (by omega) (by omega) (by omega) g (fun x hx=>?_);obtain⟨i,i1,i2,rfl⟩:=ZtL hx;exact ZCo (Zwd.2 j) (ZlT p i1 i2)
   .rw[decide_eq_false j,Bool.not_false,cond_true,B];refine ih _ _ fu (by omega) (by omega) f (by omega) (fun x hx=>?_) h;obtain⟨i,i1,i2,rfl⟩:=ZsQ hx;exact Znc (Zyc.2 j) (ZlT p (by omega) o)
def iK(K:Cx)(gr:aC->Int->Int->Int->List Zaa->Int->Int->Option aC)(N:Nat):Prop:=∀(P X Y Q:aC),0<X.length->0<Y.length->bc K X->bc K Y->Rg K X->Rg K Y->X.length+Y.length<=N->P.length+X.length+Y.length+Q.length<=700000->gr (P++(X++(Y++Q))) (P.length:Int) ((P.length+X.length:Nat):Int) ((P.length+X.length+Y.length:Nat):Int) K.c K.b K.s=some (P++(mrgJ K X Y++Q))
theorem ZMa{K:Cx}{gr:aC->Int->Int->Int->List Zaa->Int->Int->Option aC}{N:Nat}(bp:iK K gr N)(P X Y Q:aC)(hX:bc K X)(hY:bc K Y)(dU:Rg K X)(dV:Rg K Y)(hN:X.length+Y.length<=N)(hb:P.length+X.length+Y.length+Q.length<=700000)(d e j9 v20 f4 v22:Int)(k:Int->Int->Int->aC->Option aC) :
  Zbh d e ((P.length+X.length+Y.length:Nat):Int) K.c K.b K.s gr (P.length:Int) j9 v20 f4 v22 ((P.length+X.length:Nat):Int) k (P++(X++(Y++Q)))=some (P++(mrgJ K X Y++Q)):=by
 unfold Zbh;rw[Zak,Zak];by_cases f:X.length=0
 .rw[if_neg (by omega)];obtain rfl:=List.eq_nil_of_length_eq_zero f;rw[ZeH];rfl
 .rw[if_pos (by omega)];by_cases g:Y.length=0
  .rw[if_neg (by omega)];obtain rfl:=List.eq_nil_of_length_eq_zero g;rw[ZhV];rfl
  .rw[if_pos (by omega),bp P X Y Q (by omega) (by omega) hX hY dU dV hN hb];rfl
theorem ZMb{K:Cx}{gr:aC->Int->Int->Int->List Zaa->Int->Int->Option aC}{N:Nat}(bp:iK K gr N)(P X1 Y1 X2 Y2 Q:aC)(hX1:bc K X1)(hY1:bc K Y1)(fG:bc K X2)(fH:bc K Y2)(hR1:Rg K X1)(hR2:Rg K Y1)(hR3:Rg K X2)(hR4:Rg K Y2)(hN1:X1.length+Y1.length<=N)(hN2:X2.length+Y2.length<=N)
  (hb:P.length+X1.length+Y1.length+X2.length+Y2.length+Q.length<=700000) (d j9 f4 v22:Int) (k:Int->Int->Int->aC->Option aC) :
  ZaV (P.length:Int) d ((P.length+X1.length+Y1.length+X2.length+Y2.length:Nat):Int) K.c K.b K.s gr ((P.length+X1.length+Y1.length:Nat):Int) j9 ((P.length+X1.length:Nat):Int) f4 v22 k ((P.length+X1.length+Y1.length+X2.length:Nat):Int) (P++(X1++(Y1++(X2++(Y2++Q))))) =
   some (P++(mrgJ K X1 Y1++(mrgJ K X2 Y2++Q))):=by
 have e:=ZDG (K:=K) _ X1 Y1 (Nat.le_refl _);have next:Zbh (P.length:Int) d ((P.length+X1.length+Y1.length+X2.length+Y2.length:Nat):Int) K.c K.b K.s gr ((P.length+X1.length+Y1.length:Nat):Int) j9 ((P.length+X1.length:Nat):Int) f4 v22 ((P.length+X1.length+Y1.length+X2.length:Nat):Int) k (P++(mrgJ K X1 Y1++(X2++(Y2++Q)))) =
   some (P++(mrgJ K X1 Y1++(mrgJ K X2 Y2++Q))):=by
  have:=ZMa bp (P++mrgJ K X1 Y1) X2 Y2 Q fG fH hR3 hR4 hN2 (by simp only[List.length_append,e];omega) (P.length:Int) d j9 ((P.length+X1.length:Nat):Int) f4 v22 k;simp only[List.length_append,e,List.append_assoc]at this;rw[show P.length+(X1.length+Y1.length)=P.length+X1.length+Y1.length by omega]at this;exact this
 unfold ZaV;rw[Zak,Zak];by_cases f:X1.length=0
 .rw[if_neg (by omega)];obtain rfl:=List.eq_nil_of_length_eq_zero f;rw[ZeH]at next ⊢
  exact next
 .rw[if_pos (by omega)];by_cases g:Y1.length=0
  .rw[if_neg (by omega)];obtain rfl:=List.eq_nil_of_length_eq_zero g;rw[ZhV]at next ⊢
   exact next
  .rw[if_pos (by omega),bp P X1 Y1 (X2++(Y2++Q)) (by omega) (by omega) hX1 hY1 hR1 hR2 hN1 (by simp only[List.length_append];omega),ZaF];exact next
theorem bc.take{K:Cx}{l:aC}(h:bc K l)(k:Nat):bc K (l.take k):=List.Pairwise.sublist (List.take_sublist k l) h
theorem bc.drop{K:Cx}{l:aC}(h:bc K l)(k:Nat):bc K (l.drop k):=List.Pairwise.sublist (List.drop_sublist k l) h
section
variable {K:Cx} {gr:aC->Int->Int->Int->List Zaa->Int->Int->Option aC} {N:Nat} (bp:iK K gr N) (P X Y Q:aC) (hX:bc K X) (hY:bc K Y) (dU:Rg K X) (dV:Rg K Y) (fG:0 < X.length) (fH:0 < Y.length) (hN:X.length + Y.length<=N + 1) (hb:P.length + X.length + Y.length + Q.length<=700000)
 (mid s0 r0:Nat) (hmid:mid=(P.length+(P.length+X.length+Y.length)) / 2)
 (h0:(mid<P.length+X.length/\s0+(P.length+X.length+Y.length)=mid+(P.length+X.length)/\r0=mid)\/(P.length+X.length<=mid/\s0=P.length/\r0=P.length+X.length))
include bp hX hY dU dV fG fH hN hb hmid h0
def ZsY(K:Cx)(P X Y:aC)(mid c:Nat):Bool:=ltJ K (Y.getD (mid-1-c) 0) (X.getD (c-P.length) 0)
theorem ZLr(st:Nat)(u:s0<=st)(v:st<=r0)(jW:∀c,s0<=c->c<st->ZsY K P X Y mid c=false)(dD:∀c,st<=c->c<r0->ZsY K P X Y mid c=true)(f4 v22:Int)(k:Int->Int->Int->aC->Option aC) :
  (bif(decide ((st:Int)<((P.length+X.length:Nat):Int)))then
    bif(decide (((P.length+X.length:Nat):Int)<(ZaG ((mid+(P.length+X.length):Nat):Int) (st:Int))))then
     (Zcu (P++(X++(Y++Q))) (st:Int) ((P.length+X.length:Nat):Int) (ZaG ((mid+(P.length+X.length):Nat):Int) (st:Int)) K.c K.b K.s).bind fun x2=>
     ZaV (P.length:Int) ((P.length+X.length:Nat):Int) ((P.length+X.length+Y.length:Nat):Int) K.c K.b K.s gr (mid:Int) ((mid+(P.length+X.length):Nat):Int) (st:Int) f4 v22 k (ZaG ((mid+(P.length+X.length):Nat):Int) (st:Int)) x2
    else
     ZaV (P.length:Int) ((P.length+X.length:Nat):Int) ((P.length+X.length+Y.length:Nat):Int) K.c K.b K.s gr (mid:Int) ((mid+(P.length+X.length):Nat):Int) (st:Int) f4 v22 k (ZaG ((mid+(P.length+X.length):Nat):Int) (st:Int)) (P++(X++(Y++Q)))
   else
    ZaV (P.length:Int) ((P.length+X.length:Nat):Int) ((P.length+X.length+Y.length:Nat):Int) K.c K.b K.s gr (mid:Int) ((mid+(P.length+X.length):Nat):Int) (st:Int) f4 v22 k (ZaG ((mid+(P.length+X.length):Nat):Int) (st:Int)) (P++(X++(Y++Q))))=some (P++(mrgJ K X Y++Q)):=by
 have z:P.length<=st:=by omega
 have hmm:st<=mid:=by omega
 have bV:st-P.length<=X.length:=by omega
 have hk2:mid-st<=Y.length:=by omega
 obtain⟨d,n⟩ : ∃d,st=P.length+d:=⟨st-P.length,by omega⟩;obtain⟨e,A⟩ : ∃e,mid=st+e:=⟨mid-st,by omega⟩;have ee:ZaG ((mid+(P.length+X.length):Nat):Int) (st:Int)=((P.length+X.length+e:Nat):Int):=by rw[ZcO (by omega) (by omega)];omega
 have o:∀y∈Y.take e,∀x∈X.drop d,ltJ K y x=true:=by
  intro y f x hx;obtain⟨i,i1,i2,rfl⟩:=ZsQ f;obtain⟨j,j1,j2,rfl⟩:=ZtL hx;have h:=dD st (Nat.le_refl _) (by omega);unfold ZsY at h;rw[show mid-1-st=e-1 by omega,show st-P.length=d by omega]at h;exact ZCo (ZDK h (ZlT hY (by omega) (by omega))) (ZlT hX j1 j2)
 have p:∀x∈X.take d,∀y∈Y.drop e,ltJ K y x=false:=by
  intro x hx y f;obtain⟨i,i1,i2,rfl⟩:=ZsQ hx;obtain⟨j,j1,j2,rfl⟩:=ZtL f;have h:=jW (st-1) (by omega) (by omega);unfold ZsY at h;rw[show mid-1-(st-1)=e by omega,show st-1-P.length=d-1 by omega]at h;exact Znc (Znc (ZlT hY j1 j2) h) (ZlT hX (by omega) (by omega))
 have r:mrgJ K X Y=mrgJ K (X.take d) (Y.take e)++mrgJ K (X.drop d) (Y.drop e):=by
  have:=ZoJ (K:=K) _ (X.take d) (X.drop d) (Y.take e) (Y.drop e) (Nat.le_refl _) o p;rwa [List.take_append_drop,List.take_append_drop]at this
 have l1:(X.take d).length=d:=by simp;omega
 have l2:(Y.take e).length=e:=by simp;omega
 have l3:(X.drop d).length=X.length-d:=by simp
 have l4:(Y.drop e).length=Y.length-e:=by simp
 have last:=ZMb bp P (X.take d) (Y.take e) (X.drop d) (Y.drop e) Q (hX.take _) (hY.take _) (hX.drop _) (hY.drop _) (dU.take _) (dV.take _) (dU.drop _) (dV.drop _) (by omega) (by omega) (by omega) ((P.length+X.length:Nat):Int) ((mid+(P.length+X.length):Nat):Int) f4 v22 k;rw[l1,l2,l3,l4,show P.length+d+e+(X.length-d)+(Y.length-e)=P.length+X.length+Y.length by omega,show P.length+d+e+(X.length-d)=P.length+X.length+e by omega,show P.length+d+e=mid by omega,<-n]at last;have g:P++(X++(Y++Q))=P++X.take d++(X.drop d++(Y.take e++(Y.drop e++Q))):=by
  rw[<-List.append_assoc (Y.take e),List.take_append_drop,List.append_assoc,<-List.append_assoc (X.take d),List.take_append_drop]
 have t:some (P++(mrgJ K (X.take d) (Y.take e)++(mrgJ K (X.drop d) (Y.drop e)++Q)))=some (P++(mrgJ K X Y++Q)):=by rw[r,List.append_assoc]
 rw[t]at last;rw[ee,Zak,Zak];by_cases B:d<X.length
 .rw[if_pos (by omega)];by_cases C:0<e
  .rw[if_pos (by omega),g,ZKD (P++X.take d) (X.drop d) (Y.take e) (Y.drop e++Q) (by omega) (by omega) (by simp only[List.length_append];omega) _ _ _ (by simp only[List.length_append];omega) (by simp only[List.length_append];omega) (by simp only[List.length_append];omega),ZaF];simp only[List.append_assoc]at last ⊢;exact last
  .obtain rfl:e=0:=by omega
   rw[if_neg (by omega),g];simp only[List.append_assoc,List.take_zero,List.nil_append]at last ⊢;exact last
 .rw[if_neg (by omega),g,show d=X.length by omega];rw[show d=X.length by omega]at last;simp only[List.append_assoc,List.drop_length,List.nil_append]at last ⊢;exact last
end
section
variable {K:Cx} {gr:aC->Int->Int->Int->List Zaa->Int->Int->Option aC} {N:Nat} (bp:iK K gr N) (P X Y Q:aC) (hX:bc K X) (hY:bc K Y) (dU:Rg K X) (dV:Rg K Y) (fG:0 < X.length) (fH:0 < Y.length) (hN:X.length + Y.length<=N + 1) (hb:P.length + X.length + Y.length + Q.length<=700000)
 (mid s0 r0:Nat) (hmid:mid=(P.length+(P.length+X.length+Y.length)) / 2)
 (h0:(mid<P.length+X.length/\s0+(P.length+X.length+Y.length)=mid+(P.length+X.length)/\r0=mid)\/(P.length+X.length<=mid/\s0=P.length/\r0=P.length+X.length))
include bp hX hY dU dV fG fH hN hb hmid h0
omit bp hN hb dU dV in
theorem ZxY{c c':Nat}(b:s0<=c')(d:c'<=c)(e:c<r0)(h:ZsY K P X Y mid c=false):ZsY K P X Y mid c'=false:=by
 unfold ZsY at *
 exact Znc (Znc (ZlT hY (by omega) (by omega)) h) (ZlT hX (by omega) (by omega))
theorem ZEr:∀(s lo d fu:Nat),d-lo<=s->s0<=lo->lo<=d->d<=r0->s+1<=fu->(∀c,s0<=c->c<lo->ZsY K P X Y mid c=false)->(∀c,d<=c->c<r0->ZsY K P X Y mid c=true) ->
  ZaD (P.length:Int) ((P.length+X.length:Nat):Int) ((P.length+X.length+Y.length:Nat):Int) K.c K.b K.s gr (mid:Int) ((mid+(P.length+X.length):Nat):Int) fu (lo:Int) (d:Int) ((mid+(P.length+X.length)-1:Nat):Int) (P++(X++(Y++Q)))=some (P++(mrgJ K X Y++Q)):=by
 intro s;have fin:∀(lo fu:Nat),s0<=lo->lo<=r0->(∀c,s0<=c->c<lo->ZsY K P X Y mid c=false)->(∀c,lo<=c->c<r0->ZsY K P X Y mid c=true) ->
   ZaD (P.length:Int) ((P.length+X.length:Nat):Int) ((P.length+X.length+Y.length:Nat):Int) K.c K.b K.s gr (mid:Int) ((mid+(P.length+X.length):Nat):Int) (fu+1) (lo:Int) (lo:Int) ((mid+(P.length+X.length)-1:Nat):Int) (P++(X++(Y++Q)))=some (P++(mrgJ K X Y++Q)):=by
  intro lo fu f g r t;unfold ZaD;rw[Zak,if_neg (by omega)];exact ZLr bp P X Y Q hX hY dU dV fG fH hN hb mid s0 r0 hmid h0 lo f g r t _ _ _
 induction s with
 |zero=>
  intro lo d fu u h v j y f g;obtain⟨fu,rfl⟩ : ∃x,fu=x+1:=⟨fu-1,by omega⟩;obtain rfl:lo=d:=by omega
  exact fin lo fu h j f g
 |succ s ih=>
  intro lo d fu u h v j y f g;obtain⟨fu,rfl⟩ : ∃x,fu=x+1:=⟨fu-1,by omega⟩;by_cases e:lo=d
  .subst e;exact fin lo fu h j f g
  .have t1:(lo+d) / 2<r0:=by omega
   have t2:s0<=(lo+d) / 2:=by omega
   have ep:ZaG ((mid+(P.length+X.length)-1:Nat):Int) (((lo+d) / 2:Nat):Int)=((P.length+X.length+(mid-1-(lo+d) / 2):Nat):Int):=by rw[ZcO (by omega) (by omega)];omega
   have hl:(P++(X++(Y++Q))).length=P.length+X.length+Y.length+Q.length:=by simp;omega
   have e1':Zaq (((lo+d) / 2:Nat):Int) 1=(((lo+d) / 2+1:Nat):Int):=by rw[Zcm (by omega) (by omega)];omega
   unfold ZaD;rw[Zak,if_pos (by omega),Zvs _ _ (by omega),ep,Zar (by rw[hl];omega),Zar (by rw[hl];omega)];simp only[Int.toNat_natCast];have z:(P++(X++(Y++Q))).getD (P.length+X.length+(mid-1-(lo+d) / 2)) 0=Y.getD (mid-1-(lo+d) / 2) 0:=by
    have:=Zzl (P:=P++X) (Y:=Y) (Q:=Q) (i:=mid-1-(lo+d) / 2) (k:=P.length+X.length+(mid-1-(lo+d) / 2)) (by simp) (by omega);simpa using this
   have A:(P++(X++(Y++Q))).getD ((lo+d) / 2) 0=X.getD ((lo+d) / 2-P.length) 0:=Zzl (by omega) (by omega);rw[z,A,Zvu (dV.get (by omega)) (dU.get (by omega)),ZaF,e1'];by_cases n:cmpJ K (Y.getD (mid-1-(lo+d) / 2) 0) (X.getD ((lo+d) / 2-P.length) 0)<0
   .have ok:ZsY K P X Y mid ((lo+d) / 2)=true:=Zwd.2 n;rw[decide_eq_true n,Bool.not_true,cond_false];refine ih lo _ fu (by omega) h (by omega) (by omega) (by omega) f (fun c o p=>?_);cases q:ZsY K P X Y mid c with
    |true=>rfl
    |false=>
     have:=ZxY P X Y hX hY fG fH mid s0 r0 hmid h0 t2 o p q;rw[ok]at this;cases this
   .have ok:ZsY K P X Y mid ((lo+d) / 2)=false:=Zyc.2 n;rw[decide_eq_false n,Bool.not_false,cond_true];exact ih _ d fu (by omega) (by omega) (by omega) j (by omega) (fun c o p=>ZxY P X Y hX hY fG fH mid s0 r0 hmid h0 o (by omega) t1 ok) g
end
theorem ZJZ{K:Cx}{gr:aC->Int->Int->Int->List Zaa->Int->Int->Option aC}{N:Nat}(bp:iK K gr N):iK K (ZcB gr) (N+1):=by
 intro P X Y Q fG fH hX hY dU dV hN hb;unfold ZcB;have g:ZaG ((P.length+X.length:Nat):Int) (P.length:Int)=(X.length:Int):=by rw[ZcO (by omega) (by omega)];omega
 have h:ZaG ((P.length+X.length+Y.length:Nat):Int) ((P.length+X.length:Nat):Int)=(Y.length:Int):=by rw[ZcO (by omega) (by omega)];omega
 rw[g,h,Zhe,Zhe];by_cases e:X.length=1
 .rw[if_pos (by omega)];obtain⟨x,rfl⟩ : ∃x,X=[x]:=by
   cases X with
   |nil=>cases e
   |cons x X=>exact⟨x,by rw[List.eq_nil_of_length_eq_zero (show X.length=0 by simpa using e)]⟩
  have:=bs1J P Y Q x hY (dU x (by simp)) dV (by omega) Y.length 0 Y.length ((((P.length+[x].length+Y.length:Nat):Int)-((P.length+[x].length:Nat):Int)).toNat+2) (by omega) (by omega) (Nat.le_refl _) (by simp only[List.length_singleton];omega) (by simp) (by simp);exact this
 .rw[if_neg (by omega)];by_cases f:Y.length=1
  .rw[if_pos (by omega)];obtain⟨y,rfl⟩ : ∃y,Y=[y]:=by
    cases Y with
    |nil=>cases f
    |cons y Y=>exact⟨y,by rw[List.eq_nil_of_length_eq_zero (show Y.length=0 by simpa using f)]⟩
   have:=bs2J P X Q y hX (dV y (by simp)) dU (by omega) X.length 0 X.length ((((P.length+X.length:Nat):Int)-(P.length:Int)).toNat+2) (by omega) (by omega) (Nat.le_refl _) (by omega) (by simp) (by simp);exact this
  .rw[if_neg (by omega)];rw[Zvs _ _ (by omega)];obtain⟨mid,hmid⟩ : ∃mid,mid=(P.length+(P.length+X.length+Y.length)) / 2:=⟨_,rfl⟩;rw[<-hmid];have en:Zaq (mid:Int) ((P.length+X.length:Nat):Int)=((mid+(P.length+X.length):Nat):Int):=by rw[Zcm (by omega) (by omega)];omega
   have ep:ZaG ((mid+(P.length+X.length):Nat):Int) 1=((mid+(P.length+X.length)-1:Nat):Int):=by rw[ZcO (by omega) (by omega)];omega
   rw[en,Zak];by_cases i:mid<P.length+X.length
   .have es:ZaG ((mid+(P.length+X.length):Nat):Int) ((P.length+X.length+Y.length:Nat):Int)=((mid+(P.length+X.length)-(P.length+X.length+Y.length):Nat):Int):=by rw[ZcO (by omega) (by omega)];omega
    rw[if_pos (by omega),es];unfold ZbW;rw[ep];exact ZEr bp P X Y Q hX hY dU dV fG fH hN hb mid (mid+(P.length+X.length)-(P.length+X.length+Y.length)) mid hmid (.inl ⟨i,by omega,rfl⟩) _ _ _ _ (Nat.le_refl _) (Nat.le_refl _) (by omega) (Nat.le_refl _) (by omega) (fun c b d=>by omega) (fun c b d=>by omega)
   .rw[if_neg (by omega)];unfold ZbW;rw[ep];exact ZEr bp P X Y Q hX hY dU dV fG fH hN hb mid P.length (P.length+X.length) hmid (.inr ⟨by omega,rfl,rfl⟩) _ _ _ _ (Nat.le_refl _) (Nat.le_refl _) (by omega) (Nat.le_refl _) (by omega) (fun c b d=>by omega) (fun c b d=>by omega)
theorem ZDh{K:Cx}:∀fu,iK K (Zbg fu) fu
 | 0=>fun P X Y Q b d _ _ _ _ e=>by omega
 |fu+1=>fun P X Y Q b d e f g h i j=>by
  unfold Zbg
  exact ZJZ (ZDh fu) P X Y Q b d e f g h i j
inductive BlkJ (K:Cx) (B:Nat):aC->aC->Prop
 |last (L:aC) (h:L.length<=B):BlkJ K B L (ZbU K L)
 |more (L D:aC) (h:B<=L.length) (r:BlkJ K B (L.drop B) D):BlkJ K B L (ZbU K (L.take B)++D)
theorem BlkJ.len{K:Cx}{B:Nat}{L D:aC}(h:BlkJ K B L D):D.length=L.length:=by
 induction h with
 |last L h=>exact Zhm L
 |more L D h r ih=>rw[List.length_append,Zhm,ih];simp;omega
theorem BlkJ.one{K:Cx}{B:Nat}(d:0<B){L D:aC}(h:BlkJ K B L D)(hl:L.length<=B):D=ZbU K L:=by
 cases h with
 |last _ h=>rfl
 |more _ D h r=>
  have:L.length=B:=by omega
  have hd:L.drop B=[]:=List.drop_eq_nil_of_le (by omega);have b:=r.len;rw[hd]at b;rw[List.eq_nil_of_length_eq_zero b,List.take_of_length_le (by omega),List.append_nil]
theorem BlkJ.split{K:Cx}{B:Nat}{L D:aC}(h:BlkJ K B L D)(hl:B<=L.length):∃D1,D=ZbU K (L.take B)++D1/\BlkJ K B (L.drop B) D1:=by
 cases h with
 |last _ h=>
  have e:L.length=B:=by omega
  refine⟨[],by rw[List.take_of_length_le (by omega),List.append_nil],?_⟩;rw[List.drop_eq_nil_of_le (by omega)];exact BlkJ.last [] (by simp)
 |more _ D h r=>exact⟨D,rfl,r⟩
theorem ZLD{K:Cx}(B:Nat)(n:0<B)(hB2:B<=800)(r:Int->Int->Int->aC->Option aC)(o:Int->aC->Option aC):∀(s:Nat)(L P D:aC)(fu:Nat),L.length<2*B*(s+1)->s+1<=fu->P.length+L.length<=900->Rg K L->BlkJ K B L D ->
  ∃D',BlkJ K (2*B) L D'/\Zbd ((P.length+L.length:Nat):Int) K.c K.b K.s (B:Int) r o fu (P.length:Int) ((P.length+2*B:Nat):Int) (P++D)=o ((2*B:Nat):Int) (P++D'):=by
 intro s;induction s with
 |zero=>
  intro L P D fu p t hb d h;obtain⟨fu,rfl⟩ : ∃x,fu=x+1:=⟨fu-1,by omega⟩;have g:Zaq (P.length:Int) (B:Int)=((P.length+B:Nat):Int):=by rw[Zcm (by omega) (by omega)];omega
  have u:ZiO (B:Int) 2=((2*B:Nat):Int):=by rw[Zvn (by omega) (by omega)];omega
  unfold Zbd;rw[Zak,if_neg (by omega),g,u,Zak];refine⟨ZbU K L,BlkJ.last L (by omega),?_⟩;by_cases C:B<L.length
  .obtain⟨D1,rfl,i⟩:=h.split (by omega);have e:=i.one n (by simp;omega);subst e;have l1:(ZbU K (L.take B)).length=B:=by rw[Zhm];simp;omega
   have l2:(ZbU K (L.drop B)).length=L.length-B:=by rw[Zhm];simp
   have f:=ZDh (K:=K) 1000 P (ZbU K (L.take B)) (ZbU K (L.drop B)) [] (by omega) (by omega) (ZoK _) (ZoK _) (ZqH (d.take _)) (ZqH (d.drop _)) (by omega) (by simp;omega);rw[l1,l2,show P.length+B+(L.length-B)=P.length+L.length by omega,<-Ztf,List.take_append_drop,List.append_nil,List.append_nil]at f;rw[if_pos (by omega),f,ZaF]
  .rw[if_neg (by omega),h.one n (by omega)]
 |succ s ih=>
  intro L P D fu p t hb d h;rw[Nat.mul_succ]at p;by_cases v:2*B<=L.length
  .obtain⟨fu,rfl⟩ : ∃x,fu=x+1:=⟨fu-1,by omega⟩;have g:Zaq (P.length:Int) (B:Int)=((P.length+B:Nat):Int):=by rw[Zcm (by omega) (by omega)];omega
   have y:ZiO (2:Int) (B:Int)=((2*B:Nat):Int):=by rw[Zvn (by omega) (by omega)];omega
   have z:Zaq ((P.length+2*B:Nat):Int) ((2*B:Nat):Int)=((P.length+2*B+2*B:Nat):Int):=by rw[Zcm (by omega) (by omega)];omega
   unfold Zbd;rw[Zak,g,y,z];obtain⟨D1,rfl,i⟩:=h.split (by omega);obtain⟨D2,rfl,j⟩:=i.split (by simp;omega);have l1:(ZbU K (L.take B)).length=B:=by rw[Zhm];simp;omega
   have l2:(ZbU K ((L.drop B).take B)).length=B:=by rw[Zhm];simp;omega
   have lD:=j.len;simp only[List.length_drop]at lD;have f:=ZDh (K:=K) 1000 P (ZbU K (L.take B)) (ZbU K ((L.drop B).take B)) D2 (by omega) (by omega) (ZoK _) (ZoK _) (ZqH (d.take _)) (ZqH ((d.drop _).take _)) (by omega) (by omega);rw[l1,l2,show P.length+B+B=P.length+2*B by omega,<-Ztf]at f;have et:L.take B++(L.drop B).take B=L.take (2*B):=by rw[show 2*B=B+B by omega,List.take_add]
   have ed:(L.drop B).drop B=L.drop (2*B):=by rw[List.drop_drop];congr 1;omega
   rw[et]at f;rw[ed]at j;rw[if_pos (by omega),f,ZaF];have lt:(ZbU K (L.take (2*B))).length=2*B:=by rw[Zhm];simp;omega
   obtain⟨D',d1,d2⟩:=ih (L.drop (2*B)) (P++ZbU K (L.take (2*B))) D2 fu (by rw[List.length_drop];omega) (by omega) (by simp only[List.length_append,lt,List.length_drop];omega) (d.drop _) j;refine⟨ZbU K (L.take (2*B))++D',BlkJ.more L D' v d1,?_⟩;simp only[List.length_append,lt,List.length_drop,List.append_assoc]at d2;rw[show P.length+2*B+(L.length-2*B)=P.length+L.length by omega]at d2;exact d2
  .obtain⟨fu,rfl⟩ : ∃x,fu=x+1:=⟨fu-1,by omega⟩;have A:L.length<2*B*(s+1):=by
    have:2*B<=2*B*(s+1):=Nat.le_mul_of_pos_right _ (by omega);omega
   exact ih L P D (fu+1) A (by omega) hb d h
theorem ZLE{K:Cx}(v7 v8:Int)(d:Int->Int->Int->aC->Option aC)(L:aC)(hL:L.length<=800)(f:Rg K L):∀(s B:Nat)(D:aC)(fu:Nat),L.length-B<=s->0<B->B<=1600->s+1<=fu->BlkJ K B L D ->
  ZaS (L.length:Int) K.c K.b K.s v7 v8 d fu (B:Int) D=some (ZbU K L):=by
 intro s;induction s with
 |zero=>
  intro B D fu g e hB2 i h;obtain⟨fu,rfl⟩ : ∃x,fu=x+1:=⟨fu-1,by omega⟩;unfold ZaS;rw[Zak,if_neg (by omega),h.one e (by omega)]
 |succ s ih=>
  intro B D fu g e hB2 i h;obtain⟨fu,rfl⟩ : ∃x,fu=x+1:=⟨fu-1,by omega⟩;unfold ZaS;rw[Zak];by_cases p:B<L.length
  .have j:ZiO (2:Int) (B:Int)=((2*B:Nat):Int):=by rw[Zvn (by omega) (by omega)];omega
   rw[if_pos (by omega),j];have n:L.length / (2*B)+1<=(((L.length:Nat):Int)-((2*B:Nat):Int)).toNat+2:=by
    by_cases o:L.length<2*B
    .rw[Nat.div_eq_of_lt o];omega
    .rw[Nat.div_eq_sub_div (by omega) (by omega)];have:=Nat.div_le_self (L.length-2*B) (2*B);omega
   obtain⟨D',d1,d2⟩:=ZLD B e (by omega) d (ZaS (L.length:Int) K.c K.b K.s v7 v8 d fu) (L.length / (2*B)) L [] D _ (Nat.lt_mul_div_succ _ (by omega)) n (by simp;omega) f h;simp only[List.length_nil,Nat.zero_add,List.nil_append]at d2;have d2':Zbd (L.length:Int) K.c K.b K.s (B:Int) d (ZaS (L.length:Int) K.c K.b K.s v7 v8 d fu) ((((L.length:Nat):Int)-((2*B:Nat):Int)).toNat+2) 0 ((2*B:Nat):Int) D=_:=d2;rw[d2'];exact ih (2*B) D' fu (by omega) (by omega) (by omega) (by omega) d1
  .rw[if_neg (by omega),h.one e (by omega)]
theorem ZLF{K:Cx}(A:aC)(g:A.length<=800)(h:Rg K A):∀(s:Nat)(L P:aC)(fu:Nat),L.length<20*(s+1)->s+1<=fu->P.length+L.length=A.length->Rg K L->(∀D,BlkJ K 20 L D->BlkJ K 20 A (P++D)) ->
  ZaP (A.length:Int) K.c K.b K.s fu 20 (P.length:Int) ((P.length+20:Nat):Int) (P++L)=some (ZbU K A):=by
 intro s;have fin:∀(L P:aC)(fu:Nat),L.length<20->P.length+L.length=A.length->Rg K L->(∀D,BlkJ K 20 L D->BlkJ K 20 A (P++D)) ->
   ZaP (A.length:Int) K.c K.b K.s (fu+1) 20 (P.length:Int) ((P.length+20:Nat):Int) (P++L)=some (ZbU K A):=by
  intro L P fu f hl iL d;unfold ZaP;have e:=ZHn (K:=K) P L [] iL (by simp;omega) (P.length:Int) (A.length:Int) rfl (by omega);simp only[List.append_nil]at e;rw[Zak,if_neg (by omega),e,ZaF];exact ZLE _ _ _ A g h (A.length-20) 20 _ _ (Nat.le_refl _) (by omega) (by omega) (by omega) (d _ (BlkJ.last L (by omega)))
 induction s with
 |zero=>
  intro L P fu f i hl iL d;obtain⟨fu,rfl⟩ : ∃x,fu=x+1:=⟨fu-1,by omega⟩;exact fin L P fu (by omega) hl iL d
 |succ s ih=>
  intro L P fu f i hl iL d;obtain⟨fu,rfl⟩ : ∃x,fu=x+1:=⟨fu-1,by omega⟩;by_cases j:L.length<20
  .exact fin L P fu j hl iL d
  .unfold ZaP;have lt:(L.take 20).length=20:=by simp;omega
   have e:=ZHn (K:=K) P (L.take 20) (L.drop 20) (iL.take _) (by simp;omega) (P.length:Int) ((P.length+20:Nat):Int) rfl (by rw[lt]);rw[List.take_append_drop]at e;have n:Zaq ((P.length+20:Nat):Int) 20=((P.length+20+20:Nat):Int):=by rw[Zcm (by omega) (by omega)];omega
   rw[Zak,if_pos (by omega),e,ZaF,n];have li:(ZbU K (L.take 20)).length=20:=by rw[Zhm,lt]
   have:=ih (L.drop 20) (P++ZbU K (L.take 20)) fu (by rw[List.length_drop];omega) (by omega) (by simp only[List.length_append,li,List.length_drop];omega) (iL.drop _) (fun D o=>by
    have:=d _ (BlkJ.more L D (by omega) o);rwa [<-List.append_assoc]at this)
   simp only[List.length_append,li,List.append_assoc]at this;exact this
theorem ZAb{K:Cx}(A:aC)(e:A.length<=800)(d:Rg K A):Zco A K.c K.b K.s=some (ZbU K A):=by
 unfold Zco Zeb;have f:A.length / 20+1<=(((A.length:Nat):Int)-(20:Int)).toNat+2:=by omega
 have:=ZLF (K:=K) A e d (A.length / 20) A [] ((((A.length:Nat):Int)-(20:Int)).toNat+2) (by omega) f (by simp) d (fun D h=>h);simp only[List.length_nil,Nat.zero_add,List.nil_append]at this;have fI:ZaP (A.length:Int) K.c K.b K.s ((((A.length:Nat):Int)-(20:Int)).toNat+2) 20 0 20 A=some (ZbU K A):=this;rw[fI];rfl
def bstJ(K:Cx):Int->aC->Int|b,[]=>b|b,y :: r=>if ltJ K y b=true then bstJ K y r else bstJ K b r
theorem ZzE{K:Cx}(y:Int):∀(l:aC)(b:Int),bstJ K b (l++[y])=if ltJ K y (bstJ K b l)=true then y else bstJ K b l
 | [],b=>rfl
 |x :: r,b=>by
  simp only[List.cons_append,bstJ]
  split
  .exact ZzE y r x
  .exact ZzE y r b
theorem ZzD{K:Cx}:∀(l:aC)(b:Int),bstJ K b l∈b :: l
 | [],b=>by simp[bstJ]
 |x :: r,b=>by
  simp only[bstJ]
  split
  .exact List.mem_cons_of_mem _ (ZzD r x)
  .rcases List.mem_cons.1 (ZzD (K:=K) r b)with h|h
   .rw[h];simp
   .exact List.mem_cons_of_mem _ (List.mem_cons_of_mem _ h)
theorem ZLe{l:aC}{y:Int}(h:y ∉ l):l.filter (fun x=>x != y)=l:=List.filter_eq_self.2 fun x hx=>by
 rw[bne_iff_ne];rintro rfl;exact h hx
theorem ZFk{K:Cx}(b:Int)(l:aC)(g:(b :: l).Nodup):ZbU K (b :: l)=bstJ K b l :: ZbU K ((b :: l).filter fun x=>x != bstJ K b l):=by
 have aA:∀n,n<=l.length->ZbU K (b :: l.take n)=bstJ K b (l.take n) :: ZbU K ((b :: l.take n).filter fun x=>x != bstJ K b (l.take n)):=by
  intro n;induction n with
  |zero=>intro _;simp[ZbU,bstJ,ZeH]
  |succ n ih=>
   intro h;have d:l.take (n+1)=l.take n++[l[n]]:=List.take_succ_eq_append_getElem (show n<l.length by omega);have hn2:(b :: l.take n++[l[n]]).Nodup:=by
    have:(b :: l.take (n+1)).Nodup:=g.sublist (List.Sublist.cons_cons _ (List.take_sublist _ _));rw[d]at this;exact this
   have bO:l[n] ∉ b :: l.take n:=fun f=>(List.nodup_append.1 hn2).2.2 _ f _ (by simp) rfl;have e:b :: l.take (n+1)=(b :: l.take n)++[l[n]]:=by rw[d];rfl
   have f:=ZzD (K:=K) (l.take n) b;rw[e,ZhZ,ih (by omega),d,ZzE];cases hlt:ltJ K l[n] (bstJ K b (l.take n))with
   |true=>
    rw[if_pos rfl,Zix _ _ hlt,ZhV,<-ih (by omega),List.filter_append,ZLe bO];simp
   |false=>
    have hne:l[n]≠bstJ K b (l.take n):=fun h=>bO (h ▸ f);rw[if_neg (by decide),Zjm _ _ hlt,List.filter_append,<-ZhZ];congr 2;simp[hne]
 have:=aA l.length (Nat.le_refl _);rwa [List.take_length]at this
def selN(K:Cx):Nat->aC->aC|0,_=>[]|_+1,[]=>[]|n+1,b :: l=>bstJ K b l :: selN K n ((b :: l).filter fun x=>x != bstJ K b l)
theorem ZDo{K:Cx}:∀(n:Nat)(L:aC),L.Nodup->selN K n L=(ZbU K L).take n
 | 0,_,_=>by simp[selN]
 |n+1,[],_=>by simp[selN,ZbU]
 |n+1,b :: l,h=>by
  rw[selN,ZFk b l h,List.take_succ_cons,ZDo n _ (h.sublist List.filter_sublist)]
theorem ZKS{K K':Cx}(f:Int->Int):∀(n:Nat)(a b:aC),a.length+b.length<=n->(∀x∈a,∀y∈b,ltJ K' (f y) (f x)=ltJ K y x)->mrgJ K' (a.map f) (b.map f)=(mrgJ K a b).map f:=by
 intro n;induction n with
 |zero=>
  intro a b h _;obtain rfl:=List.eq_nil_of_length_eq_zero (show a.length=0 by omega);simp[ZeH]
 |succ n ih=>
  intro a b h g;cases a with
  |nil=>simp[ZeH]
  |cons x a=>
   cases b with
   |nil=>simp[ZhV]
   |cons y b=>
    simp only[List.length_cons]at h;have e:=g x (by simp) y (by simp);simp only[List.map_cons];cases d:ltJ K y x with
    |true=>
     rw[d]at e;have:=ih (x :: a) b (by simp only[List.length_cons];omega) fun x' hx y' i=>g x' hx y' (by simp[i]);simp only[List.map_cons]at this;rw[Zix _ _ e,Zix _ _ d,List.map_cons,this]
    |false=>
     rw[d]at e;have:=ih a (y :: b) (by simp only[List.length_cons];omega) fun x' hx y' i=>g x' (by simp[hx]) y' i;simp only[List.map_cons]at this;rw[Zjm _ _ e,Zjm _ _ d,List.map_cons,this]
theorem ZAF{K:Cx}(l:aC):∀x∈ZbU K l,x∈l:=by
 have:∀n,n<=l.length->∀x∈ZbU K (l.take n),x∈l.take n:=by
  intro n;induction n with
  |zero=>intro _;simp[ZbU]
  |succ n ih=>
   intro h;rw[List.take_succ_eq_append_getElem (show n<l.length by omega),ZhZ];intro x hx;rcases Zvo _ _ _ (Nat.le_refl _) x hx with q|q
   .exact List.mem_append.2 (.inl (ih (by omega) x q))
   .exact List.mem_append.2 (.inr q)
 have h:=this l.length (Nat.le_refl _);rwa [List.take_length]at h
theorem ZHl{K K':Cx}(f:Int->Int)(C:aC)(b:∀x∈C,∀y∈C,ltJ K' (f y) (f x)=ltJ K y x):ZbU K' (C.map f)=(ZbU K C).map f:=by
 have:∀n,n<=C.length->ZbU K' ((C.take n).map f)=(ZbU K (C.take n)).map f:=by
  intro n;induction n with
  |zero=>intro _;simp[ZbU]
  |succ n ih=>
   intro h;rw[List.take_succ_eq_append_getElem (show n<C.length by omega),ZhZ,List.map_append,List.map_singleton,ZhZ,ih (by omega)];have:=ZKS (K:=K) (K':=K') f _ (ZbU K (C.take n)) [C[n]] (Nat.le_refl _) fun x hx y d=>b x (List.mem_of_mem_take (ZAF _ x hx)) y (by rw[List.mem_singleton.1 d];exact List.getElem_mem _);simpa using this
 have h:=this C.length (Nat.le_refl _);rwa [List.take_length]at h
def gP(l:List Zaa)(i:Int):Zaa:=l.getD i.toNat Zaa.d
def okPs(l:List Zaa):Prop:=∀p∈l,p.fEnd.fAddr.ok
def cntB(b:Int)(p:Zaa):Bool:=if b=1 then true else if b=4 then true else if b=2 then decide (p.fPing>0)else if b=3 then decide (p.fWork>0)else false
def upto(n:Nat):aC:=(List.range n).map fun(i:Nat)=>(i:Int)
def Zhk(l:List Zaa)(b:Int)(at_:aC):aC:=at_.filter fun i=>cntB b (gP l i)
def inL(l:List Zaa)(at_:aC):Prop:=∀i∈at_,0<=i/\i<((l.length:Nat):Int)
theorem ZCd(p:Zaa)(b:Int):Zla p b=some (cntB b p):=by
 unfold Zla ZiS cntB;simp only[Zhe];by_cases d:b=1
 .subst d;simp
 .by_cases e:b=4
  .subst e;simp
  .have h:(b==(1:Int))=false:=beq_false_of_ne d;have i:(b==(4:Int))=false:=beq_false_of_ne e;simp only[if_neg d,if_neg e,h,i,cond_false];by_cases f:b=2
   .simp only[if_pos f]
   .by_cases g:b=3
    .simp only[if_neg f,if_pos g]
    .simp only[if_neg f,if_neg g]
theorem ZES(p:Zaa)(b:Int):ZfV p b=some (cntB b p):=by
 unfold ZfV cntB;simp only[Zhe];by_cases d:b=1
 .simp only[if_pos d]
 .by_cases e:b=4
  .simp only[if_neg d,if_pos e]
  .by_cases f:b=2
   .subst f;simp only[Zak];by_cases g:p.fPing>0
    .simp[g]
    .simp[g]
   .by_cases h:b=3
    .simp only[if_neg d,if_neg e,if_neg f,if_pos h]
    .simp only[if_neg d,if_neg e,if_neg f,if_neg h]
theorem ZsP(n:Nat):upto (n+1)=upto n++[(n:Int)]:=by simp[upto,List.range_succ]
theorem ZnS(n:Nat):(upto n).length=n:=by simp[upto]
theorem Zkn{n:Nat}{x:Int}:x∈upto n↔0<=x/\x<(n:Int):=by
 simp only[upto,List.mem_map,List.mem_range];constructor
 .rintro ⟨a,h,rfl⟩;omega
 .rintro ⟨b,d⟩;exact⟨x.toNat,by omega,by omega⟩
theorem ZoD(n:Nat):(upto n).Nodup:=by
 induction n with
 |zero=>simp[upto]
 |succ n ih=>
  rw[ZsP,List.nodup_append];refine⟨ih,by simp,fun a d b hb=>?_⟩;rw[List.mem_singleton.1 hb];have:=Zkn.1 d;omega
theorem ZEp(l:List Zaa)(b:Int)(X Y:aC):Zhk l b (X++Y)=Zhk l b X++Zhk l b Y:=List.filter_append ..
theorem Zvy(l:List Zaa)(b:Int)(X:aC):(Zhk l b X).length<=X.length:=List.length_filter_le ..
theorem rg_of{l:List Zaa}{b s:Int}{at_:aC}(ho:okPs l)(h:inL l at_):Rg ⟨l,b,s⟩ at_:=fun x hx=>by
 obtain⟨d,e⟩:=h x hx
 refine⟨⟨d,e⟩,?_⟩
 rw[Zcn l _ x.toNat (by omega)]
 exact ho _ (List.getElem_mem _)
theorem ZEG{S:aC}{m n:Int}(d:(S.length:Int)=m):S.take ((if m<(if(0:Int)>n then 0 else n)then m else(if(0:Int)>n then 0 else n)).toNat)=S.take n.toNat:=by
 by_cases h0:(0:Int)>n
 .rw[if_pos h0];rw[if_neg (by omega)];congr 1;omega
 .rw[if_neg h0];by_cases b:m<n
  .rw[if_pos b,List.take_of_length_le (by omega),List.take_of_length_le (by omega)]
  .rw[if_neg b]
theorem ZEV(l:List Zaa)(b n s:Int)(hl:l.length<=800)(ho:okPs l):ZeA l b n s=some ((ZbU ⟨l,b,s⟩ (Zhk l b (upto l.length))).take n.toNat):=by
 have aA:∀(k i fu:Nat),l.length-i=k->i<=l.length->k+1<=fu->ZeN n fu l (l.length:Int) (i:Int) (Zhk l b (upto i)) l b s=some ((ZbU ⟨l,b,s⟩ (Zhk l b (upto l.length))).take n.toNat):=by
  intro k;induction k with
  |zero=>
   intro i fu g h j;obtain⟨fu,rfl⟩ : ∃x,fu=x+1:=⟨fu-1,by omega⟩;obtain rfl:i=l.length:=by omega
   unfold ZeN;have f:=Zvy l b (upto l.length);rw[ZnS]at f;have hin:inL l (Zhk l b (upto l.length)):=fun x hx=>Zkn.1 (List.mem_filter.1 hx).1;have e:=ZAb (K:=⟨l,b,s⟩) (Zhk l b (upto l.length)) (by omega) (rg_of ho hin);dsimp only at e;have o:=Zhm (K:=⟨l,b,s⟩) (Zhk l b (upto l.length));rw[Zak,if_neg (by omega),e,ZaF,Zar (by refine⟨by omega,?_,?_⟩<;>(repeat' split)<;>omega),Zar (by (repeat' split)<;>omega),ZEG (by rw[o])]
  |succ k ih=>
   intro i fu g h j;obtain⟨fu,rfl⟩ : ∃x,fu=x+1:=⟨fu-1,by omega⟩;unfold ZeN;have f:=Zvy l b (upto i);rw[ZnS]at f;have p:Zaq (i:Int) 1=((i+1:Nat):Int):=add1 (n:=i+1) (by omega) (by simp only[maxLen];omega);rw[Zak,if_pos (by omega),Zar (by omega),ZCd,ZaF,p];have bo:=ih (i+1) fu (by omega) (by omega) (by omega);rw[ZsP,ZEp]at bo;cases hb:cntB b (l.getD ((i:Int)).toNat Zaa.d)with
   |true=>
    have:Zhk l b [(i:Int)]=[(i:Int)]:=by simp only[Zhk,gP,List.filter_cons,hb,if_true,List.filter_nil]
    rw[this]at bo;rw[cond_true,Zar (by simp only[List.length_append,List.length_singleton,maxLen];omega)];exact bo
   |false=>
    have:Zhk l b [(i:Int)]=[]:=by simp only[Zhk,gP,List.filter_cons,hb,Bool.false_eq_true,if_false,List.filter_nil]
    rw[this,List.append_nil]at bo;rw[cond_false];exact bo
 have:=aA l.length 0 _ (by omega) (by omega) (Nat.le_refl _);unfold ZeA;exact aA l.length 0 _ (by omega) (by omega) (by omega)
theorem ZBU(l:List Zaa)(at_:aC)(hl:at_.length<=800)(b:inL l at_):ZdR l at_=some (at_.map (gP l)):=by
 have aA:∀(k i fu:Nat),at_.length-i=k->i<=at_.length->k+1<=fu->Zfi l fu at_ (at_.length:Int) (i:Int) ((at_.take i).map (gP l))=some (at_.map (gP l)):=by
  intro k;induction k with
  |zero=>
   intro i fu d e f;obtain⟨fu,rfl⟩ : ∃x,fu=x+1:=⟨fu-1,by omega⟩;unfold Zfi;rw[Zak,if_neg (by omega),List.take_of_length_le (by omega)]
  |succ k ih=>
   intro i fu d e f;obtain⟨fu,rfl⟩ : ∃x,fu=x+1:=⟨fu-1,by omega⟩;unfold Zfi;have g:Zaq (i:Int) 1=((i+1:Nat):Int):=add1 (n:=i+1) (by omega) (by simp only[maxLen];omega);have bt:i<at_.length:=by omega
   have h:=b _ (List.getElem_mem bt);have j:at_.getD ((i:Int)).toNat 0=at_[i]:=Zcn at_ 0 i bt;have hlt:((at_.take i).map (gP l)).length=i:=by simp;omega
   rw[Zak,if_pos (by omega),Zar (by omega),j,Zar h,Zar (by simp only[List.length_append,hlt,List.length_singleton,maxLen];omega),g];have:=ih (i+1) fu (by omega) (by omega) (by omega);rw[List.take_succ_eq_append_getElem bt,List.map_append,List.map_singleton]at this;exact this
 unfold ZdR;rw[Zar (by omega)];exact aA at_.length 0 _ (by omega) (by omega) (by omega)
def Zxn(at_ a7:aC)(i:Nat):aC:=((List.range i).filter fun(j:Nat)=>!decide ((j:Int)∈a7)).map fun(j:Nat)=>at_.getD j 0
theorem ZBW(at_ a7:aC)(hl:at_.length<=800)(u:a7.length<=800)(p:∀k∈a7,0<=k/\k<((at_.length:Nat):Int)):ZeM at_ a7=some (Zxn at_ a7 at_.length):=by
 have fJ:∀(a b:Int)(v w:aC)(kk:aC->Int->Int->aC->List Bool->Option aC)(fl:List Bool),fl.length=at_.length->(∀i,i<at_.length->fl.getD i false=decide ((i:Int)∈a7))->∀(k i fu:Nat),at_.length-i=k->i<=at_.length->k+1<=fu ->
   Zeu at_ v a b w kk fu at_ (at_.length:Int) (i:Int) (Zxn at_ a7 i) fl=some (Zxn at_ a7 at_.length):=by
  intro a b v w kk fl fS c5 k;induction k with
  |zero=>
   intro i fu d e f;obtain⟨fu,rfl⟩ : ∃x,fu=x+1:=⟨fu-1,by omega⟩;obtain rfl:i=at_.length:=by omega
   unfold Zeu;rw[Zak,if_neg (by omega)]
  |succ k ih=>
   intro i fu d e f;obtain⟨fu,rfl⟩ : ∃x,fu=x+1:=⟨fu-1,by omega⟩;unfold Zeu;have g:Zaq (i:Int) 1=((i+1:Nat):Int):=add1 (n:=i+1) (by omega) (by simp only[maxLen];omega);have hk2:(Zxn at_ a7 i).length<=i:=by
    unfold Zxn;rw[List.length_map];have:=List.length_filter_le (fun j:Nat=>!decide ((j:Int)∈a7)) (List.range i);rw[List.length_range]at this;exact this
   have bo:=ih (i+1) fu (by omega) (by omega) (by omega);have hfi:fl.getD ((i:Int)).toNat false=decide ((i:Int)∈a7):=c5 i (by omega);rw[Zak,if_pos (by omega),Zar (by omega),Zar (by rw[fS];omega),hfi,g];have r:Zxn at_ a7 (i+1)=Zxn at_ a7 i++(if(i:Int)∈a7 then[]else[at_.getD i 0]):=by
    unfold Zxn;rw[List.range_succ,List.filter_append,List.map_append];congr 1;by_cases h:(i:Int)∈a7<;>simp[h]
   rw[r]at bo;by_cases h:(i:Int)∈a7
   .rw[if_pos h,List.append_nil]at bo;rw[decide_eq_true h,Bool.not_true,cond_false];exact bo
   .rw[if_neg h]at bo;rw[decide_eq_false h,Bool.not_false,cond_true,Zar (by simp only[List.length_append,List.length_singleton,maxLen];omega)];exact bo
 have fK:∀(k i fu:Nat)(fl:List Bool),a7.length-i=k->i<=a7.length->k+1<=fu->fl.length=at_.length->(∀j,j<at_.length->fl.getD j false=decide ((j:Int)∈a7.take i)) ->
   ZdK at_ fu a7 (a7.length:Int) (i:Int) [] fl=some (Zxn at_ a7 at_.length):=by
  intro k;induction k with
  |zero=>
   intro i fu fl d e f fS c5;obtain⟨fu,rfl⟩ : ∃x,fu=x+1:=⟨fu-1,by omega⟩;unfold ZdK;rw[Zak,if_neg (by omega)];rw[List.take_of_length_le (by omega)]at c5;exact fJ _ _ _ _ _ fl fS c5 at_.length 0 _ (by omega) (by omega) (by omega)
  |succ k ih=>
   intro i fu fl d e f fS c5;obtain⟨fu,rfl⟩ : ∃x,fu=x+1:=⟨fu-1,by omega⟩;unfold ZdK;have g:Zaq (i:Int) 1=((i+1:Nat):Int):=add1 (n:=i+1) (by omega) (by simp only[maxLen];omega);have bt:i<a7.length:=by omega
   have t:=p _ (List.getElem_mem bt);have cd:a7.getD ((i:Int)).toNat 0=a7[i]:=Zcn a7 0 i bt;rw[Zak,if_pos (by omega),Zar (by omega),cd,Zar (by rw[fS];exact t),g];refine ih (i+1) fu _ (by omega) (by omega) (by omega) (by simpa using fS) fun j o=>?_;rw[List.take_succ_eq_append_getElem bt];have hx:=c5 j o;simp only[List.getD_eq_getElem?_getD]at hx ⊢;rw[List.getElem?_set];by_cases hj2:a7[i].toNat=j
   .have:(j:Int)=a7[i]:=by omega
    rw[if_pos hj2,if_pos (by omega),this];exact(decide_eq_true (List.mem_append.2 (.inr (by simp)))).symm
   .have:¬(j:Int)=a7[i]:=by omega
    rw[if_neg hj2,hx,decide_eq_decide,List.mem_append];constructor
    .exact .inl
    .rintro (h|h)
     .exact h
     .exact absurd (List.mem_singleton.1 h) this
 unfold ZeM;rw[Zar (by omega),Zar (by omega)];refine fK a7.length 0 _ _ (by omega) (by omega) (by omega) (by simp) fun j o=>?_;simp[List.getD_eq_getElem?_getD,o]
def ZoE(l:List Zaa)(s b n:Int)(at_:aC):aC:=at_.filter fun i=>!decide (i∈(ZbU ⟨l,b,s⟩ (Zhk l b at_)).take n.toNat)
theorem Zoa{l:List Zaa}{s b n:Int}{at_:aC}(h:inL l at_):inL l (ZoE l s b n at_):=fun i d=>h i (List.mem_filter.1 d).1
theorem ZmT{l:List Zaa}{s b n:Int}{at_:aC}(h:at_.Nodup):(ZoE l s b n at_).Nodup:=h.sublist List.filter_sublist
theorem Zpt(l:List Zaa)(s b n:Int)(at_:aC):(ZoE l s b n at_).length<=at_.length:=List.length_filter_le ..
theorem ZCv{α β:Type}(f:α->β)(p:β->Bool)(q:α->Bool)(l:List α)(h:∀x∈l,p (f x)=q x):(l.map f).filter p=(l.filter q).map f:=by
 rw[List.filter_map];congr 1;exact List.filter_congr h
theorem ZyA(l:List Zaa)(at_:aC)(b n s:Int)(hl:at_.length<=800)(ho:okPs l)(u:inL l at_)(A:at_.Nodup) :
  ((ZdR l at_).bind fun x=>(ZeA x b n s).bind fun y=>ZeM at_ y)=some (ZoE l s b n at_):=by
 rw[ZBU l at_ hl u,ZaF];have bY:okPs (at_.map (gP l)):=fun p d=>by
  obtain⟨i,B,rfl⟩:=List.mem_map.1 d;have:=u i B;unfold gP;rw[Zcn l _ i.toNat (by omega)];exact ho _ (List.getElem_mem _)
 rw[ZEV _ b n s (by simpa using hl) bY,ZaF];obtain⟨f,r⟩ : ∃f:Int->Int,f=fun p=>at_.getD p.toNat 0:=⟨_,rfl⟩;have hfp:∀i:Nat,f (i:Int)=at_.getD i 0:=fun i=>by rw[r];rfl
 have hlen:(at_.map (gP l)).length=at_.length:=by simp
 rw[hlen];have t:∀p:Int,0<=p->p<(at_.length:Int)->gP (at_.map (gP l)) p=gP l (f p):=fun p o g=>by
  have d:p.toNat<at_.length:=by omega
  rw[r];simp only[gP];rw[Zcn _ _ p.toNat (by simpa using d),List.getElem_map,Zcn at_ 0 p.toNat d];rfl
 have hat:(upto at_.length).map f=at_:=by
  apply List.ext_getElem
  .simp[upto]
  .intro i o g;simp only[upto,List.map_map,List.getElem_map,List.getElem_range,Function.comp];rw[hfp,Zcn at_ 0 i g]
 have C:(Zhk (at_.map (gP l)) b (upto at_.length)).map f=Zhk l b at_:=by
  have:Zhk l b at_=((upto at_.length).map f).filter fun i=>cntB b (gP l i):=by rw[hat];rfl
  rw[this,ZCv f _ (fun p=>cntB b (gP (at_.map (gP l)) p))]
  .rfl
  .intro p d;obtain⟨o,g⟩:=Zkn.1 d;rw[t p o g]
 have v:ZbU ⟨l,b,s⟩ (Zhk l b at_)=(ZbU ⟨at_.map (gP l),b,s⟩ (Zhk (at_.map (gP l)) b (upto at_.length))).map f:=by
  rw[<-C];refine ZHl f _ fun x hx y D=>?_;obtain⟨x1,x2⟩:=Zkn.1 (List.mem_filter.1 hx).1;obtain⟨y1,y2⟩:=Zkn.1 (List.mem_filter.1 D).1;have e:cmpJ ⟨l,b,s⟩ (f y) (f x)=cmpJ ⟨at_.map (gP l),b,s⟩ y x:=by
   show Zrj b s (gP l (f y)) (gP l (f x))=Zrj b s (gP (at_.map (gP l)) y) (gP (at_.map (gP l)) x);rw[t y y1 y2,t x x1 x2]
  unfold ltJ;rw[e]
 obtain⟨S,l6⟩ : ∃S,S=ZbU ⟨at_.map (gP l),b,s⟩ (Zhk (at_.map (gP l)) b (upto at_.length)):=⟨_,rfl⟩;have hSm:∀x∈S,0<=x/\x<(at_.length:Int):=fun x hx=>by
  rw[l6]at hx;exact Zkn.1 (List.mem_filter.1 (ZAF _ x hx)).1
 have hSl:S.length<=at_.length:=by
  rw[l6,Zhm];have:=Zvy (at_.map (gP l)) b (upto at_.length);rw[ZnS]at this;exact this
 rw[<-l6]at v ⊢;rw[ZBW at_ _ hl (by simp only[List.length_take];omega) fun k E=>hSm k (List.mem_of_mem_take E)];have io:∀x y:Int,0<=x->x<(at_.length:Int)->0<=y->y<(at_.length:Int)->f x=f y->x=y:=fun x y x1 x2 y1 y2 h=>by
  rw[r]at h;simp only at h;rw[Zcn at_ 0 x.toNat (by omega),Zcn at_ 0 y.toNat (by omega)]at h;have:=ZrA A (i:=x.toNat) (j:=y.toNat) (a:=at_[y.toNat]'(by omega)) (by rw[<-h];simp) (by simp);omega
 congr 1;unfold ZoE;rw[v,<-List.map_take];have F:∀p:Int->Bool,at_.filter p=((upto at_.length).map f).filter p:=fun p=>by rw[hat]
 rw[F,ZCv f _ (fun p=>!decide (p∈S.take n.toNat))]
 .unfold Zxn upto;rw[ZCv (fun(i:Nat)=>(i:Int)) _ (fun j=>!decide ((j:Int)∈S.take n.toNat)) _ (fun _ _=>rfl),List.map_map];exact List.map_congr_left fun j _=>(hfp j).symm
 .intro p d;obtain⟨o,g⟩:=Zkn.1 d;congr 1;rw[decide_eq_decide];constructor
  .intro h;obtain⟨q,z,e⟩:=List.mem_map.1 h;obtain⟨G,H⟩:=hSm q (List.mem_of_mem_take z);rw[<-io q p G H o g e];exact z
  .intro h;exact List.mem_map.2 ⟨p,h,rfl⟩
def Zzh(l:List Zaa)(q:ZaA)(s:Int):aC:=ZoE l s 4 q.fTime (ZoE l s 3 q.fWork (ZoE l s 2 q.fPing (ZoE l s 1 q.fGroup (upto l.length))))
theorem ZBV(l:List Zaa)(q:ZaA)(s:Int)(hl:l.length<=800)(ho:okPs l):ZjM l q s=some (Zzh l q s):=by
 have fJ:∀(a b:Int)(w:aC)(q':ZaA)(kk:Int->Int->aC->ZaA->Option aC)(fu:Nat),Zck l s a b w q' kk (fu+5) (⟨1,q.fGroup⟩,⟨2,q.fPing⟩,⟨3,q.fWork⟩,⟨4,q.fTime⟩) 0 (upto l.length)=some (Zzh l q s):=by
  intro a b w q' kk fu;have h0:inL l (upto l.length):=fun i j=>Zkn.1 j;have t1:=ZyA l (upto l.length) 1 q.fGroup s (by rw[ZnS];exact hl) ho h0 (ZoD _);have l1:=Zpt l s 1 q.fGroup (upto l.length);rw[ZnS]at l1;have t2:=ZyA l _ 2 q.fPing s (by omega) ho (Zoa (s:=s) (b:=1) (n:=q.fGroup) h0) (ZmT (ZoD _));have l2:=Zpt l s 2 q.fPing (ZoE l s 1 q.fGroup (upto l.length));have t3:=ZyA l _ 3 q.fWork s (by omega) ho (Zoa (s:=s) (b:=2) (n:=q.fPing) (Zoa (s:=s) (b:=1) (n:=q.fGroup) h0)) (ZmT (ZmT (ZoD _)));have l3:=Zpt l s 3 q.fWork (ZoE l s 2 q.fPing (ZoE l s 1 q.fGroup (upto l.length)));have t4:=ZyA l _ 4 q.fTime s (by omega) ho (Zoa (s:=s) (b:=3) (n:=q.fWork) (Zoa (s:=s) (b:=2) (n:=q.fPing) (Zoa (s:=s) (b:=1) (n:=q.fGroup) h0))) (ZmT (ZmT (ZmT (ZoD _))));have bd:∀{α β γ δ:Type}(r:Option α)(g:α->Option β)(h:β->Option γ)(k:γ->Option δ)(z:γ),(r.bind fun x=>(g x).bind fun y=>h y)=some z->(r.bind fun x=>(g x).bind fun y=>(h y).bind k)=k z:=by
   intro α β γ δ r g h k z e;cases r with
   |none=>cases e
   |some x=>
    simp only[Option.bind_some]at e ⊢;cases d:g x with
    |none=>rw[d]at e;cases e
    |some y=>rw[d]at e;simp only[Option.bind_some]at e ⊢;rw[e];rfl
  have kG:∀{δ:Type}(X:aC)(b n:Int)(k:aC->Option δ)(z:aC),((ZdR l X).bind fun x=>(ZeA x b n s).bind fun y=>ZeM X y)=some z->((ZdR l X).bind fun x=>(ZeA x b n s).bind fun y=>(ZeM X y).bind k)=k z:=by
   intro δ X b n k z e;cases o:ZdR l X with
   |none=>rw[o]at e;cases e
   |some x=>
    rw[o]at e;simp only[Option.bind_some]at e ⊢;cases d:ZeA x b n s with
    |none=>rw[d]at e;cases e
    |some y=>rw[d]at e;simp only[Option.bind_some]at e ⊢;rw[e];rfl
  have t:Zaq (0:Int) 1=1:=rfl;have u:Zaq (1:Int) 1=2:=rfl;have v:Zaq (2:Int) 1=3:=rfl;have A:Zaq (3:Int) 1=4:=rfl;unfold Zck;rw[Zak,if_pos (by omega),Zar (by omega)];simp only[ix1,if_true,t];rw[kG _ _ _ _ _ t1];unfold Zck;rw[Zak,if_pos (by omega),Zar (by omega)];simp only[ix1,if_true,u,show ¬((1:Int)=0)by omega,if_false];rw[kG _ _ _ _ _ t2];unfold Zck;rw[Zak,if_pos (by omega),Zar (by omega)];simp only[ix1,if_true,v,show ¬((2:Int)=0)by omega,show ¬((2:Int)=1)by omega,if_false];rw[kG _ _ _ _ _ t3];unfold Zck;rw[Zak,if_pos (by omega),Zar (by omega)];simp only[ix1,if_true,A,show ¬((3:Int)=0)by omega,show ¬((3:Int)=1)by omega,show ¬((3:Int)=2)by omega,if_false];rw[kG _ _ _ _ _ t4];unfold Zck;rw[Zak,if_neg (by omega)];rfl
 have fK:∀(k i fu:Nat)(w:aC),l.length-i=k->i<=l.length->k+1<=fu->w.length=l.length->w.take i=upto i->ZdL l s fu (l.length:Int) (i:Int) w q=some (Zzh l q s):=by
  intro k;induction k with
  |zero=>
   intro i fu w B j C p f;obtain⟨fu,rfl⟩ : ∃x,fu=x+1:=⟨fu-1,by omega⟩;obtain rfl:i=l.length:=by omega
   rw[List.take_of_length_le (by omega)]at f;unfold ZdL;have e:ZlW q=some (⟨1,q.fGroup⟩,⟨2,q.fPing⟩,⟨3,q.fWork⟩,⟨4,q.fTime⟩):=rfl;rw[Zak,if_neg (by omega),e,ZaF,f];exact fJ _ _ _ _ _ 1
  |succ k ih=>
   intro i fu w B j C p f;obtain⟨fu,rfl⟩ : ∃x,fu=x+1:=⟨fu-1,by omega⟩;unfold ZdL;have D:Zaq (i:Int) 1=((i+1:Nat):Int):=add1 (n:=i+1) (by omega) (by simp only[maxLen];omega);rw[Zak,if_pos (by omega),Zar (by omega),D];refine ih (i+1) fu _ (by omega) (by omega) (by omega) (by simpa using p) ?_;rw[ZsP,<-f];simp only[Int.toNat_natCast];rw[List.take_succ_eq_append_getElem (by simp;omega),List.take_set_of_le (Nat.le_refl _)];simp
 unfold ZjM;rw[Zar (by omega)];simp only[Int.toNat_natCast];exact fK l.length 0 _ _ (by omega) (by omega) (by omega) (by simp) (by simp[upto])
theorem ZKJ(p:Zaa)(s:Int):ZeT s (grp p.fEnd.fAddr)=some (keyZ s p):=by
 obtain⟨m,b,d,_⟩:=ZHc s (grp p.fEnd.fAddr);unfold keyZ;rw[b,d];rfl
theorem ZJW(a b:Int)(p q:Zaa):ZcH a b p q=some (decide (a<b\/(a=b/\cmpE p.fEnd q.fEnd<0))):=by
 unfold ZcH;rw[ZsW,ZaF];by_cases h:a=b
 .subst h;have e:(a != a)=false:=by simp
  rw[e,cond_false];congr 1;rw[decide_eq_decide];constructor
  .intro h;exact .inr ⟨rfl,h⟩
  .rintro (h|⟨_,h⟩)
   .omega
   .exact h
 .have e:(a != b)=true:=by rw[bne_iff_ne];exact h
  rw[e,cond_true];congr 1;rw[decide_eq_decide];constructor
  .intro h;exact .inl h
  .rintro (d|⟨d,_⟩)
   .exact d
   .exact absurd d h
theorem ZGJ(p q:Zaa)(b s:Int)(j:p.fEnd.fAddr.ok)(n:q.fEnd.fAddr.ok)(hb:1<=b/\b<=4):Zgy p q b s=some (decide (Zrj b s p q<0)):=by
 have hd:decide (Zrj b s p q<0)=decide (kv b s p<kv b s q\/(kv b s p=kv b s q/\cmpE p.fEnd q.fEnd<0)):=by rw[decide_eq_decide];exact Zvt
 rw[hd];unfold Zgy;simp only[ZDu _ j,ZDu _ n,ZaF,ZKJ,ZJW,Zhe];by_cases i:b=1
 .subst i;simp only[if_true,kv];by_cases h:keyZ s p=keyZ s q
  .have e:(keyZ s p != keyZ s q)=false:=by rw[h];simp
   rw[e,cond_false];congr 1;rw[decide_eq_decide];constructor
   .rintro (d|⟨_,d⟩)
    .omega
    .exact .inr ⟨by omega,d⟩
   .rintro (d|⟨_,d⟩)
    .omega
    .exact .inr ⟨by trivial,d⟩
  .have e:(keyZ s p != keyZ s q)=true:=by rw[bne_iff_ne];exact h
   rw[e,cond_true];congr 1;rw[decide_eq_decide];constructor
   .intro d;left;omega
   .rintro (d|⟨d,_⟩)<;>omega
 .by_cases d:b=2
  .subst d;simp[kv]
  .by_cases o:b=3
   .subst o;simp only[kv,if_neg i,if_neg d,if_true];congr 1;rw[decide_eq_decide];constructor
    .rintro (f|⟨f,g⟩)
     .left;omega
     .right;exact⟨by omega,g⟩
    .rintro (f|⟨f,g⟩)
     .left;omega
     .right;exact⟨by omega,g⟩
   .obtain rfl:b=4:=by omega
    simp[kv]
def unJ(w:List Bool)(i:Nat):aC:=(upto i).filter fun j=>!(w.getD j.toNat false)
def ZtQ(K:Cx):aC->Int | []=>-1|b :: r=>bstJ K b r
theorem ZIz{K:Cx}(C:aC)(y:Int):ZtQ K (C++[y])=if C=[]then y else if ltJ K y (ZtQ K C)=true then y else ZtQ K C:=by
 cases C with
 |nil=>simp[ZtQ,bstJ]
 |cons b r=>
  rw[if_neg (by simp)];exact ZzE y r b
theorem Zxb{K:Cx}{C:aC}(h:C≠[]):ZtQ K C∈C:=by
 cases C with
 |nil=>exact absurd rfl h
 |cons b r=>exact ZzD r b
theorem ZDi(w:List Bool)(i:Nat):unJ w (i+1)=unJ w i++if w.getD i false=true then[]else[(i:Int)]:=by
 unfold unJ;rw[ZsP,List.filter_append];congr 1;cases h:w.getD i false with
 |false=>simp only[List.filter_cons,Int.toNat_natCast,h,Bool.not_false,if_true,List.filter_nil,Bool.false_eq_true,if_false]
 |true=>simp only[List.filter_cons,Int.toNat_natCast,h,Bool.not_true,Bool.false_eq_true,if_false,List.filter_nil,if_true]
theorem ZBL{w:List Bool}{i:Nat}{x:Int}(h:x∈unJ w i):0<=x/\x<(i:Int)/\w.getD x.toNat false=false:=by
 obtain⟨b,d⟩:=List.mem_filter.1 h;have:=Zkn.1 b;exact⟨this.1,this.2,by simpa using d⟩
theorem ZGd(w:List Bool)(i:Nat):(unJ w i).Nodup:=(ZoD i).sublist List.filter_sublist
theorem ZKt(w:List Bool)(n:Nat)(m:Int)(h0:0<=m)(b:m<(w.length:Int)):unJ (w.set m.toNat true) n=(unJ w n).filter fun x=>x != m:=by
 unfold unJ;rw[List.filter_filter];refine List.filter_congr fun x hx=>?_;obtain⟨x1,x2⟩:=Zkn.1 hx;simp only[List.getD_eq_getElem?_getD,List.getElem?_set];by_cases h:m=x
 .subst h;rw[if_pos rfl,if_pos (by omega)];simp
 .rw[if_neg (by omega)];have:(x != m)=true:=by rw[bne_iff_ne];omega
  rw[this,Bool.true_and]
theorem ZDb(l:List Zaa)(b:Int)(X:aC)(p:Int->Bool):Zhk l b (X.filter p)=(Zhk l b X).filter p:=by
 unfold Zhk;rw[List.filter_filter,List.filter_filter];exact List.filter_congr fun y _=>Bool.and_comm _ _
section
variable {l:List Zaa} (hl:l.length<=800) (ho:okPs l) {s:Int} {q:ZaA}
include hl ho
theorem ZIT(b:Int)(hb:1<=b/\b<=4)(v9:Int)(p:Int->List Bool->ZaA->Option (List Bool))(g:Int->List Bool->Option (List Bool))(w:List Bool)(j:w.length=l.length):∀(k i fu:Nat),l.length-i=k->i<=l.length->k+1<=fu ->
  Zbr l s b q v9 p g fu (ZtQ ⟨l,b,s⟩ (Zhk l b (unJ w i))) (i:Int) w=if Zhk l b (unJ w l.length)=[]then g (Zaq v9 1) w else g (Zaq v9 1) (w.set (ZtQ ⟨l,b,s⟩ (Zhk l b (unJ w l.length))).toNat true):=by
 intro k;induction k with
 |zero=>
  intro i fu r t u;obtain⟨fu,rfl⟩ : ∃x,fu=x+1:=⟨fu-1,by omega⟩;obtain rfl:i=l.length:=by omega
  unfold Zbr;rw[Zak,if_neg (by omega),Zak];by_cases f:Zhk l b (unJ w l.length)=[]
  .rw[if_pos f,f];rw[if_neg (by simp[ZtQ])]
  .have h:=Zxb (K:=⟨l,b,s⟩) f;obtain⟨m1,m2,_⟩:=ZBL (List.mem_filter.1 h).1;rw[if_neg f,if_pos (by omega),Zar (by rw[j];omega)]
 |succ k ih=>
  intro i fu r t u;obtain⟨fu,rfl⟩ : ∃x,fu=x+1:=⟨fu-1,by omega⟩;have v:Zaq (i:Int) 1=((i+1:Nat):Int):=add1 (n:=i+1) (by omega) (by simp only[maxLen];omega);have bo:=ih (i+1) fu (by omega) (by omega) (by omega);rw[ZDi,ZEp]at bo;unfold Zbr;rw[Zak,if_pos (by omega),Zar (by rw[j];omega),v];simp only[Int.toNat_natCast];cases hwi:w.getD i false with
  |true=>
   rw[hwi,if_pos rfl]at bo;have:Zhk l b []=[]:=rfl;rw[this,List.append_nil]at bo;rw[Bool.not_true,cond_false];exact bo
  |false=>
   rw[hwi,if_neg (by decide)]at bo;rw[Bool.not_false,cond_true,Zar (by omega),ZES,ZaF];cases o:cntB b (l.getD i Zaa.d)with
   |false=>
    have:Zhk l b [(i:Int)]=[]:=by simp only[Zhk,gP,Int.toNat_natCast,List.filter_cons,o,Bool.false_eq_true,if_false,List.filter_nil]
    rw[this,List.append_nil]at bo;rw[cond_false];exact bo
   |true=>
    have:Zhk l b [(i:Int)]=[(i:Int)]:=by simp only[Zhk,gP,Int.toNat_natCast,List.filter_cons,o,if_true,List.filter_nil]
    rw[this,ZIz]at bo;rw[cond_true,Zak];by_cases f:Zhk l b (unJ w i)=[]
    .rw[if_pos f]at bo;rw[f,if_pos (by simp[ZtQ])];exact bo
    .have h:=Zxb (K:=⟨l,b,s⟩) f;obtain⟨m1,m2,_⟩:=ZBL (List.mem_filter.1 h).1;rw[if_neg f]at bo;rw[if_neg (by omega),Zar (by omega),ZGJ _ _ _ _ (by rw[Zcn l _ i (by omega)];exact ho _ (List.getElem_mem _)) (by rw[Zcn l _ _ (by omega)];exact ho _ (List.getElem_mem _)) hb,ZaF];have e:decide (Zrj b s (l.getD i Zaa.d) (l.getD (ZtQ ⟨l,b,s⟩ (Zhk l b (unJ w i))).toNat Zaa.d)<0)=ltJ ⟨l,b,s⟩ (i:Int) (ZtQ ⟨l,b,s⟩ (Zhk l b (unJ w i))):=rfl;rw[e];cases hlt:ltJ ⟨l,b,s⟩ (i:Int) (ZtQ ⟨l,b,s⟩ (Zhk l b (unJ w i)))with
     |true=>rw[hlt,if_pos rfl]at bo;rw[cond_true];exact bo
     |false=>rw[hlt,if_neg (by decide)]at bo;rw[cond_false];exact bo
theorem ZIU(b n:Int)(hb:1<=b/\b<=4)(v:ZcS q b=some n)(d:Int->List Bool->ZaA->Option (List Bool)):∀(r v9 fu:Nat)(w:List Bool),(if n<(l.length:Int)then n.toNat else l.length)-v9=r->v9<=l.length->r+1<=fu->w.length=l.length ->
  ∃w',w'.length=l.length/\unJ w' l.length=(unJ w l.length).filter (fun i=>!decide (i∈selN ⟨l,b,s⟩ r (Zhk l b (unJ w l.length))))/\ZbA l s b q d fu (v9:Int) w=d (Zaq b 1) w' q:=by
 intro r;induction r with
 |zero=>
  intro v9 fu w g A B e;obtain⟨fu,rfl⟩ : ∃x,fu=x+1:=⟨fu-1,by omega⟩;refine⟨w,e,by simp only[selN];exact(List.filter_eq_self.2 fun x _=>by simp).symm,?_⟩;unfold ZbA;rw[v,ZaF,Zak,Zak];by_cases z:(v9:Int)<n
  .rw[if_pos z];by_cases j:(v9:Int)<(l.length:Int)
   .exfalso;split at g<;>omega
   .rw[if_neg j]
  .rw[if_neg z]
 |succ r ih=>
  intro v9 fu w g A B e;obtain⟨fu,rfl⟩ : ∃x,fu=x+1:=⟨fu-1,by omega⟩;have j:v9<l.length/\(v9:Int)<n:=by split at g<;>omega
  have C:Zaq (v9:Int) 1=((v9+1:Nat):Int):=add1 (n:=v9+1) (by omega) (by simp only[maxLen];omega);unfold ZbA;have hc2:=ZIT hl ho (s:=s) (q:=q) b hb (v9:Int) d (ZbA l s b q d fu) w e l.length 0 ((((l.length:Nat):Int)-(0:Int)).toNat+2) (by omega) (by omega) (by omega);have l7:Zbr l s b q (v9:Int) d (ZbA l s b q d fu) ((((l.length:Nat):Int)-(0:Int)).toNat+2) (-1) 0 w=_:=hc2;rw[v,ZaF,Zak,if_pos j.2,Zak,if_pos (by omega),l7,C];by_cases f:Zhk l b (unJ w l.length)=[]
  .rw[if_pos f];obtain⟨w',o,p,t⟩:=ih (v9+1) fu w (by omega) (by omega) (by omega) e;refine⟨w',o,?_,t⟩;rw[p,f];cases r<;>rfl
  .have D:=Zxb (K:=⟨l,b,s⟩) f;obtain⟨m1,m2,_⟩:=ZBL (List.mem_filter.1 D).1;rw[if_neg f];obtain⟨w',o,p,t⟩:=ih (v9+1) fu (w.set (ZtQ ⟨l,b,s⟩ (Zhk l b (unJ w l.length))).toNat true) (by omega) (by omega) (by omega) (by simpa using e);refine⟨w',o,?_,t⟩;rw[p,ZKt w _ _ m1 (by rw[e];exact m2)];cases hCC:Zhk l b (unJ w l.length)with
   |nil=>exact absurd hCC f
   |cons x X=>
    have bB:ZtQ ⟨l,b,s⟩ (x :: X)=bstJ ⟨l,b,s⟩ x X:=rfl;rw[ZDb,hCC,bB,List.filter_filter,selN];refine List.filter_congr fun y _=>?_;by_cases u:y=bstJ ⟨l,b,s⟩ x X
    .rw[u];simp
    .have:(y != bstJ ⟨l,b,s⟩ x X)=true:=by rw[bne_iff_ne];exact u
     rw[this,Bool.and_true];congr 1;rw[decide_eq_decide,List.mem_cons];constructor
     .exact .inr
     .rintro (h|h)
      .exact absurd h u
      .exact h
theorem Zrx(b n:Int)(hb:1<=b/\b<=4)(e:ZcS q b=some n)(d:Int->List Bool->ZaA->Option (List Bool))(w:List Bool)(f:w.length=l.length) :
  ∃w',w'.length=l.length/\unJ w' l.length=ZoE l s b n (unJ w l.length)/\ZbA l s b q d ((((l.length:Nat):Int)-(0:Int)).toNat+2) 0 w=d (Zaq b 1) w' q:=by
 obtain⟨w',g,i,o⟩:=ZIU hl ho (s:=s) b n hb e d _ 0 ((((l.length:Nat):Int)-(0:Int)).toNat+2) w rfl (by omega) (by split<;>omega) f;refine⟨w',g,?_,o⟩;have jt:(Zhk l b (unJ w l.length)).Nodup:=(ZGd w _).sublist List.filter_sublist;have hlen:(ZbU ⟨l,b,s⟩ (Zhk l b (unJ w l.length))).length<=l.length:=by
  rw[Zhm];have p:=Zvy l b (unJ w l.length);have r:(unJ w l.length).length<=l.length:=by
   have:=List.length_filter_le (fun j:Int=>!(w.getD j.toNat false)) (upto l.length);rw[ZnS]at this;exact this
  omega
 rw[i,ZDo _ _ jt];unfold ZoE;have:(ZbU ⟨l,b,s⟩ (Zhk l b (unJ w l.length))).take ((if n<(l.length:Int)then n.toNat else l.length)-0)=(ZbU ⟨l,b,s⟩ (Zhk l b (unJ w l.length))).take n.toNat:=by
  by_cases h:n<(l.length:Int)
  .rw[if_pos h];rfl
  .rw[if_neg h,List.take_of_length_le (by omega),List.take_of_length_le (by omega)]
 rw[this]
theorem ZGD:∃w,Zfc l q s=some w/\w.length=l.length/\unJ w l.length=Zzh l q s:=by
 have b:ZcS q 1=some q.fGroup:=rfl;have d:ZcS q 2=some q.fPing:=rfl;have e:ZcS q 3=some q.fWork:=rfl;have g:ZcS q 4=some q.fTime:=rfl;have w0:(List.replicate ((l.length:Nat):Int).toNat false).length=l.length:=by simp
 have u0:unJ (List.replicate ((l.length:Nat):Int).toNat false) l.length=upto l.length:=by
  unfold unJ;refine List.filter_eq_self.2 fun x hx=>?_;obtain⟨x1,x2⟩:=Zkn.1 hx;have:x.toNat<l.length:=by omega
  simp[List.getD_eq_getElem?_getD,this]
 obtain⟨w1,h,b1,i⟩:=Zrx hl ho (s:=s) 1 _ (by omega) b (ZaQ l s 4) _ w0;obtain⟨w2,j,b2,n⟩:=Zrx hl ho (s:=s) 2 _ (by omega) d (ZaQ l s 3) w1 h;obtain⟨w3,o,b3,p⟩:=Zrx hl ho (s:=s) 3 _ (by omega) e (ZaQ l s 2) w2 j;obtain⟨w4,r,b4,t⟩:=Zrx hl ho (s:=s) 4 _ (by omega) g (ZaQ l s 1) w3 o;refine⟨w4,?_,r,by rw[b4,b3,b2,b1,u0];rfl⟩;have d1:ZaQ l s 5 1 (List.replicate ((l.length:Nat):Int).toNat false) q=ZaQ l s 4 2 w1 q:=i;have d2:ZaQ l s 4 2 w1 q=ZaQ l s 3 3 w2 q:=n;have d3:ZaQ l s 3 3 w2 q=ZaQ l s 2 4 w3 q:=p;have d4:ZaQ l s 2 4 w3 q=ZaQ l s 1 5 w4 q:=t;unfold Zfc;rw[Zar (by omega)];have f:(((4:Int)-(1:Int)).toNat+2)=5:=rfl;rw[f,d1,d2,d3,d4];rfl
end
def Zkm(l:List Zaa):List Zaa:=l.filter fun p=>p.fIn
def Zsi(l:List Zaa)(q:ZaA)(s:Int):List Zaa:=(Zzh (Zkm l) q s).map (gP (Zkm l))
theorem ZBv(l:List Zaa)(i:Nat)(h:i<l.length):Zkm (l.take (i+1))=Zkm (l.take i)++if l[i].fIn=true then[l[i]]else[]:=by
 unfold Zkm;rw[List.take_succ_eq_append_getElem h,List.filter_append];congr 1;cases h:l[i].fIn<;>simp[h]
theorem ZwV(l:List Zaa):(Zkm l).length<=l.length:=List.length_filter_le ..
theorem ZFt(l:List Zaa)(hl:l.length<=100000):ZkD l=some (Zkm l):=by
 have aA:∀(k i fu:Nat),l.length-i=k->i<=l.length->k+1<=fu->ZeO fu l (l.length:Int) (i:Int) (Zkm (l.take i))=some (Zkm l):=by
  intro k;induction k with
  |zero=>
   intro i fu b e f;obtain⟨fu,rfl⟩ : ∃x,fu=x+1:=⟨fu-1,by omega⟩;unfold ZeO;rw[Zak,if_neg (by omega),List.take_of_length_le (by omega)]
  |succ k ih=>
   intro i fu b e f;obtain⟨fu,rfl⟩ : ∃x,fu=x+1:=⟨fu-1,by omega⟩;unfold ZeO;have bt:i<l.length:=by omega
   have g:Zaq (i:Int) 1=((i+1:Nat):Int):=add1 (n:=i+1) (by omega) (by simp only[maxLen];omega);have h:=ZwV (l.take i);simp only[List.length_take]at h;have bo:=ih (i+1) fu (by omega) (by omega) (by omega);rw[ZBv l i bt]at bo;have j:l.getD ((i:Int)).toNat Zaa.d=l[i]:=Zcn l _ i bt;rw[Zak,if_pos (by omega),Zar (by omega),j,g];cases hin:l[i].fIn with
   |true=>
    rw[hin,if_pos rfl]at bo;rw[cond_true,Zar (by simp only[List.length_append,List.length_singleton,maxLen];omega)];exact bo
   |false=>
    rw[hin,if_neg (by decide),List.append_nil]at bo;rw[cond_false];exact bo
 unfold ZkD;exact aA l.length 0 _ (by omega) (by omega) (by omega)
theorem ZJi(l:List Zaa)(hl:l.length<=100000):ZfD l=some (Zkm l):=by
 have aA:∀(k i fu:Nat),l.length-i=k->i<=l.length->k+1<=fu->Zcr l fu (i:Int) (Zkm (l.take i))=some (Zkm l):=by
  intro k;induction k with
  |zero=>
   intro i fu b e f;obtain⟨fu,rfl⟩ : ∃x,fu=x+1:=⟨fu-1,by omega⟩;unfold Zcr;rw[Zak,if_neg (by omega),List.take_of_length_le (by omega)]
  |succ k ih=>
   intro i fu b e f;obtain⟨fu,rfl⟩ : ∃x,fu=x+1:=⟨fu-1,by omega⟩;unfold Zcr;have bt:i<l.length:=by omega
   have g:Zaq (i:Int) 1=((i+1:Nat):Int):=add1 (n:=i+1) (by omega) (by simp only[maxLen];omega);have h:=ZwV (l.take i);simp only[List.length_take]at h;have bo:=ih (i+1) fu (by omega) (by omega) (by omega);rw[ZBv l i bt]at bo;have j:l.getD ((i:Int)).toNat Zaa.d=l[i]:=Zcn l _ i bt;rw[Zak,if_pos (by omega),Zar (by omega),j,g];cases hin:l[i].fIn with
   |true=>
    rw[hin,if_pos rfl]at bo;rw[cond_true,Zar (by simp only[List.length_append,List.length_singleton,maxLen];omega)];exact bo
   |false=>
    rw[hin,if_neg (by decide),List.append_nil]at bo;rw[cond_false];exact bo
 unfold ZfD;exact aA l.length 0 _ (by omega) (by omega) (by omega)
theorem ZHh(l:List Zaa)(q:ZaA)(s:Int):inL l (Zzh l q s):=Zoa (Zoa (Zoa (Zoa fun i b=>Zkn.1 b)))
theorem ZDO(l:List Zaa)(q:ZaA)(s:Int):(Zzh l q s).length<=l.length:=by
 have b:=Zpt l s 1 q.fGroup (upto l.length);have d:=Zpt l s 2 q.fPing (ZoE l s 1 q.fGroup (upto l.length));have e:=Zpt l s 3 q.fWork (ZoE l s 2 q.fPing (ZoE l s 1 q.fGroup (upto l.length)));have f:=Zpt l s 4 q.fTime (ZoE l s 3 q.fWork (ZoE l s 2 q.fPing (ZoE l s 1 q.fGroup (upto l.length))));rw[ZnS]at b;unfold Zzh;omega
theorem ZAx{l:List Zaa}(h:okPs l):okPs (Zkm l):=fun p b=>h p (List.mem_filter.1 b).1
theorem ZCw(l:List Zaa)(q:ZaA)(s:Int)(hl:l.length<=800)(ho:okPs l):Zgf l q s=some (Zsi l q s):=by
 have o:=ZwV l;have b:=ZHh (Zkm l) q s;have hle:=ZDO (Zkm l) q s;unfold Zgf Zsi;rw[ZFt l (by omega),ZaF,ZBV _ q s (by omega) (ZAx ho),ZaF];obtain⟨A,d⟩ : ∃A,A=Zzh (Zkm l) q s:=⟨_,rfl⟩;rw[<-d]at b hle ⊢;have aA:∀(k i fu:Nat),A.length-i=k->i<=A.length->k+1<=fu->ZcY fu (Zkm l) A (A.length:Int) (i:Int) ((A.take i).map (gP (Zkm l)))=some (A.map (gP (Zkm l))):=by
  intro k;induction k with
  |zero=>
   intro i fu e b f;obtain⟨fu,rfl⟩ : ∃x,fu=x+1:=⟨fu-1,by omega⟩;unfold ZcY;rw[Zak,if_neg (by omega),List.take_of_length_le (by omega)]
  |succ k ih=>
   intro i fu e cw f;obtain⟨fu,rfl⟩ : ∃x,fu=x+1:=⟨fu-1,by omega⟩;unfold ZcY;have bt:i<A.length:=by omega
   have g:Zaq (i:Int) 1=((i+1:Nat):Int):=add1 (n:=i+1) (by omega) (by simp only[maxLen];omega);have h:=b _ (List.getElem_mem bt);have j:A.getD ((i:Int)).toNat 0=A[i]:=Zcn A 0 i bt;have hlt:((A.take i).map (gP (Zkm l))).length=i:=by simp;omega
   rw[Zak,if_pos (by omega),Zar (by omega),j,Zar h,Zar (by simp only[List.length_append,hlt,List.length_singleton,maxLen];omega),g];have:=ih (i+1) fu (by omega) (by omega) (by omega);rw[List.take_succ_eq_append_getElem bt,List.map_append,List.map_singleton]at this;exact this
 exact aA A.length 0 _ (by omega) (by omega) (by omega)
theorem ZGH(l:List Zaa)(q:ZaA)(s:Int)(hl:l.length<=800)(ho:okPs l):Zdn l q s=some (Zsi l q s):=by
 have r:=ZwV l;unfold Zdn Zsi;obtain⟨w,d,e,f⟩:=ZGD (l:=Zkm l) (q:=q) (s:=s) (by omega) (ZAx ho);rw[ZJi l (by omega),ZaF,d,ZaF,<-f];have aA:∀(k i fu:Nat),(Zkm l).length-i=k->i<=(Zkm l).length->k+1<=fu->ZbG fu (Zkm l) w (i:Int) ((unJ w i).map (gP (Zkm l)))=some ((unJ w (Zkm l).length).map (gP (Zkm l))):=by
  intro k;induction k with
  |zero=>
   intro i fu g h o;obtain⟨fu,rfl⟩ : ∃x,fu=x+1:=⟨fu-1,by omega⟩;obtain rfl:i=(Zkm l).length:=by omega
   unfold ZbG;rw[Zak,if_neg (by omega)]
  |succ k ih=>
   intro i fu g h o;obtain⟨fu,rfl⟩ : ∃x,fu=x+1:=⟨fu-1,by omega⟩;unfold ZbG;have p:Zaq (i:Int) 1=((i+1:Nat):Int):=add1 (n:=i+1) (by omega) (by simp only[maxLen];omega);have t:(unJ w i).length<=i:=by
    have:=List.length_filter_le (fun j:Int=>!(w.getD j.toNat false)) (upto i);rw[ZnS]at this;exact this
   have bo:=ih (i+1) fu (by omega) (by omega) (by omega);rw[ZDi,List.map_append]at bo;rw[Zak,if_pos (by omega),Zar (by rw[e];omega),p];simp only[Int.toNat_natCast];cases b:w.getD i false with
   |true=>
    rw[b,if_pos rfl,List.map_nil,List.append_nil]at bo;rw[Bool.not_true,cond_false];exact bo
   |false=>
    rw[b,if_neg (by decide)]at bo;rw[Bool.not_false,cond_true,Zar (by omega),Zar (by simp only[List.length_append,List.length_map,List.length_singleton,maxLen];omega)];exact bo
 exact aA (Zkm l).length 0 _ (by omega) (by omega) (by omega)
end Go.Proofs.YtmnloegcpaahcaaGreat
