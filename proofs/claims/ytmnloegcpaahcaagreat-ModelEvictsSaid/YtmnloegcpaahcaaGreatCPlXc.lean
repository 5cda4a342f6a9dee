import Derived.Test.YtmnloegcpaahcaaGreatCPlEb
import Derived.Test.YtmnloegcpaahcaaGreatCMoeA4
import Derived.Test.YtmnloegcpaahcaaGreatCPlA
namespace Go.Proofs.YtmnloegcpaahcaaGreat
set_option linter.unusedSectionVars false
set_option linter.unusedSimpArgs false
set_option linter.unusedVariables false
def grp(a:Zaf):Zaj:=if Zdc a then(if a.fV6 then⟨⟨true,a.fHi-a.fHi % 4294967296,0⟩,32⟩else⟨⟨false,0,a.fLo-a.fLo % 65536⟩,16⟩)else⟨⟨false,0,0⟩,0⟩
theorem top16:ZfB 16=some 18446462598732840960:=by decide +kernel
theorem top32:ZfB 32=some 18446744069414584320:=by decide +kernel
theorem topm:ZfB (ZaJ 32 64)=some 0:=by decide +kernel
theorem ZDH(n k:Nat)(f:k<=64)(h:n<2 ^ 64):n &&& (2 ^ 64-2 ^ k)=n-n % 2 ^ k:=by
 have d:n-n % 2 ^ k=2 ^ k*(n / 2 ^ k):=by have:=Nat.div_add_mod n (2 ^ k);omega
 rw[d];apply Nat.eq_of_testBit_eq;intro i;have e:2 ^ 64-2 ^ k=2 ^ k*(2 ^ (64-k)-1):=by
  rw[Nat.mul_sub,<-Nat.pow_add,Nat.mul_one];congr 2;omega
 rw[Nat.testBit_and,e,Nat.testBit_two_pow_mul,Nat.testBit_two_pow_mul,Nat.testBit_two_pow_sub_one,Nat.testBit_div_two_pow];by_cases b:k<=i
 .by_cases g:i<64
  .simp[b,show i-k<64-k by omega,show i-k+k=i by omega]
  .have:n.testBit i=false:=Nat.testBit_lt_two_pow (Nat.lt_of_lt_of_le h (Nat.pow_le_pow_right (by omega) (by omega)));simp[b,this,show i-k+k=i by omega]
 .simp[b]
theorem ZLm(n:Nat)(h:n<4294967296):n &&& 4294901760=n-n % 65536:=by
 have b:=ZDH n 16 (by omega) (by omega);have d:n &&& 4294901760=n &&& (2 ^ 64-2 ^ 16):=by
  apply Nat.eq_of_testBit_eq;intro i;rw[Nat.testBit_and,Nat.testBit_and];by_cases e:i<32
  .congr 1;have:∀i:Fin 32,Nat.testBit 4294901760 i.val=Nat.testBit (2 ^ 64-2 ^ 16) i.val:=by decide
   exact this ⟨i,e⟩
  .have:n.testBit i=false:=Nat.testBit_lt_two_pow (Nat.lt_of_lt_of_le h (Nat.pow_le_pow_right (n:=2) (by omega) (show 32<=i by omega)));rw[this];rfl
 rw[d,b]
theorem ZyS(a b:Nat)(d:a<2 ^ 64)(hb:b<2 ^ 64):IntKind.u64.wrap (((BitVec.ofInt (IntKind.bits .u64) (a:Int)) &&& (BitVec.ofInt (IntKind.bits .u64) (b:Int))).toNat:Int)=((a &&& b:Nat):Int):=by
 rw[ZCr a b d hb];have:a &&& b<2 ^ 64:=Nat.and_lt_two_pow _ hb;exact ZhF (by omega) (by omega)
theorem Zpa(a:Zaf)(h:a.ok):Zgz a=some (grp a):=by
 have j:=Zki a h;obtain⟨v,t,lo⟩:=a;obtain⟨_,d,e,_⟩:=h;have d:=ZjB d;have e:=ZjB e;simp only at d e;obtain⟨n,o⟩:=ZjH d.1;obtain⟨m,p⟩:=ZjH e.1;subst o p;cases f:Zdc ⟨v,n,m⟩with
 |false=>
  cases v<;>simp[Zgz,Zkd,ZgR,j,f,grp]
 |true=>
  cases v with
  |false=>
   have r:(n:Int)=0/\(m:Int)<4294967296:=by simpa[Zdc]using f
   have g:(m &&& 4294901760:Nat)=m-m % 65536:=ZLm m (by omega);have b:=ZyS m 4294901760 (by omega) (by omega);rw[g]at b;have i:Int.fdiv (18446462598732840960:Int) (2 ^ (min (32:Int).toNat (IntKind.bits .u64)))=((4294901760:Nat):Int):=by decide +kernel
   simp only[Zgz,Zkd,ZgR,j,f,Option.bind_some,cond_false,Bool.not_true,Zeq,Ziv,Bool.not_false,cond_true,grp,if_true,Bool.false_eq_true,if_false];simp only[show (decide ((16:Int)<0))=false from rfl,show decide ((16:Int)>32)=false from rfl,cond_false,Option.bind_some];rw[show (if(32:Int)<(if(0:Int)>16 then(0:Int)else 16)then(32:Int)else(if(0:Int)>16 then(0:Int)else 16))=16 from rfl,top16];simp only[Option.bind_some,i,b,r.1];congr 4;omega
  |true=>
   have b:=ZyS n 18446744069414584320 (by omega) (by omega);have g:=ZDH n 32 (by omega) (by omega);rw[show (2:Nat) ^ 64-2 ^ 32=18446744069414584320 from rfl,show (2:Nat) ^ 32=4294967296 from rfl]at g;rw[g]at b;have i:=ZyS m 0 (by omega) (by omega);rw[Nat.and_zero]at i;simp only[Zgz,Zkd,ZgR,j,f,Option.bind_some,cond_false,Bool.not_true,Zeq,Ziv,Bool.not_false,cond_true,grp,if_true,Bool.false_eq_true,if_false];simp only[show (decide ((32:Int)<0))=false from rfl,show decide ((32:Int)>128)=false from rfl,cond_false,Option.bind_some];rw[show (if(128:Int)<(if(0:Int)>32 then(0:Int)else 32)then(128:Int)else(if(0:Int)>32 then(0:Int)else 32))=32 from rfl];simp only[ZkO,top32,topm,Option.bind_some];simp only[show ((18446744069414584320:Int))=((18446744069414584320:Nat):Int)from rfl,show (0:Int)=((0:Nat):Int)from rfl,b,i];congr 4;omega
theorem ZCH(a:Zaf)(h:a.ok):Zdg a=some (grp a):=by
 have e:=ZjG a h;obtain⟨v,f,lo⟩:=a;obtain⟨_,b,d,_⟩:=h;have b:=ZjB b;have d:=ZjB d;simp only at b d;have t1:Int.tmod f 4294967296=f % 4294967296:=Int.tmod_eq_emod_of_nonneg b.1;have t2:Int.tmod lo 65536=lo % 65536:=Int.tmod_eq_emod_of_nonneg d.1;cases g:Zdc ⟨v,f,lo⟩with
 |false=>simp[Zdg,e,g,grp]
 |true=>
  cases v with
  |false=>
   simp only[Zdg,e,g,Option.bind_some,cond_false,Bool.not_true,grp,if_true,Bool.false_eq_true,if_false,t2];rw[ZhF (by omega) (by omega)]
  |true=>
   simp only[Zdg,e,g,Option.bind_some,cond_false,Bool.not_true,grp,if_true,cond_true,t1];rw[ZhF (by omega) (by omega)]
def Srt(l:List Zaj):Prop:=l.Pairwise fun a b=>cmpN a b<0
theorem Srt.nodup{l:List Zaj}(h:Srt l):l.Nodup:=List.Pairwise.imp (fun{a b} hab e=>by subst e;have:=(ZkV (a:=a) (b:=a)).2 rfl;omega) h
def ddN(l:List Zaj):Nat->List Zaj|0=>[]|m+1=>if 0<m/\l.getD m Zaj.d=l.getD (m-1) Zaj.d then ddN l m else ddN l m++[l.getD m Zaj.d]
theorem ZuO(l:List Zaj):∀m,m<=l.length->(∀i,0<i->i<m->l.getD i Zaj.d≠l.getD (i-1) Zaj.d)->ddN l m=l.take m
 | 0,_,_=>by simp[ddN]
 |m+1,h,b=>by
  rw[ddN,if_neg (fun e=>b m e.1 (by omega) e.2),ZuO l m (by omega) (fun i f g=>b i f (by omega)),List.take_succ_eq_append_getElem (by omega),ZbX l _ m (by omega)]
theorem ZHq(l:List Zaj):∀m,m<=l.length->∀x,x∈ddN l m↔x∈l.take m
 | 0,_,x=>by simp[ddN]
 |m+1,h,x=>by
  have ih:=ZHq l m (by omega)
  rw[List.take_succ_eq_append_getElem (by omega),List.mem_append,ddN]
  have e:=ZbX l Zaj.d m (by omega)
  split
  .rename_i b
   rw[ih x]
   constructor
   .exact .inl
   .rintro (h1|h1)
    .exact h1
    .rw[List.mem_singleton]at h1
     rw[h1,<-e,b.2,ZbX l Zaj.d (m-1) (by omega)]
     exact List.mem_take_iff_getElem.2 ⟨m-1,by omega,rfl⟩
  .rw[List.mem_append,ih x,e]
theorem ZHp(l:List Zaj)(g:l.Pairwise fun a b=>cmpN a b<=0):∀m,m<=l.length->Srt (ddN l m)/\∀x∈ddN l m,cmpN x (l.getD (m-1) Zaj.d)<=0
 | 0,_=>by simp[ddN,Srt]
 |m+1,h=>by
  obtain⟨i,j⟩:=ZHp l g m (by omega)
  rw[ddN]
  by_cases o:m=0
  .subst o
   rw[if_neg (by simp)]
   simp only[ddN,List.nil_append]
   exact⟨List.pairwise_singleton _ _,fun x hx=>by rw[List.mem_singleton]at hx;rw[hx];have:=(ZkV (a:=l.getD 0 Zaj.d) (b:=l.getD 0 Zaj.d)).2 rfl;simp at this ⊢;omega⟩
  .split
   .rename_i f
    refine⟨i,fun x hx=>?_⟩
    rw[Nat.add_sub_cancel,f.2]
    exact j x hx
   .rename_i f
    have hne:l.getD m Zaj.d≠l.getD (m-1) Zaj.d:=fun e=>f ⟨by omega,e⟩
    have hle:cmpN (l.getD (m-1) Zaj.d) (l.getD m Zaj.d)<=0:=by
     rw[ZbX l _ m (by omega),ZbX l _ (m-1) (by omega)];exact List.pairwise_iff_getElem.1 g (m-1) m (by omega) (by omega) (by omega)
    have hlt:cmpN (l.getD (m-1) Zaj.d) (l.getD m Zaj.d)<0:=by
     have:cmpN (l.getD (m-1) Zaj.d) (l.getD m Zaj.d)≠0:=fun e=>hne (ZkV.1 e).symm;omega
    have cq:∀x∈ddN l m,cmpN x (l.getD m Zaj.d)<0:=fun x hx=>by
     have r:=j x hx;by_cases p:cmpN x (l.getD (m-1) Zaj.d)=0
     .rw[ZkV.1 p];exact hlt
     .exact Zrg (by omega) hlt
    refine⟨List.pairwise_append.2 ⟨i,List.pairwise_singleton _ _,fun x hx y n=>by rw[List.mem_singleton]at n;rw[n];exact cq x hx⟩,fun x hx=>?_⟩;rw[Nat.add_sub_cancel];rcases List.mem_append.1 hx with hx|hx
    .have:=cq x hx;omega
    .rw[List.mem_singleton]at hx;rw[hx];have:=(ZkV (a:=l.getD m Zaj.d) (b:=l.getD m Zaj.d)).2 rfl;omega
theorem sub1{i:Nat}(h:0<i)(b:i<=maxLen):ZaJ (i:Int) 1=((i-1:Nat):Int):=by
 unfold maxLen at b;rw[ZcI (by omega) (by omega)];omega
theorem ZEW(l:List Zaj)(hl:l.length<=maxLen)(b:Nat)(hk0:0<b)(hk0l:b<l.length)(k:Int->List Zaj->Option (List Zaj)):∀fu (j kk:Nat) (w:List Zaj),0<j->b+j<=l.length->l.length-(b+j)<fu ->
  w.length=l.length->(∀i,b+j-1<=i->w.getD i Zaj.d=l.getD i Zaj.d)->kk<b+j->w.take kk=ddN l (b+j)->kk<=w.length ->
  Zck k fu (kk:Int) b (l.length-b) l.length (j:Int) w=some (ddN l l.length):=by
 intro fu;induction fu with
 |zero=>intro _ _ _ _ _ h;omega
 |succ fu ih=>
  intro j kk w p hjl u g cE lk dH hkl;simp only[Zck,Zah];by_cases h:b+j<l.length
  .rw[if_pos (by omega),Zaq ⟨by omega,by omega⟩,Zaq (by simp;omega),sub1 p (by omega),Zaq ⟨by omega,by omega⟩,Zaq (by simp;omega)];simp only[Int.toNat_natCast];simp only[show b+(j-1)=b+j-1 by omega,cE (b+j) (by omega),cE (b+j-1) (by omega)];have o:Zan (j:Int) 1=((j+1:Nat):Int):=add1 (n:=l.length) (by omega) hl;have kc:ddN l (b+(j+1))=if 0<b+j/\l.getD (b+j) Zaj.d=l.getD (b+j-1) Zaj.d then ddN l (b+j)else ddN l (b+j)++[l.getD (b+j) Zaj.d]:=rfl;by_cases f:l.getD (b+j) Zaj.d=l.getD (b+j-1) Zaj.d
   .rw[if_pos ⟨by omega,f⟩]at kc;rw[decide_eq_true f];simp only[Bool.not_true,cond_false];rw[o];exact ih (j+1) kk w (by omega) (by omega) (by omega) g (fun i r=>cE i (by omega)) (by omega) (by rw[kc];exact dH) hkl
   .rw[if_neg (fun t=>f t.2)]at kc;rw[decide_eq_false f];simp only[Bool.not_false,cond_true];rw[Zaq ⟨by omega,by omega⟩,o,show Zan (kk:Int) 1=((kk+1:Nat):Int)from add1 (n:=l.length) (by omega) hl];have hkw:kk<w.length:=by omega
    refine ih (j+1) (kk+1) _ (by omega) (by omega) (by omega) (by simp[g]) (fun i r=>?_) (by omega) ?_ (by simp;omega)
    .rw[<-cE i (by omega)];simp only[List.getD_eq_getElem?_getD,Int.toNat_natCast];rw[List.getElem?_set_ne (by omega)]
    .rw[kc,<-dH]
     (try simp only[Int.toNat_natCast])
     rw[List.take_succ_eq_append_getElem (by simp;omega),List.take_set_of_le (by omega)];simp
  .have e:b+j=l.length:=by omega
   rw[if_neg (by omega),Zaq ⟨by omega,by omega,by omega⟩,Zaq (by simp;omega),Zaq ⟨by omega,by omega,by omega⟩];simp only[Int.toNat_natCast];rw[Zaq (by rw[Zwm _ _ _ _ (by omega)];exact hkl)];rw[<-e,<-dH];congr 1;simp only[Zjz,List.append_assoc];rw[List.take_append_of_le_length (by simp;omega),List.take_take,Nat.min_self]
theorem ZCk(l:List Zaj)(hl:l.length<999999):∀fu (i:Nat),0<i->i<=l.length->l.length-i<fu->(∀q,0<q->q<i->l.getD q Zaj.d≠l.getD (q-1) Zaj.d) ->
  Zcl fu (i:Int) l=some (ddN l l.length):=by
 have n:l.length<=maxLen:=by unfold maxLen;omega
 intro fu;induction fu with
 |zero=>intro _ _ _ h;omega
 |succ fu ih=>
  intro i f lg r g;simp only[Zcl,Zah];by_cases h:i<l.length
  .rw[if_pos (by omega),Zaq ⟨by omega,by omega⟩,sub1 f (by omega),Zaq ⟨by omega,by omega⟩];simp only[Int.toNat_natCast];by_cases b:l.getD i Zaj.d=l.getD (i-1) Zaj.d
   .rw[if_pos b,Zaq ⟨by omega,by omega,by omega⟩];refine ZEW l n i f h _ 1000000 1 i l (by omega) (by omega) (by omega) rfl (fun _ _=>rfl) (by omega) ?_ (by omega);rw[ddN,if_pos ⟨f,b⟩,ZuO l i (by omega) g]
   .rw[if_neg b,add1 h n];refine ih (i+1) (by omega) (by omega) (by omega) fun q j o=>?_;by_cases p:q=i
    .subst p;exact b
    .exact g q j (by omega)
  .have e:i=l.length:=by omega
   rw[if_neg (by omega)];congr 1;rw[ZuO l l.length (Nat.le_refl _) (fun q j o=>g q j (by omega)),List.take_length]
theorem ZEX(l:List Zaj)(hl:l.length<999999):ZbZ l=some (ddN l l.length):=by
 simp only[ZbZ,Zah];split
 .rename_i h;congr 1;rw[ZuO l l.length (Nat.le_refl _) (fun i b d=>by omega),List.take_length]
 .rename_i h;exact ZCk l hl _ 1 (by omega) (by omega) (by omega) (fun q b d=>by omega)
theorem ZIb(l:List Zaj)(h:l.length<999999):∃L,(ZjI l).bind ZbZ=some L/\Srt L/\∀x,x∈L↔x∈l:=by
 unfold ZjI;rw[Zaq (by omega)];simp only[Option.bind_some];have e:=List.mergeSort_perm l (fun x y=>!(Go.Proofs.ltOf cmpN) y x);have g:=List.pairwise_mergeSort (le:=fun x y=>!(Go.Proofs.ltOf cmpN) y x) (fun a b c d f=>by
   have:=ZIX.ntrans c b a (by simpa using f) (by simpa using d);simpa using this) (fun a b=>by
   rw[ltN,ltN,Bool.or_eq_true,Bool.not_eq_true',Bool.not_eq_true',decide_eq_false_iff_not,decide_eq_false_iff_not];by_cases d:cmpN b a<0
   .refine .inr fun f=>?_;have:=Zrg d f;have:=(ZkV (a:=b) (b:=b)).2 rfl;omega
   .exact .inl d) l
 generalize l.mergeSort (fun x y=>!(Go.Proofs.ltOf cmpN) y x)=m at e g;rw[ZEX m (by rw[e.length_eq];exact h)];refine⟨_,rfl,(ZHp m (g.imp fun{a b} hab=>?_) m.length (Nat.le_refl _)).1,fun x=>?_⟩
 .rw[ltN,Bool.not_eq_true',decide_eq_false_iff_not]at hab;have:¬0<cmpN a b:=fun h=>hab (Zte.1 h);omega
 .rw[ZHq m m.length (Nat.le_refl _),List.take_length];exact e.mem_iff
def endZ:Zai:=⟨⟨false,0,0⟩,0⟩
def repZ:Zao:=⟨0,endZ,0,0,[]⟩
theorem ZgU(a b:Int){α:Type}(x y:α):(bif a==b then x else y)=if a=b then x else y:=by
 by_cases h:a=b
 .subst h;simp
 .rw[if_neg h,beq_false_of_ne h];rfl
theorem ZaA{α β:Type}(x:α)(f:α->Option β):(some x).bind f=f x:=by simp
section
end
theorem ZKK{i:Nat}(h:i<=1000000):ZaJ ((i+1:Nat):Int) 1=(i:Int):=by
 unfold ZaJ;have:IntKind.i64.wrap (((i+1:Nat):Int)-1)=((i+1:Nat):Int)-1:=Zha (by omega) (by omega);exact this.trans (by omega)
theorem ZxV(l:List Zac)(h:l.length<=1000000):Zhl l l=some true:=by
 have ay:∀(k i f:Nat),l.length-i=k->i<=l.length->k+1<=f->ZcU l l f i=some true:=by
  intro k;induction k with
  |zero=>
   intro i f d e g;obtain⟨f,rfl⟩ : ∃x,f=x+1:=⟨f-1,by omega⟩;have b:¬((i:Int)<(l.length:Int)):=by omega
   unfold ZcU;simp only[Zah,if_neg b]
  |succ k ih=>
   intro i f d e g;obtain⟨f,rfl⟩ : ∃x,f=x+1:=⟨f-1,by omega⟩;have b:(i:Int)<(l.length:Int):=by omega
   have j:Zan (i:Int) 1=((i+1:Nat):Int):=add1 (n:=i+1) (by omega) (by simp only[maxLen];omega);unfold ZcU;simp only[Zah,if_pos b,j,decide_true,Bool.not_true,cond_false];rw[Zaq (by omega),Zaq (by omega)];exact ih (i+1) f (by omega) (by omega) (by omega)
 unfold Zhl;simp only[bne_self_eq_false,cond_false];exact ay l.length 0 _ (by omega) (by omega) (by omega)
theorem ZxU(l:List Zab)(h:l.length<=1000000):Zhk l l=some true:=by
 have ay:∀(k i f:Nat),l.length-i=k->i<=l.length->k+1<=f->ZcT l l f i=some true:=by
  intro k;induction k with
  |zero=>
   intro i f d e g;obtain⟨f,rfl⟩ : ∃x,f=x+1:=⟨f-1,by omega⟩;have b:¬((i:Int)<(l.length:Int)):=by omega
   unfold ZcT;simp only[Zah,if_neg b]
  |succ k ih=>
   intro i f d e g;obtain⟨f,rfl⟩ : ∃x,f=x+1:=⟨f-1,by omega⟩;have b:(i:Int)<(l.length:Int):=by omega
   have j:Zan (i:Int) 1=((i+1:Nat):Int):=add1 (n:=i+1) (by omega) (by simp only[maxLen];omega);unfold ZcT;simp only[Zah,if_pos b,j,decide_true,Bool.not_true,cond_false];rw[Zaq (by omega),Zaq (by omega)];exact ih (i+1) f (by omega) (by omega) (by omega)
 unfold Zhk;simp only[bne_self_eq_false,cond_false];exact ay l.length 0 _ (by omega) (by omega) (by omega)
theorem ZwA(l:List Zaa)(h:l.length<=1000000):ZgG l l=some true:=by
 have ay:∀(k i f:Nat),l.length-i=k->i<=l.length->k+1<=f->ZcJ l l f i=some true:=by
  intro k;induction k with
  |zero=>
   intro i f d e g;obtain⟨f,rfl⟩ : ∃x,f=x+1:=⟨f-1,by omega⟩;have b:¬((i:Int)<(l.length:Int)):=by omega
   unfold ZcJ;simp only[Zah,if_neg b]
  |succ k ih=>
   intro i f d e g;obtain⟨f,rfl⟩ : ∃x,f=x+1:=⟨f-1,by omega⟩;have b:(i:Int)<(l.length:Int):=by omega
   have j:Zan (i:Int) 1=((i+1:Nat):Int):=add1 (n:=i+1) (by omega) (by simp only[maxLen];omega);unfold ZcJ;simp only[Zah,if_pos b,j,decide_true,Bool.not_true,cond_false];rw[Zaq (by omega),Zaq (by omega)];exact ih (i+1) f (by omega) (by omega) (by omega)
 unfold ZgG;simp only[bne_self_eq_false,cond_false];exact ay l.length 0 _ (by omega) (by omega) (by omega)
structure Cx where
 c:List Zaa
 b:Int
 s:Int
def InR(K:Cx)(x:Int):Prop:=(0<=x/\x<((K.c.length:Nat):Int))/\(K.c.getD x.toNat Zaa.d).fEnd.fAddr.ok
def Rg(K:Cx)(l:List Int):Prop:=∀x∈l,InR K x
theorem Rg.app{K:Cx}{l r:List Int}(h:Rg K l)(b:Rg K r):Rg K (l++r):=fun x hx=>(List.mem_append.1 hx).elim (h x) (b x)
theorem Rg.take{K:Cx}{l:List Int}(h:Rg K l)(k:Nat):Rg K (l.take k):=fun x hx=>h x (List.mem_of_mem_take hx)
theorem Rg.drop{K:Cx}{l:List Int}(h:Rg K l)(k:Nat):Rg K (l.drop k):=fun x hx=>h x (List.mem_of_mem_drop hx)
theorem Rg.get{K:Cx}{l:List Int}(h:Rg K l){i:Nat}(b:i<l.length):InR K (l.getD i 0):=by rw[ZbX l _ i b];exact h _ (List.getElem_mem b)
def keyZ(s:Int)(p:Zaa):Int:=(Zon s (grp p.fEnd.fAddr)).getD 0
def kv(b s:Int)(p:Zaa):Int:=if b=1 then-keyZ s p else if b=2 then p.fPing else if b=3 then-p.fWork else if b=4 then p.fSince else 0
def ZkX(b s:Int)(p q:Zaa):Int:=orI (cmpI (kv b s p) (kv b s q)) (cmpE p.fEnd q.fEnd)
theorem ZsS{b s:Int}{p q:Zaa}:ZkX b s p q<0↔kv b s p<kv b s q\/(kv b s p=kv b s q/\cmpE p.fEnd q.fEnd<0):=by simp only[ZkX,Zxi,ZtM,Zjj]
theorem ZDB(a b:Int):cmpI b a=cmpI (-a) (-b):=by
 unfold cmpI
 repeat' split
 all_goals omega
theorem ZCN(p:Zaa)(s:Int)(h:p.fEnd.fAddr.ok):Zmw p s=some (keyZ s p):=by
 obtain⟨m,b,_,_⟩:=ZGm s (grp p.fEnd.fAddr);unfold Zmw keyZ;rw[Zpa _ h,ZaA,b,ZaA];rfl
theorem Zzs(p q:Zaa)(b s:Int)(h:p.fEnd.fAddr.ok)(i:q.fEnd.fAddr.ok):ZjO p q b s=some (cmpI (kv b s p) (kv b s q)):=by
 unfold ZjO kv;simp only[ZCN _ _ h,ZCN _ _ i,ZHu,ZtL,ZaA,ZgU];by_cases d:b=1
 .simp only[if_pos d,<-ZDB]
 .simp only[if_neg d];by_cases e:b=2
  .simp only[if_pos e]
  .simp only[if_neg e];by_cases f:b=3
   .simp only[if_pos f,<-ZDB]
   .simp only[if_neg f];by_cases g:b=4
    .simp only[if_pos g]
    .simp only[if_neg g];rfl
theorem ZFU(p q:Zaa)(b s:Int)(d:p.fEnd.fAddr.ok)(e:q.fEnd.fAddr.ok):ZmG p q b s=some (ZkX b s p q):=by
 unfold ZmG ZkX;simp only[Zzs _ _ _ _ d e,ZuN,or2,ZaA]
def cmpJ(K:Cx)(x y:Int):Int:=ZkX K.b K.s (K.c.getD x.toNat Zaa.d) (K.c.getD y.toNat Zaa.d)
def ltJ(K:Cx)(x y:Int):Bool:=decide (cmpJ K x y<0)
theorem ZrF{K:Cx}{x y:Int}:ltJ K x y=true↔cmpJ K x y<0:=by unfold ltJ;simp
theorem Zxp{K:Cx}{x y:Int}:ltJ K x y=false↔¬cmpJ K x y<0:=by unfold ltJ;simp
theorem ZuJ{K:Cx}{x y:Int}(hx:InR K x)(d:InR K y):Zgu x y K.c K.b K.s=some (cmpJ K x y):=by
 unfold Zgu cmpJ;rw[Zaq hx.1,Zaq d.1,ZFU _ _ _ _ hx.2 d.2];rfl
theorem ZBE{b s:Int}{p q r:Zaa}(e:ZkX b s p q<0)(d:ZkX b s q r<0):ZkX b s p r<0:=by
 rw[ZsS]at *
 rcases e with e|⟨e,g⟩
 .rcases d with d|⟨d,f⟩
  .left;omega
  .left;omega
 .rcases d with d|⟨d,f⟩
  .left;omega
  .right;exact⟨by omega,Zmy g f⟩
theorem ZGK{b s:Int}{p q r:Zaa}(f:¬ZkX b s p q<0)(d:¬ZkX b s q r<0):¬ZkX b s p r<0:=by
 rw[ZsS]at *
 rintro (h|⟨h,g⟩)
 .by_cases e:kv b s p=kv b s q
  .exact d (.inl (by omega))
  .by_cases i:kv b s p<kv b s q
   .exact f (.inl i)
   .exact d (.inl (by omega))
 .by_cases e:kv b s p=kv b s q
  .have n1:¬cmpE p.fEnd q.fEnd<0:=fun x=>f (.inr ⟨e,x⟩);have n2:¬cmpE q.fEnd r.fEnd<0:=fun x=>d (.inr ⟨by omega,x⟩);have e4:cmpE p.fEnd q.fEnd=0\/0<cmpE p.fEnd q.fEnd:=by omega
   rcases e4 with e4|e4
   .rw[ZiC.1 e4]at g;exact n2 g
   .exact n2 (Zmy (ZfS.1 e4) g)
  .by_cases i:kv b s p<kv b s q
   .exact f (.inl i)
   .exact d (.inl (by omega))
theorem ZGL(b s:Int)(p:Zaa):¬ZkX b s p p<0:=by
 rw[ZsS];rintro (h|⟨_,h⟩)
 .omega
 .rw[ZiC.2 rfl]at h;omega
theorem Zsr{K:Cx}{x y z:Int}(b:ltJ K x y=true)(d:ltJ K y z=true):ltJ K x z=true:=by
 rw[ZrF]at *;exact ZBE b d
theorem ZmA{K:Cx}{x y z:Int}(b:ltJ K x y=false)(d:ltJ K y z=false):ltJ K x z=false:=by
 rw[Zxp]at *;exact ZGK b d
theorem ZBw{K:Cx}(x:Int):ltJ K x x=false:=by rw[Zxp];exact ZGL _ _ _
theorem ZCZ{K:Cx}{x y:Int}(h:ltJ K x y=true):ltJ K y x=false:=by
 cases b:ltJ K y x with
 |false=>rfl
 |true=>have:=Zsr h b;rw[ZBw]at this;cases this
theorem ZIc{α:Type}(L R:List α)(x y:α):(L++x :: R).set L.length y=L++y :: R:=by
 induction L with
 |nil=>rfl
 |cons z L ih=>simp[ih]
theorem ZDm{α:Type}(L R:List α)(x d:α):(L++x :: R).getD L.length d=x:=by
 induction L with
 |nil=>rfl
 |cons z L ih=>simp
theorem Zqe{α:Type}{l L R:List α}{x y:α}{k:Nat}(h:l=L++x :: R)(b:k=L.length):l.set k y=L++y :: R:=by rw[h,b,ZIc]
theorem ZnD{α:Type}{l L R:List α}{x d:α}{k:Nat}(h:l=L++x :: R)(b:k=L.length):l.getD k d=x:=by rw[h,b,ZDm]
abbrev Ins:=List Int
variable {K:Cx}
theorem ZDV(P B Q:Ins):∀(k:Nat)(A1 A2 C1 C2:Ins)(fu:Nat),A2.length=k->C2.length=k->A1.length=C1.length->k+1<=fu->P.length+B.length+Q.length+2*(A1.length+k)<=1000000 ->
  Zbg (P.length:Int) ((P.length+(A1.length+k)+B.length:Nat):Int) ((A1.length+k:Nat):Int) fu (A1.length:Int) (P++(C1++(A2++(B++(A1++(C2++Q))))))=some (P++(C1++(C2++(B++(A1++(A2++Q)))))):=by
 intro k;induction k with
 |zero=>
  intro A1 A2 C1 C2 fu b d e f hb;obtain⟨fu,rfl⟩ : ∃x,fu=x+1:=⟨fu-1,by omega⟩;obtain rfl:=List.eq_nil_of_length_eq_zero b;obtain rfl:=List.eq_nil_of_length_eq_zero d;unfold Zbg;rw[Zah,if_neg (by omega)]
 |succ k ih=>
  intro A1 A2 C1 C2 fu b d e f hb;obtain⟨fu,rfl⟩ : ∃x,fu=x+1:=⟨fu-1,by omega⟩;cases A2 with
  |nil=>cases b
  |cons a A2=>
   cases C2 with
   |nil=>cases d
   |cons c C2=>
    simp only[List.length_cons,Nat.add_right_cancel_iff]at b d;unfold Zbg;have g:Zan (P.length:Int) (A1.length:Int)=((P.length+A1.length:Nat):Int):=by rw[Zcd (by omega) (by omega)];omega
    have h:Zan ((P.length+(A1.length+(k+1))+B.length:Nat):Int) (A1.length:Int)=((P.length+(A1.length+(k+1))+B.length+A1.length:Nat):Int):=by rw[Zcd (by omega) (by omega)];omega
    have i:Zan (A1.length:Int) 1=((A1.length+1:Nat):Int):=by rw[Zcd (by omega) (by omega)];omega
    have hl:(P++(C1++(a :: A2++(B++(A1++(c :: C2++Q)))))).length=P.length+B.length+Q.length+2*(A1.length+(k+1)):=by simp;omega
    rw[Zah,if_pos (by omega),g,h,i,Zaq (by rw[hl];omega),Zaq (by rw[hl];omega)];simp only[Int.toNat_natCast];have j:(P++(C1++(a :: A2++(B++(A1++(c :: C2++Q)))))).getD (P.length+(A1.length+(k+1))+B.length+A1.length) 0=c:=
     ZnD (L:=P++(C1++(a :: A2++(B++A1)))) (R:=C2++Q) (by simp) (by simp;omega)
    have n:(P++(C1++(a :: A2++(B++(A1++(c :: C2++Q)))))).getD (P.length+A1.length) 0=a:=
     ZnD (L:=P++C1) (R:=A2++(B++(A1++(c :: C2++Q)))) (by simp) (by simp;omega)
    have s1:(P++(C1++(a :: A2++(B++(A1++(c :: C2++Q)))))).set (P.length+A1.length) c=P++(C1++(c :: A2++(B++(A1++(c :: C2++Q))))):=by
     rw[Zqe (L:=P++C1) (x:=a) (R:=A2++(B++(A1++(c :: C2++Q)))) (by simp) (by simp;omega)];simp
    have s2:(P++(C1++(c :: A2++(B++(A1++(c :: C2++Q)))))).set (P.length+(A1.length+(k+1))+B.length+A1.length) a=P++(C1++(c :: A2++(B++(A1++(a :: C2++Q))))):=by
     rw[Zqe (L:=P++(C1++(c :: A2++(B++A1)))) (x:=c) (R:=C2++Q) (by simp) (by simp;omega)];simp
    rw[j,n,s1,s2];have:=ih (A1++[a]) A2 (C1++[c]) C2 fu b d (by simp;omega) (by omega) (by simp;omega);simp only[List.length_append,List.length_singleton,List.append_assoc,List.singleton_append,List.cons_append]at this ⊢;have x1:A1.length+1+k=A1.length+(k+1):=by omega
    rw[x1]at this;exact this
theorem ZxQ(P A B C Q:Ins)(h:A.length=C.length)(hb:P.length+B.length+Q.length+2*A.length<=1000000)(a b n:Int)(d:a=(P.length:Int))(jR:b=((P.length+A.length+B.length:Nat):Int))(e:n=(A.length:Int)) :
  ZbI (P++(A++(B++(C++Q)))) a b n K.c K.b K.s=some (P++(C++(B++(A++Q)))):=by
 subst d jR e;unfold ZbI;have:=ZDV P B Q A.length [] A [] C (((A.length:Int)-0).toNat+2) rfl h.symm rfl (by omega) (by simpa using hb);simpa using this
theorem ZFD(m:Nat):∀(s:Nat)(P X Y Q:Ins)(fu:Nat),X.length+Y.length<=s->0<X.length->0<Y.length->m=P.length+X.length->P.length+X.length+Y.length+Q.length<=1000000->s+1<=fu ->
  Zbx (m:Int) K.c K.b K.s fu (X.length:Int) (Y.length:Int) (P++(X++(Y++Q)))=some (P++(Y++(X++Q))):=by
 intro s;induction s with
 |zero=>intro P X Y Q fu j d;omega
 |succ s ih=>
  intro P X Y Q fu j d r n hb t;obtain⟨fu,rfl⟩ : ∃x,fu=x+1:=⟨fu-1,by omega⟩;unfold Zbx;have g:ZaJ (m:Int) (X.length:Int)=(P.length:Int):=by rw[ZcI (by omega) (by omega)];omega
  by_cases h:X.length=Y.length
  .have e:((X.length:Int) != (Y.length:Int))=false:=by rw[h];simp
   rw[e,cond_false,g];have:=ZxQ (K:=K) P X [] Y Q h (by simp;omega) (P.length:Int) (m:Int) (X.length:Int) rfl (by simp[n]) rfl;simp only[List.nil_append]at this;rw[this];rfl
  .have e:((X.length:Int) != (Y.length:Int))=true:=by rw[bne_iff_ne];omega
   rw[e,cond_true,Zah,g];by_cases u:Y.length<X.length
   .obtain⟨X1,X2,rfl,hx⟩ : ∃X1 X2,X=X1++X2/\X1.length=Y.length:=⟨X.take Y.length,X.drop Y.length,(List.take_append_drop ..).symm,by simp;omega⟩;simp only[List.length_append]at *
    have f:ZaJ ((X1.length+X2.length:Nat):Int) (Y.length:Int)=(X2.length:Int):=by rw[ZcI (by omega) (by omega)];omega
    rw[if_pos (by omega),f];have:=ZxQ (K:=K) P X1 X2 Y Q hx (by omega) (P.length:Int) (m:Int) (Y.length:Int) rfl (by omega) (by omega);simp only[List.append_assoc]at this ⊢;rw[this,ZaA];have d:=ih (P++Y) X2 X1 Q fu (by omega) (by omega) (by omega) (by simp;omega) (by simp;omega) (by omega);simp only[List.append_assoc,hx]at d;exact d
   .obtain⟨Y1,Y2,rfl,i⟩ : ∃Y1 Y2,Y=Y1++Y2/\Y2.length=X.length:=⟨Y.take (Y.length-X.length),Y.drop (Y.length-X.length),(List.take_append_drop ..).symm,by simp;omega⟩;simp only[List.length_append]at *
    have f:ZaJ ((Y1.length+Y2.length:Nat):Int) (X.length:Int)=(Y1.length:Int):=by rw[ZcI (by omega) (by omega)];omega
    have o:Zan (m:Int) ((Y1.length+Y2.length:Nat):Int)=((m+Y1.length+Y2.length:Nat):Int):=by rw[Zcd (by omega) (by omega)];omega
    have p:ZaJ ((m+Y1.length+Y2.length:Nat):Int) (X.length:Int)=((P.length+X.length+Y1.length:Nat):Int):=by rw[ZcI (by omega) (by omega)];omega
    rw[if_neg (by omega),f,o,p];have:=ZxQ (K:=K) P X Y1 Y2 Q i.symm (by omega) (P.length:Int) ((P.length+X.length+Y1.length:Nat):Int) (X.length:Int) rfl rfl rfl;simp only[List.append_assoc]at this ⊢;rw[this,ZaA];have d:=ih P Y2 Y1 (X++Q) fu (by omega) (by omega) (by omega) (by omega) (by simp;omega) (by omega);simp only[List.append_assoc,i]at d;exact d
theorem ZJN(P X Y Q:Ins)(d:0<X.length)(e:0<Y.length)(hb:P.length+X.length+Y.length+Q.length<=900000)(a m b:Int)(f:a=(P.length:Int))(g:m=((P.length+X.length:Nat):Int))(jR:b=((P.length+X.length+Y.length:Nat):Int)) :
  Zcp (P++(X++(Y++Q))) a m b K.c K.b K.s=some (P++(Y++(X++Q))):=by
 subst f g jR;unfold Zcp;have h:ZaJ ((P.length+X.length:Nat):Int) (P.length:Int)=(X.length:Int):=by rw[ZcI (by omega) (by omega)];omega
 have i:ZaJ ((P.length+X.length+Y.length:Nat):Int) ((P.length+X.length:Nat):Int)=(Y.length:Int):=by rw[ZcI (by omega) (by omega)];omega
 rw[h,i];exact ZFD _ (X.length+Y.length) P X Y Q 1000000 (Nat.le_refl _) d e rfl (by omega) (by omega)
theorem ZBv{x y z:Int}(b:ltJ K z x=true)(d:ltJ K y x=false):ltJ K z y=true:=by
 cases h:ltJ K z y with
 |true=>rfl
 |false=>rw[ZmA h d]at b;cases b
def mrgJ(K:Cx):Ins->Ins->Ins | [],ys=>ys|x :: xs,[]=>x :: xs|x :: xs,y :: ys=>if ltJ K y x=true then y :: mrgJ K (x :: xs) ys else x :: mrgJ K xs (y :: ys)
termination_by xs ys=>xs.length+ys.length
theorem ZhG(xs:Ins):mrgJ K xs []=xs:=by cases xs<;>simp[mrgJ]
theorem Zez(xs:Ins):mrgJ K [] xs=xs:=by simp[mrgJ]
theorem Zih{x y:Int}(xs ys:Ins)(h:ltJ K y x=true):mrgJ K (x :: xs) (y :: ys)=y :: mrgJ K (x :: xs) ys:=by rw[mrgJ,if_pos h]
theorem ZiT{x y:Int}(xs ys:Ins)(h:ltJ K y x=false):mrgJ K (x :: xs) (y :: ys)=x :: mrgJ K xs (y :: ys):=by rw[mrgJ,if_neg (by simp[h])]
theorem ZEt:∀(n:Nat)(a b c:Ins),a.length+b.length+c.length<=n->mrgJ K (mrgJ K a b) c=mrgJ K a (mrgJ K b c):=by
 intro n;induction n with
 |zero=>
  intro a b c h;obtain rfl:=List.eq_nil_of_length_eq_zero (show a.length=0 by omega);rw[Zez,Zez]
 |succ n ih=>
  intro a b c h;cases a with
  |nil=>rw[Zez,Zez]
  |cons x a=>
   cases b with
   |nil=>rw[ZhG,Zez]
   |cons y b=>
    cases c with
    |nil=>rw[ZhG,ZhG]
    |cons z c=>
     simp only[List.length_cons]at h;cases e:ltJ K y x with
     |true=>
      rw[Zih _ _ e];cases d:ltJ K z y with
      |true=>
       rw[Zih _ _ d,Zih _ _ d,Zih _ _ (Zsr d e),<-Zih a b e,ih (x :: a) (y :: b) c (by simp only[List.length_cons];omega)]
      |false=>
       rw[ZiT _ _ d,ZiT _ _ d,Zih _ _ e,ih (x :: a) b (z :: c) (by simp only[List.length_cons];omega)]
     |false=>
      rw[ZiT _ _ e];cases f:ltJ K z x with
      |true=>
       have d:=ZBv f e;rw[Zih _ _ f,Zih _ _ d,Zih _ _ f,<-ZiT a b e,ih (x :: a) (y :: b) c (by simp only[List.length_cons];omega)]
      |false=>
       rw[ZiT _ _ f,ih a (y :: b) (z :: c) (by simp only[List.length_cons];omega)];cases d:ltJ K z y with
       |true=>rw[Zih _ _ d,ZiT _ _ f]
       |false=>rw[ZiT _ _ d,ZiT _ _ e]
theorem Zoh:∀(n:Nat)(x1 x2 y1 y2:Ins),x1.length+y1.length<=n->(∀y∈y1,∀x∈x2,ltJ K y x=true)->(∀x∈x1,∀y∈y2,ltJ K y x=false)->mrgJ K (x1++x2) (y1++y2)=mrgJ K x1 y1++mrgJ K x2 y2:=by
 intro n;induction n with
 |zero=>
  intro x1 x2 y1 y2 h _ _;obtain rfl:=List.eq_nil_of_length_eq_zero (show x1.length=0 by omega);obtain rfl:=List.eq_nil_of_length_eq_zero (show y1.length=0 by omega);simp[Zez]
 |succ n ih=>
  intro x1 x2 y1 y2 h b d;cases x1 with
  |nil=>
   cases y1 with
   |nil=>simp[Zez]
   |cons y y1=>
    cases x2 with
    |nil=>simp[Zez]
    |cons x x2=>
     simp only[List.length_cons,List.length_nil]at h;rw[List.nil_append,List.cons_append,Zih _ _ (b y (by simp) x (by simp)),Zez];have:=ih [] (x :: x2) y1 y2 (by simp only[List.length_nil];omega) (fun y' dR=>b y' (by simp[dR])) (by simp);rw[List.nil_append,Zez]at this;rw[this];rfl
  |cons x x1=>
   cases y1 with
   |nil=>
    cases y2 with
    |nil=>simp[ZhG]
    |cons y y2=>
     simp only[List.length_cons,List.length_nil]at h;rw[List.nil_append,List.cons_append,ZiT _ _ (d x (by simp) y (by simp)),ZhG];have:=ih x1 x2 [] (y :: y2) (by simp only[List.length_nil];omega) (by simp) (fun x' io=>d x' (by simp[io]));rw[List.nil_append,ZhG]at this;rw[this];rfl
   |cons y y1=>
    simp only[List.length_cons]at h;rw[List.cons_append,List.cons_append];cases e:ltJ K y x with
    |true=>
     rw[Zih _ _ e,Zih _ _ e,<-List.cons_append,ih (x :: x1) x2 y1 y2 (by simp only[List.length_cons];omega) (fun y' dR=>b y' (by simp[dR])) d];rfl
    |false=>
     have:=ih x1 x2 (y :: y1) y2 (by simp only[List.length_cons];omega) b (fun x' io=>d x' (by simp[io]));rw[List.cons_append]at this;rw[ZiT _ _ e,ZiT _ _ e,this];rfl
theorem ZCV:∀(n:Nat)(a b:Ins),a.length+b.length<=n->(mrgJ K a b).length=a.length+b.length:=by
 intro n;induction n with
 |zero=>
  intro a b h;obtain rfl:=List.eq_nil_of_length_eq_zero (show a.length=0 by omega);simp[Zez]
 |succ n ih=>
  intro a b h;cases a with
  |nil=>simp[Zez]
  |cons x a=>
   cases b with
   |nil=>simp[ZhG]
   |cons y b=>
    simp only[List.length_cons]at h ⊢;cases d:ltJ K y x with
    |true=>rw[Zih _ _ d,List.length_cons,ih _ _ (by simp only[List.length_cons];omega)];simp only[List.length_cons];omega
    |false=>rw[ZiT _ _ d,List.length_cons,ih _ _ (by simp only[List.length_cons];omega)];simp only[List.length_cons];omega
theorem ZuE:∀(n:Nat)(a b:Ins),a.length+b.length<=n->∀z∈mrgJ K a b,z∈a\/z∈b:=by
 intro n;induction n with
 |zero=>
  intro a b h z hz;obtain rfl:=List.eq_nil_of_length_eq_zero (show a.length=0 by omega);rw[Zez]at hz;exact .inr hz
 |succ n ih=>
  intro a b h z hz;cases a with
  |nil=>rw[Zez]at hz;exact .inr hz
  |cons x a=>
   cases b with
   |nil=>rw[ZhG]at hz;exact .inl hz
   |cons y b=>
    simp only[List.length_cons]at h;cases d:ltJ K y x with
    |true=>
     rw[Zih _ _ d]at hz;rcases List.mem_cons.1 hz with hz|hz
     .exact .inr (by simp[hz])
     .rcases ih _ _ (by simp only[List.length_cons];omega) z hz with q|q
      .exact .inl q
      .exact .inr (by simp[q])
    |false=>
     rw[ZiT _ _ d]at hz;rcases List.mem_cons.1 hz with hz|hz
     .exact .inl (by simp[hz])
     .rcases ih _ _ (by simp only[List.length_cons];omega) z hz with q|q
      .exact .inl (by simp[q])
      .exact .inr q
def aY(K:Cx)(l:Ins):Prop:=l.Pairwise fun x y=>ltJ K y x=false
theorem ZIB:∀(n:Nat)(a b:Ins),a.length+b.length<=n->aY K a->aY K b->aY K (mrgJ K a b):=by
 intro n;induction n with
 |zero=>
  intro a b h e hb;obtain rfl:=List.eq_nil_of_length_eq_zero (show a.length=0 by omega);rw[Zez];exact hb
 |succ n ih=>
  intro a b h e hb;cases a with
  |nil=>rw[Zez];exact hb
  |cons x a=>
   cases b with
   |nil=>rw[ZhG];exact e
   |cons y b=>
    simp only[List.length_cons]at h;have b5:=List.pairwise_cons.1 e;have aF:=List.pairwise_cons.1 hb;cases d:ltJ K y x with
    |true=>
     rw[Zih _ _ d];refine List.pairwise_cons.2 ⟨fun z f=>?_,ih _ _ (by simp only[List.length_cons];omega) e aF.2⟩;rcases ZuE _ _ _ (Nat.le_refl _) z f with q|q
     .have:ltJ K x y=false:=ZCZ d;rcases List.mem_cons.1 q with q|q
      .rw[q];exact this
      .exact ZmA (b5.1 z q) this
     .exact aF.1 z q
    |false=>
     rw[ZiT _ _ d];refine List.pairwise_cons.2 ⟨fun z f=>?_,ih _ _ (by simp only[List.length_cons];omega) b5.2 hb⟩;rcases ZuE _ _ _ (Nat.le_refl _) z f with q|q
     .exact b5.1 z q
     .rcases List.mem_cons.1 q with q|q
      .rw[q];exact d
      .exact ZmA (aF.1 z q) d
def ZbR(K:Cx)(l:Ins):Ins:=l.foldl (fun o x=>mrgJ K o [x]) []
theorem ZhK(l:Ins)(x:Int):ZbR K (l++[x])=mrgJ K (ZbR K l) [x]:=by unfold ZbR;rw[List.foldl_append];rfl
theorem Zsx(xs ys:Ins):ZbR K (xs++ys)=mrgJ K (ZbR K xs) (ZbR K ys):=by
 have:∀n,n<=ys.length->ZbR K (xs++ys.take n)=mrgJ K (ZbR K xs) (ZbR K (ys.take n)):=by
  intro n;induction n with
  |zero=>intro _;simp[ZbR,ZhG]
  |succ n ih=>
   intro h;rw[List.take_succ_eq_append_getElem (show n<ys.length by omega),<-List.append_assoc,ZhK,ZhK,ih (by omega),ZEt _ _ _ _ (Nat.le_refl _)]
 have h:=this ys.length (Nat.le_refl _);rwa [List.take_length]at h
theorem Zhc(l:Ins):(ZbR K l).length=l.length:=by
 have:∀n,n<=l.length->(ZbR K (l.take n)).length=n:=by
  intro n;induction n with
  |zero=>intro _;simp[ZbR]
  |succ n ih=>
   intro h;rw[List.take_succ_eq_append_getElem (show n<l.length by omega),ZhK,ZCV _ _ _ (Nat.le_refl _),ih (by omega)];rfl
 have h:=this l.length (Nat.le_refl _);rwa [List.take_length]at h
theorem Zql{l:Ins}(h:Rg K l):Rg K (ZbR K l):=by
 have:∀n,n<=l.length->Rg K (ZbR K (l.take n)):=by
  intro n;induction n with
  |zero=>intro _;simp[ZbR,Rg]
  |succ n ih=>
   intro d;rw[List.take_succ_eq_append_getElem (show n<l.length by omega),ZhK];intro x hx;rcases ZuE _ _ _ (Nat.le_refl _) x hx with q|q
   .exact ih (by omega) x q
   .rw[List.mem_singleton.1 q];exact h _ (List.getElem_mem _)
 have b:=this l.length (Nat.le_refl _);rwa [List.take_length]at b
theorem Zoi(l:Ins):aY K (ZbR K l):=by
 have:∀n,n<=l.length->aY K (ZbR K (l.take n)):=by
  intro n;induction n with
  |zero=>intro _;simp[ZbR,aY]
  |succ n ih=>
   intro h;rw[List.take_succ_eq_append_getElem (show n<l.length by omega),ZhK];exact ZIB _ _ _ (Nat.le_refl _) (ih (by omega)) (by simp[aY])
 have h:=this l.length (Nat.le_refl _);rwa [List.take_length]at h
theorem Zyp{o1 d:Ins}{x:Int}(g:∀y∈o1,ltJ K x y=false)(h:∀y∈d,ltJ K x y=true):mrgJ K (o1++d) [x]=o1++x :: d:=by
 have a:=Zoh _ o1 d [x] [] (Nat.le_refl _) (fun y e z f=>by rw[List.mem_singleton.1 e];exact h z f) (by simp);have b:=Zoh _ o1 [] [] [x] (Nat.le_refl _) (by simp) (fun z f y e=>by rw[List.mem_singleton.1 e];exact g z f);simp only[List.append_nil,List.nil_append,ZhG,Zez]at a b;rw[a,b];simp
theorem ZIx{o1 d:Ins}{x:Int}(g:∀y∈o1,ltJ K y x=true)(h:∀y∈d,ltJ K y x=false):mrgJ K [x] (o1++d)=o1++x :: d:=by
 have a:=Zoh _ [] [x] o1 d (Nat.le_refl _) (fun y e z f=>by rw[List.mem_singleton.1 f];exact g y e) (by simp);have b:=Zoh _ [x] [] [] d (Nat.le_refl _) (by simp) (fun z f y e=>by rw[List.mem_singleton.1 f];exact h y e);simp only[List.append_nil,List.nil_append,ZhG,Zez]at a b;rw[a,b];simp
theorem ZJK{α:Type}:∀(l:List α),l.length≠0->∃T s,l=T++[s]
 | [x],_=>⟨[],x,rfl⟩
 |x :: y :: l,_=>by
  obtain⟨T,s,h⟩:=ZJK (y :: l) (by simp)
  exact⟨x :: T,s,by rw[h];rfl⟩
theorem ZFu{K:Cx}{T:Ins}{s x:Int}(h:aY K (T++[s]))(hx:ltJ K x s=false):∀y∈T++[s],ltJ K x y=false:=by
 intro y b;rcases List.mem_append.1 b with q|q
 .exact ZmA hx ((List.pairwise_append.1 h).2.2 y q s (by simp))
 .rw[List.mem_singleton.1 q];exact hx
theorem ZEx{K:Cx}(P:Ins)(x:Int)(hx:InR K x)(R:Ins)(j v8:Int)(k:Int->Ins->Option Ins):∀(n:Nat)(S1 S2:Ins)(fu:Nat),S1.length=n->aY K S1->Rg K S1->(∀y∈S2,ltJ K x y=true)->n+1<=fu->P.length+S1.length+S2.length+R.length<=900000 ->
  ZaX (P.length:Int) j K.c K.b K.s v8 k fu ((P.length+n:Nat):Int) (P++(S1++(x :: (S2++R))))=k (Zan v8 1) (P++(mrgJ K (S1++S2) [x]++R)):=by
 intro n;induction n with
 |zero=>
  intro S1 S2 fu f g h d o hb;obtain⟨fu,rfl⟩ : ∃x,fu=x+1:=⟨fu-1,by omega⟩;obtain rfl:=List.eq_nil_of_length_eq_zero f;unfold ZaX;rw[Zah,if_neg (by omega),Zyp (o1:=[]) (by simp) d];simp
 |succ n ih=>
  intro S1 S2 fu f g h d o hb;obtain⟨fu,rfl⟩ : ∃x,fu=x+1:=⟨fu-1,by omega⟩;obtain⟨T,s,rfl⟩:=ZJK S1 (by omega);have p:T.length=n:=by simpa using f
  have r:ZaJ ((P.length+(n+1):Nat):Int) 1=((P.length+n:Nat):Int):=by rw[ZcI (by omega) (by omega)];omega
  have hl:(P++(T++[s]++(x :: (S2++R)))).length=P.length+(n+1)+1+S2.length+R.length:=by simp;omega
  unfold ZaX;rw[Zah,if_pos (by omega),r,Zaq (by rw[hl];omega),Zaq (by rw[hl];omega)];simp only[Int.toNat_natCast];have t:(P++(T++[s]++(x :: (S2++R)))).getD (P.length+(n+1)) 0=x:=ZnD (L:=P++(T++[s])) (R:=S2++R) (by simp) (by simp;omega);have u:(P++(T++[s]++(x :: (S2++R)))).getD (P.length+n) 0=s:=ZnD (L:=P++T) (R:=x :: (S2++R)) (by simp) (by simp;omega);rw[t,u,ZuJ hx (h s (by simp)),ZaA,Zah];by_cases e:cmpJ K x s<0
  .have dY:ltJ K x s=true:=ZrF.2 e;have s1:(P++(T++[s]++(x :: (S2++R)))).set (P.length+(n+1)) s=P++(T++(s :: (s :: (S2++R)))):=by
    rw[Zqe (L:=P++(T++[s])) (x:=x) (R:=S2++R) (by simp) (by simp;omega)];simp
   have s2:(P++(T++(s :: (s :: (S2++R))))).set (P.length+n) x=P++(T++(x :: (s :: S2++R))):=by
    rw[Zqe (L:=P++T) (x:=s) (R:=s :: (S2++R)) (by simp) (by simp;omega)];simp
   rw[if_pos e,s1,s2];have:=ih T (s :: S2) fu p (List.pairwise_append.1 g).1 (fun y i=>h y (by simp[i])) (fun y i=>by
    rcases List.mem_cons.1 i with q|q
    .rw[q];exact dY
    .exact d y q) (by omega) (by simp only[List.length_append,List.length_singleton,List.length_cons]at hb ⊢;omega)
   rw[this];simp
  .rw[if_neg e,Zyp (ZFu g (Zxp.2 e)) d];simp
theorem ZGw{K:Cx}(P L Q:Ins)(e:Rg K L)(hb:P.length+L.length+Q.length<=900000)(a b:Int)(g:a=(P.length:Int))(jR:b=((P.length+L.length:Nat):Int)) :
  ZbL (P++(L++Q)) a b K.c K.b K.s=some (P++(ZbR K L++Q)):=by
 subst g jR;have h:Zan (P.length:Int) 1=((P.length+1:Nat):Int):=by rw[Zcd (by omega) (by omega)];omega
 unfold ZbL;rw[h];cases hL:L with
 |nil=>
  unfold ZaI;rw[Zah,if_neg (by simp;omega)];simp[ZbR]
 |cons z Z=>
  rw[<-hL];have hl1:1<=L.length:=by rw[hL];simp
  have ay:∀(j k fu:Nat),L.length-k=j->1<=k->k<=L.length->j+1<=fu->ZaI (P.length:Int) ((P.length+L.length:Nat):Int) K.c K.b K.s fu ((P.length+k:Nat):Int) (P++(ZbR K (L.take k)++(L.drop k++Q)))=some (P++(ZbR K L++Q)):=by
   intro j;induction j with
   |zero=>
    intro k fu i d f n;obtain⟨fu,rfl⟩ : ∃x,fu=x+1:=⟨fu-1,by omega⟩;unfold ZaI;rw[Zah,if_neg (by omega),List.take_of_length_le (by omega),List.drop_eq_nil_of_le (by omega)];rfl
   |succ j ih=>
    intro k fu i d f n;obtain⟨fu,rfl⟩ : ∃x,fu=x+1:=⟨fu-1,by omega⟩;unfold ZaI;have il:=Zhc (K:=K) (L.take k);rw[List.length_take,Nat.min_eq_left f]at il;have o:Zan ((P.length+k:Nat):Int) 1=((P.length+(k+1):Nat):Int):=by rw[Zcd (by omega) (by omega)];omega
    rw[Zah,if_pos (by omega),Zex L 0 k (by omega)];have:=ZEx (K:=K) P (L.getD k 0) (e.get (by omega)) (L.drop (k+1)++Q) ((P.length+L.length:Nat):Int) ((P.length+k:Nat):Int) (ZaI (P.length:Int) ((P.length+L.length:Nat):Int) K.c K.b K.s fu) k (ZbR K (L.take k)) [] ((((P.length+k:Nat):Int)-(P.length:Int)).toNat+2) il (Zoi _) (Zql (e.take k)) (by simp) (by omega) (by simp[il];omega);simp only[List.nil_append,List.append_nil,List.cons_append]at this ⊢;rw[this,o,<-ZhK,ZbX L _ k (by omega),<-List.take_succ_eq_append_getElem (by omega)];exact ih (k+1) fu (by omega) (by omega) (by omega) (by omega)
  have d:ZbR K (L.take 1)=L.take 1:=by rw[hL];simp[ZbR,Zez]
  have:=ay (L.length-1) 1 ((((P.length+L.length:Nat):Int)-((P.length+1:Nat):Int)).toNat+2) rfl (Nat.le_refl _) hl1 (by omega);rw[d,<-List.append_assoc (L.take 1),List.take_append_drop]at this;exact this
theorem ZuI(i j:Nat)(h:i+j<=10000000):IntKind.wrap .i64 (Int.fdiv (IntKind.wrap .u64 (Zan (i:Int) (j:Int))) (2 ^ (min (1:Int).toNat (IntKind.bits .u64))))=(((i+j) / 2:Nat):Int):=by
 have b:Zan (i:Int) (j:Int)=((i+j:Nat):Int):=by rw[Zcd (by omega) (by omega)];omega
 have d:IntKind.wrap .u64 ((i+j:Nat):Int)=((i+j:Nat):Int):=by
  simp only[IntKind.wrap,IntKind.bits,IntKind.signed];simp;omega
 have e:(2:Int) ^ (min (1:Int).toNat (IntKind.bits .u64))=2:=rfl;rw[b,d,e,Int.fdiv_eq_ediv_of_nonneg _ (by omega),Zha (by omega) (by omega)];omega
theorem ZCY{K:Cx}{x y z:Int}(b:ltJ K z x=true)(d:ltJ K z y=false):ltJ K y x=true:=by
 cases h:ltJ K y x with
 |true=>rfl
 |false=>rw[ZmA d h]at b;cases b
theorem Zlt{K:Cx}{Y:Ins}(h:aY K Y){i j:Nat}(d:i<=j)(b:j<Y.length):ltJ K (Y.getD j 0) (Y.getD i 0)=false:=by
 by_cases e:i=j
 .rw[e];exact ZBw _
 .rw[ZbX Y _ j b,ZbX Y _ i (by omega)];exact List.pairwise_iff_getElem.1 h i j (by omega) b (by omega)
theorem Zsf{Y:Ins}{k:Nat}{y:Int}(h:y∈Y.take k):∃i,i<k/\i<Y.length/\y=Y.getD i 0:=by
 obtain⟨i,b,rfl⟩:=List.getElem_of_mem h;rw[List.length_take]at b;exact⟨i,by omega,by omega,by rw[ZbX Y _ i (by omega),List.getElem_take]⟩
theorem Zta{Y:Ins}{k:Nat}{y:Int}(h:y∈Y.drop k):∃i,k<=i/\i<Y.length/\y=Y.getD i 0:=by
 obtain⟨i,b,rfl⟩:=List.getElem_of_mem h;rw[List.length_drop]at b;exact⟨k+i,by omega,by omega,by rw[ZbX Y _ (k+i) (by omega),List.getElem_drop]⟩
theorem Zyy{P Y Q:Ins}{i k:Nat}(d:k=P.length+i)(b:i<Y.length):(P++(Y++Q)).getD k 0=Y.getD i 0:=by
 have:=Zex Y 0 i b;have e:P++(Y++Q)=(P++Y.take i)++Y.getD i 0 :: (Y.drop (i+1)++Q):=by
  rw[List.append_assoc,<-List.cons_append,<-this,<-List.append_assoc (Y.take i),List.take_append_drop]
 exact ZnD e (by simp;omega)
theorem mv1J{K:Cx}(P R:Ins)(x lC:Int)(k:Int->Int->Ins->Option Ins):∀(Y2 Y1:Ins)(fu:Nat),Y2.length+1<=fu->P.length+Y1.length+Y2.length+R.length<=900000 ->
  Zbl (P.length:Int) K.c K.b K.s ((P.length+Y1.length+Y2.length+1:Nat):Int) lC k fu ((P.length+Y1.length:Nat):Int) (P++(Y1++(x :: (Y2++R))))=some (P++(Y1++(Y2++(x :: R)))):=by
 intro Y2;induction Y2 with
 |nil=>
  intro Y1 fu d hb;obtain⟨fu,rfl⟩ : ∃x,fu=x+1:=⟨fu-1,by omega⟩;unfold Zbl;simp only[List.length_nil,Nat.add_zero];rw[Zah,if_neg (by rw[ZcI (by omega) (by omega)];omega)];rfl
 |cons y Y2 ih=>
  intro Y1 fu d hb;obtain⟨fu,rfl⟩ : ∃x,fu=x+1:=⟨fu-1,by omega⟩;simp only[List.length_cons]at d hb ⊢;have e:Zan ((P.length+Y1.length:Nat):Int) 1=((P.length+Y1.length+1:Nat):Int):=by rw[Zcd (by omega) (by omega)];omega
  have hl:(P++(Y1++(x :: (y :: Y2++R)))).length=P.length+Y1.length+Y2.length+R.length+2:=by simp;omega
  unfold Zbl;rw[Zah,if_pos (by rw[ZcI (by omega) (by omega)];omega),e,Zaq (by rw[hl];omega),Zaq (by rw[hl];omega)];simp only[Int.toNat_natCast];have f:(P++(Y1++(x :: (y :: Y2++R)))).getD (P.length+Y1.length+1) 0=y:=ZnD (L:=P++(Y1++[x])) (R:=Y2++R) (by simp) (by simp;omega);have g:(P++(Y1++(x :: (y :: Y2++R)))).getD (P.length+Y1.length) 0=x:=ZnD (L:=P++Y1) (R:=y :: (Y2++R)) (by simp) (by simp);have s1:(P++(Y1++(x :: (y :: Y2++R)))).set (P.length+Y1.length) y=P++(Y1++(y :: (y :: Y2++R))):=by
   rw[Zqe (L:=P++Y1) (x:=x) (R:=y :: (Y2++R)) (by simp) (by simp)];simp
  have s2:(P++(Y1++(y :: (y :: Y2++R)))).set (P.length+Y1.length+1) x=P++(Y1++(y :: (x :: (Y2++R)))):=by
   rw[Zqe (L:=P++(Y1++[y])) (x:=y) (R:=Y2++R) (by simp) (by simp;omega)];simp
  rw[f,g,s1,s2];have:=ih (Y1++[y]) fu (by omega) (by simp only[List.length_append,List.length_singleton];omega);simp only[List.length_append,List.length_singleton,List.append_assoc,List.singleton_append]at this;have x1:P.length+(Y1.length+1)+Y2.length+1=P.length+Y1.length+(Y2.length+1)+1:=by omega
  have x2:P.length+(Y1.length+1)=P.length+Y1.length+1:=by omega
  rw[x1,x2]at this;exact this
theorem bs1J{K:Cx}(P Y Q:Ins)(x:Int)(r:aY K Y)(hxR:InR K x)(t:Rg K Y)(hb:P.length+Y.length+Q.length<=800000):∀(s lo d fu:Nat),d-lo<=s->lo<=d->d<=Y.length->s+1<=fu->(∀y∈Y.take lo,ltJ K y x=true)->(∀y∈Y.drop d,ltJ K y x=false) ->
  ZaH (P.length:Int) K.c K.b K.s fu ((P.length+1+lo:Nat):Int) ((P.length+1+d:Nat):Int) (P++(x :: (Y++Q)))=some (P++(mrgJ K [x] Y++Q)):=by
 intro s;have fin:∀(lo d fu:Nat),lo=d->d<=Y.length->(∀y∈Y.take lo,ltJ K y x=true)->(∀y∈Y.drop d,ltJ K y x=false) ->
   ZaH (P.length:Int) K.c K.b K.s (fu+1) ((P.length+1+lo:Nat):Int) ((P.length+1+d:Nat):Int) (P++(x :: (Y++Q)))=some (P++(mrgJ K [x] Y++Q)):=by
  intro lo d fu e u n f;subst e;unfold ZaH;rw[Zah,if_neg (by omega)];have ho:=ZIx n f;rw[List.take_append_drop]at ho;have:=mv1J (K:=K) P (Y.drop lo++Q) x ((P.length+1+lo:Nat):Int) (ZaH (P.length:Int) K.c K.b K.s fu) (Y.take lo) [] 1000000 (by simp;omega) (by simp;omega);simp only[List.length_take,Nat.min_eq_left u,List.length_nil,Nat.add_zero,List.nil_append]at this;rw[<-List.append_assoc (Y.take lo),List.take_append_drop,show P.length+lo+1=P.length+1+lo by omega]at this;rw[this,ho];simp
 induction s with
 |zero=>
  intro lo d fu h0 n f v g h;obtain⟨fu,rfl⟩ : ∃x,fu=x+1:=⟨fu-1,by omega⟩;exact fin lo d fu (by omega) f g h
 |succ s ih=>
  intro lo d fu h0 n f v g h;obtain⟨fu,rfl⟩ : ∃x,fu=x+1:=⟨fu-1,by omega⟩;by_cases e:lo=d
  .exact fin lo d fu e f g h
  .have z:(P.length+1+lo+(P.length+1+d)) / 2=P.length+1+(lo+d) / 2:=by omega
   have o:(lo+d) / 2<Y.length:=by omega
   have hl:(P++(x :: (Y++Q))).length=P.length+1+Y.length+Q.length:=by simp;omega
   unfold ZaH;rw[Zah,if_pos (by omega),ZuI _ _ (by omega),z,Zaq (by rw[hl];omega),Zaq (by rw[hl];omega)];simp only[Int.toNat_natCast];have A:(P++(x :: (Y++Q))).getD (P.length+1+(lo+d) / 2) 0=Y.getD ((lo+d) / 2) 0:=by
    have:=Zyy (P:=P++[x]) (Y:=Y) (Q:=Q) (i:=(lo+d) / 2) (k:=P.length+1+(lo+d) / 2) (by simp) o;simpa using this
   rw[A,ZDm,ZuJ (t.get o) hxR,ZaA,Zah];have B:Zan ((P.length+1+(lo+d) / 2:Nat):Int) 1=((P.length+1+((lo+d) / 2+1):Nat):Int):=by rw[Zcd (by omega) (by omega)];omega
   by_cases j:cmpJ K (Y.getD ((lo+d) / 2) 0) x<0
   .rw[if_pos j,B];refine ih _ _ fu (by omega) (by omega) f (by omega) (fun y p=>?_) h;obtain⟨i,i1,i2,rfl⟩:=Zsf p;exact ZCY (ZrF.2 j) (Zlt r (by omega) o)
   .rw[if_neg j];refine ih _ _ fu (by omega) (by omega) (by omega) (by omega) g (fun y p=>?_);obtain⟨i,i1,i2,rfl⟩:=Zta p;exact ZmA (Zlt r i1 i2) (Zxp.2 j)
theorem mv2J{K:Cx}(P Q:Ins)(y e v15:Int)(k:Int->Int->Ins->Option Ins):∀(n:Nat)(T U:Ins)(fu:Nat),T.length=n->n+1<=fu->P.length+T.length+U.length+Q.length<=900000 ->
  Zbk e K.c K.b K.s (P.length:Int) v15 k fu ((P.length+n:Nat):Int) (P++(T++(y :: (U++Q))))=some (P++(y :: (T++(U++Q)))):=by
 intro n;induction n with
 |zero=>
  intro T U fu d f hb;obtain⟨fu,rfl⟩ : ∃x,fu=x+1:=⟨fu-1,by omega⟩;obtain rfl:=List.eq_nil_of_length_eq_zero d;unfold Zbk;rw[Zah,if_neg (by omega)];rfl
 |succ n ih=>
  intro T U fu d f hb;obtain⟨fu,rfl⟩ : ∃x,fu=x+1:=⟨fu-1,by omega⟩;obtain⟨T,s,rfl⟩:=ZJK T (by omega);have g:T.length=n:=by simpa using d
  simp only[List.length_append,List.length_singleton]at hb;have h:ZaJ ((P.length+(n+1):Nat):Int) 1=((P.length+n:Nat):Int):=by rw[ZcI (by omega) (by omega)];omega
  have hl:(P++(T++[s]++(y :: (U++Q)))).length=P.length+(n+1)+1+U.length+Q.length:=by simp;omega
  unfold Zbk;rw[Zah,if_pos (by omega),h,Zaq (by rw[hl];omega),Zaq (by rw[hl];omega)];simp only[Int.toNat_natCast];have i:(P++(T++[s]++(y :: (U++Q)))).getD (P.length+(n+1)) 0=y:=ZnD (L:=P++(T++[s])) (R:=U++Q) (by simp) (by simp;omega);have j:(P++(T++[s]++(y :: (U++Q)))).getD (P.length+n) 0=s:=ZnD (L:=P++T) (R:=y :: (U++Q)) (by simp) (by simp;omega);have s1:(P++(T++[s]++(y :: (U++Q)))).set (P.length+(n+1)) s=P++(T++(s :: (s :: (U++Q)))):=by
   rw[Zqe (L:=P++(T++[s])) (x:=y) (R:=U++Q) (by simp) (by simp;omega)];simp
  have s2:(P++(T++(s :: (s :: (U++Q))))).set (P.length+n) y=P++(T++(y :: (s :: U++Q))):=by
   rw[Zqe (L:=P++T) (x:=s) (R:=s :: (U++Q)) (by simp) (by simp;omega)];simp
  rw[i,j,s1,s2,ih T (s :: U) fu g (by omega) (by simp only[List.length_cons];omega)];simp
theorem bs2J{K:Cx}(P X Q:Ins)(y:Int)(p:aY K X)(hyR:InR K y)(r:Rg K X)(hb:P.length+X.length+Q.length<=800000):∀(s lo d fu:Nat),d-lo<=s->lo<=d->d<=X.length->s+1<=fu->(∀x∈X.take lo,ltJ K y x=false)->(∀x∈X.drop d,ltJ K y x=true) ->
  ZaG ((P.length+X.length:Nat):Int) K.c K.b K.s fu ((P.length+lo:Nat):Int) ((P.length+d:Nat):Int) (P++(X++(y :: Q)))=some (P++(mrgJ K X [y]++Q)):=by
 intro s;have fin:∀(lo d fu:Nat),lo=d->d<=X.length->(∀x∈X.take lo,ltJ K y x=false)->(∀x∈X.drop d,ltJ K y x=true) ->
   ZaG ((P.length+X.length:Nat):Int) K.c K.b K.s (fu+1) ((P.length+lo:Nat):Int) ((P.length+d:Nat):Int) (P++(X++(y :: Q)))=some (P++(mrgJ K X [y]++Q)):=by
  intro lo d fu e t n f;subst e;unfold ZaG;rw[Zah,if_neg (by omega)];have ho:=Zyp n f;rw[List.take_append_drop]at ho;have:=mv2J (K:=K) (P++X.take lo) Q y ((P.length+X.length:Nat):Int) ((P.length+lo:Nat):Int) (ZaG ((P.length+X.length:Nat):Int) K.c K.b K.s fu) (X.length-lo) (X.drop lo) [] ((((P.length+X.length:Nat):Int)-((P.length+lo:Nat):Int)).toNat+2) (by simp) (by omega) (by simp;omega);simp only[List.length_append,List.length_take,Nat.min_eq_left t,List.nil_append,List.append_assoc]at this;rw[<-List.append_assoc (X.take lo) (X.drop lo),List.take_append_drop,show P.length+lo+(X.length-lo)=P.length+X.length by omega]at this;rw[this,ho];simp
 induction s with
 |zero=>
  intro lo d fu h0 n f u g h;obtain⟨fu,rfl⟩ : ∃x,fu=x+1:=⟨fu-1,by omega⟩;exact fin lo d fu (by omega) f g h
 |succ s ih=>
  intro lo d fu h0 n f u g h;obtain⟨fu,rfl⟩ : ∃x,fu=x+1:=⟨fu-1,by omega⟩;by_cases e:lo=d
  .exact fin lo d fu e f g h
  .have v:(P.length+lo+(P.length+d)) / 2=P.length+(lo+d) / 2:=by omega
   have o:(lo+d) / 2<X.length:=by omega
   have hl:(P++(X++(y :: Q))).length=P.length+X.length+1+Q.length:=by simp;omega
   unfold ZaG;rw[Zah,if_pos (by omega),ZuI _ _ (by omega),v,Zaq (by rw[hl];omega),Zaq (by rw[hl];omega)];simp only[Int.toNat_natCast];have z:(P++(X++(y :: Q))).getD (P.length+(lo+d) / 2) 0=X.getD ((lo+d) / 2) 0:=Zyy rfl o;have A:(P++(X++(y :: Q))).getD (P.length+X.length) 0=y:=ZnD (L:=P++X) (R:=Q) (by simp) (by simp);rw[z,A,ZuJ hyR (r.get o),ZaA];have B:Zan ((P.length+(lo+d) / 2:Nat):Int) 1=((P.length+((lo+d) / 2+1):Nat):Int):=by rw[Zcd (by omega) (by omega)];omega
   by_cases j:cmpJ K y (X.getD ((lo+d) / 2) 0)<0
   .rw[decide_eq_true j,Bool.not_true,cond_false];refine ih _ _ fu (by omega) (by omega) (by omega) (by omega) g (fun x hx=>?_);obtain⟨i,i1,i2,rfl⟩:=Zta hx;exact ZBv (ZrF.2 j) (Zlt p i1 i2)
   .rw[decide_eq_false j,Bool.not_false,cond_true,B];refine ih _ _ fu (by omega) (by omega) f (by omega) (fun x hx=>?_) h;obtain⟨i,i1,i2,rfl⟩:=Zsf hx;exact ZmA (Zxp.2 j) (Zlt p (by omega) o)
def ip(K:Cx)(gr:Ins->Int->Int->Int->List Zaa->Int->Int->Option Ins)(N:Nat):Prop:=∀(P X Y Q:Ins),0<X.length->0<Y.length->aY K X->aY K Y->Rg K X->Rg K Y->X.length+Y.length<=N->P.length+X.length+Y.length+Q.length<=700000->gr (P++(X++(Y++Q))) (P.length:Int) ((P.length+X.length:Nat):Int) ((P.length+X.length+Y.length:Nat):Int) K.c K.b K.s=some (P++(mrgJ K X Y++Q))
theorem ZLk{K:Cx}{gr:Ins->Int->Int->Int->List Zaa->Int->Int->Option Ins}{N:Nat}(bi:ip K gr N)(P X Y Q:Ins)(hX:aY K X)(hY:aY K Y)(dE:Rg K X)(dF:Rg K Y)(hN:X.length+Y.length<=N)(hb:P.length+X.length+Y.length+Q.length<=700000)(d e jS v20 fG fH:Int)(k:Int->Int->Int->Ins->Option Ins) :
  Zbj d e ((P.length+X.length+Y.length:Nat):Int) K.c K.b K.s gr (P.length:Int) jS v20 fG fH ((P.length+X.length:Nat):Int) k (P++(X++(Y++Q)))=some (P++(mrgJ K X Y++Q)):=by
 unfold Zbj;rw[Zah,Zah];by_cases f:X.length=0
 .rw[if_neg (by omega)];obtain rfl:=List.eq_nil_of_length_eq_zero f;rw[Zez];rfl
 .rw[if_pos (by omega)];by_cases g:Y.length=0
  .rw[if_neg (by omega)];obtain rfl:=List.eq_nil_of_length_eq_zero g;rw[ZhG];rfl
  .rw[if_pos (by omega),bi P X Y Q (by omega) (by omega) hX hY dE dF hN hb];rfl
theorem ZLl{K:Cx}{gr:Ins->Int->Int->Int->List Zaa->Int->Int->Option Ins}{N:Nat}(bi:ip K gr N)(P X1 Y1 X2 Y2 Q:Ins)(hX1:aY K X1)(hY1:aY K Y1)(fg:aY K X2)(fh:aY K Y2)(hR1:Rg K X1)(hR2:Rg K Y1)(hR3:Rg K X2)(hR4:Rg K Y2)(hN1:X1.length+Y1.length<=N)(hN2:X2.length+Y2.length<=N)
  (hb:P.length+X1.length+Y1.length+X2.length+Y2.length+Q.length<=700000) (d jS fG fH:Int) (k:Int->Int->Int->Ins->Option Ins) :
  ZaU (P.length:Int) d ((P.length+X1.length+Y1.length+X2.length+Y2.length:Nat):Int) K.c K.b K.s gr ((P.length+X1.length+Y1.length:Nat):Int) jS ((P.length+X1.length:Nat):Int) fG fH k ((P.length+X1.length+Y1.length+X2.length:Nat):Int) (P++(X1++(Y1++(X2++(Y2++Q))))) =
   some (P++(mrgJ K X1 Y1++(mrgJ K X2 Y2++Q))):=by
 have e:=ZCV (K:=K) _ X1 Y1 (Nat.le_refl _);have next:Zbj (P.length:Int) d ((P.length+X1.length+Y1.length+X2.length+Y2.length:Nat):Int) K.c K.b K.s gr ((P.length+X1.length+Y1.length:Nat):Int) jS ((P.length+X1.length:Nat):Int) fG fH ((P.length+X1.length+Y1.length+X2.length:Nat):Int) k (P++(mrgJ K X1 Y1++(X2++(Y2++Q)))) =
   some (P++(mrgJ K X1 Y1++(mrgJ K X2 Y2++Q))):=by
  have:=ZLk bi (P++mrgJ K X1 Y1) X2 Y2 Q fg fh hR3 hR4 hN2 (by simp only[List.length_append,e];omega) (P.length:Int) d jS ((P.length+X1.length:Nat):Int) fG fH k;simp only[List.length_append,e,List.append_assoc]at this;rw[show P.length+(X1.length+Y1.length)=P.length+X1.length+Y1.length by omega]at this;exact this
 unfold ZaU;rw[Zah,Zah];by_cases f:X1.length=0
 .rw[if_neg (by omega)];obtain rfl:=List.eq_nil_of_length_eq_zero f;rw[Zez]at next ⊢
  exact next
 .rw[if_pos (by omega)];by_cases g:Y1.length=0
  .rw[if_neg (by omega)];obtain rfl:=List.eq_nil_of_length_eq_zero g;rw[ZhG]at next ⊢
   exact next
  .rw[if_pos (by omega),bi P X1 Y1 (X2++(Y2++Q)) (by omega) (by omega) hX1 hY1 hR1 hR2 hN1 (by simp only[List.length_append];omega),ZaA];exact next
theorem aY.take{K:Cx}{l:Ins}(h:aY K l)(k:Nat):aY K (l.take k):=List.Pairwise.sublist (List.take_sublist k l) h
theorem aY.drop{K:Cx}{l:Ins}(h:aY K l)(k:Nat):aY K (l.drop k):=List.Pairwise.sublist (List.drop_sublist k l) h
section
variable {K:Cx} {gr:Ins->Int->Int->Int->List Zaa->Int->Int->Option Ins} {N:Nat} (bi:ip K gr N) (P X Y Q:Ins) (hX:aY K X) (hY:aY K Y) (dE:Rg K X) (dF:Rg K Y) (fg:0 < X.length) (fh:0 < Y.length) (hN:X.length + Y.length<=N + 1) (hb:P.length + X.length + Y.length + Q.length<=700000)
 (mid s0 r0:Nat) (hmid:mid=(P.length+(P.length+X.length+Y.length)) / 2)
 (h0:(mid<P.length+X.length/\s0+(P.length+X.length+Y.length)=mid+(P.length+X.length)/\r0=mid)\/(P.length+X.length<=mid/\s0=P.length/\r0=P.length+X.length))
include bi hX hY dE dF fg fh hN hb hmid h0
def Zsp(K:Cx)(P X Y:Ins)(mid c:Nat):Bool:=ltJ K (Y.getD (mid-1-c) 0) (X.getD (c-P.length) 0)
theorem ZKC(st:Nat)(u:s0<=st)(v:st<=r0)(jC:∀c,s0<=c->c<st->Zsp K P X Y mid c=false)(dk:∀c,st<=c->c<r0->Zsp K P X Y mid c=true)(fG fH:Int)(k:Int->Int->Int->Ins->Option Ins) :
  (bif(decide ((st:Int)<((P.length+X.length:Nat):Int)))then
    bif(decide (((P.length+X.length:Nat):Int)<(ZaJ ((mid+(P.length+X.length):Nat):Int) (st:Int))))then
     (Zcp (P++(X++(Y++Q))) (st:Int) ((P.length+X.length:Nat):Int) (ZaJ ((mid+(P.length+X.length):Nat):Int) (st:Int)) K.c K.b K.s).bind fun x2=>
     ZaU (P.length:Int) ((P.length+X.length:Nat):Int) ((P.length+X.length+Y.length:Nat):Int) K.c K.b K.s gr (mid:Int) ((mid+(P.length+X.length):Nat):Int) (st:Int) fG fH k (ZaJ ((mid+(P.length+X.length):Nat):Int) (st:Int)) x2
    else
     ZaU (P.length:Int) ((P.length+X.length:Nat):Int) ((P.length+X.length+Y.length:Nat):Int) K.c K.b K.s gr (mid:Int) ((mid+(P.length+X.length):Nat):Int) (st:Int) fG fH k (ZaJ ((mid+(P.length+X.length):Nat):Int) (st:Int)) (P++(X++(Y++Q)))
   else
    ZaU (P.length:Int) ((P.length+X.length:Nat):Int) ((P.length+X.length+Y.length:Nat):Int) K.c K.b K.s gr (mid:Int) ((mid+(P.length+X.length):Nat):Int) (st:Int) fG fH k (ZaJ ((mid+(P.length+X.length):Nat):Int) (st:Int)) (P++(X++(Y++Q))))=some (P++(mrgJ K X Y++Q)):=by
 have z:P.length<=st:=by omega
 have hmm:st<=mid:=by omega
 have bL:st-P.length<=X.length:=by omega
 have hk2:mid-st<=Y.length:=by omega
 obtain⟨d,n⟩ : ∃d,st=P.length+d:=⟨st-P.length,by omega⟩;obtain⟨e,A⟩ : ∃e,mid=st+e:=⟨mid-st,by omega⟩;have ee:ZaJ ((mid+(P.length+X.length):Nat):Int) (st:Int)=((P.length+X.length+e:Nat):Int):=by rw[ZcI (by omega) (by omega)];omega
 have o:∀y∈Y.take e,∀x∈X.drop d,ltJ K y x=true:=by
  intro y f x hx;obtain⟨i,i1,i2,rfl⟩:=Zsf f;obtain⟨j,j1,j2,rfl⟩:=Zta hx;have h:=dk st (Nat.le_refl _) (by omega);unfold Zsp at h;rw[show mid-1-st=e-1 by omega,show st-P.length=d by omega]at h;exact ZBv (ZCY h (Zlt hY (by omega) (by omega))) (Zlt hX j1 j2)
 have p:∀x∈X.take d,∀y∈Y.drop e,ltJ K y x=false:=by
  intro x hx y f;obtain⟨i,i1,i2,rfl⟩:=Zsf hx;obtain⟨j,j1,j2,rfl⟩:=Zta f;have h:=jC (st-1) (by omega) (by omega);unfold Zsp at h;rw[show mid-1-(st-1)=e by omega,show st-1-P.length=d-1 by omega]at h;exact ZmA (ZmA (Zlt hY j1 j2) h) (Zlt hX (by omega) (by omega))
 have r:mrgJ K X Y=mrgJ K (X.take d) (Y.take e)++mrgJ K (X.drop d) (Y.drop e):=by
  have:=Zoh (K:=K) _ (X.take d) (X.drop d) (Y.take e) (Y.drop e) (Nat.le_refl _) o p;rwa [List.take_append_drop,List.take_append_drop]at this
 have l1:(X.take d).length=d:=by simp;omega
 have l2:(Y.take e).length=e:=by simp;omega
 have l3:(X.drop d).length=X.length-d:=by simp
 have l4:(Y.drop e).length=Y.length-e:=by simp
 have last:=ZLl bi P (X.take d) (Y.take e) (X.drop d) (Y.drop e) Q (hX.take _) (hY.take _) (hX.drop _) (hY.drop _) (dE.take _) (dF.take _) (dE.drop _) (dF.drop _) (by omega) (by omega) (by omega) ((P.length+X.length:Nat):Int) ((mid+(P.length+X.length):Nat):Int) fG fH k;rw[l1,l2,l3,l4,show P.length+d+e+(X.length-d)+(Y.length-e)=P.length+X.length+Y.length by omega,show P.length+d+e+(X.length-d)=P.length+X.length+e by omega,show P.length+d+e=mid by omega,<-n]at last;have g:P++(X++(Y++Q))=P++X.take d++(X.drop d++(Y.take e++(Y.drop e++Q))):=by
  rw[<-List.append_assoc (Y.take e),List.take_append_drop,List.append_assoc,<-List.append_assoc (X.take d),List.take_append_drop]
 have t:some (P++(mrgJ K (X.take d) (Y.take e)++(mrgJ K (X.drop d) (Y.drop e)++Q)))=some (P++(mrgJ K X Y++Q)):=by rw[r,List.append_assoc]
 rw[t]at last;rw[ee,Zah,Zah];by_cases B:d<X.length
 .rw[if_pos (by omega)];by_cases C:0<e
  .rw[if_pos (by omega),g,ZJN (P++X.take d) (X.drop d) (Y.take e) (Y.drop e++Q) (by omega) (by omega) (by simp only[List.length_append];omega) _ _ _ (by simp only[List.length_append];omega) (by simp only[List.length_append];omega) (by simp only[List.length_append];omega),ZaA];simp only[List.append_assoc]at last ⊢;exact last
  .obtain rfl:e=0:=by omega
   rw[if_neg (by omega),g];simp only[List.append_assoc,List.take_zero,List.nil_append]at last ⊢;exact last
 .rw[if_neg (by omega),g,show d=X.length by omega];rw[show d=X.length by omega]at last;simp only[List.append_assoc,List.drop_length,List.nil_append]at last ⊢;exact last
end
section
variable {K:Cx} {gr:Ins->Int->Int->Int->List Zaa->Int->Int->Option Ins} {N:Nat} (bi:ip K gr N) (P X Y Q:Ins) (hX:aY K X) (hY:aY K Y) (dE:Rg K X) (dF:Rg K Y) (fg:0 < X.length) (fh:0 < Y.length) (hN:X.length + Y.length<=N + 1) (hb:P.length + X.length + Y.length + Q.length<=700000)
 (mid s0 r0:Nat) (hmid:mid=(P.length+(P.length+X.length+Y.length)) / 2)
 (h0:(mid<P.length+X.length/\s0+(P.length+X.length+Y.length)=mid+(P.length+X.length)/\r0=mid)\/(P.length+X.length<=mid/\s0=P.length/\r0=P.length+X.length))
include bi hX hY dE dF fg fh hN hb hmid h0
omit bi hN hb dE dF in
theorem Zxl{c c':Nat}(b:s0<=c')(d:c'<=c)(e:c<r0)(h:Zsp K P X Y mid c=false):Zsp K P X Y mid c'=false:=by
 unfold Zsp at *
 exact ZmA (ZmA (Zlt hY (by omega) (by omega)) h) (Zlt hX (by omega) (by omega))
theorem ZDE:∀(s lo d fu:Nat),d-lo<=s->s0<=lo->lo<=d->d<=r0->s+1<=fu->(∀c,s0<=c->c<lo->Zsp K P X Y mid c=false)->(∀c,d<=c->c<r0->Zsp K P X Y mid c=true) ->
  ZaC (P.length:Int) ((P.length+X.length:Nat):Int) ((P.length+X.length+Y.length:Nat):Int) K.c K.b K.s gr (mid:Int) ((mid+(P.length+X.length):Nat):Int) fu (lo:Int) (d:Int) ((mid+(P.length+X.length)-1:Nat):Int) (P++(X++(Y++Q)))=some (P++(mrgJ K X Y++Q)):=by
 intro s;have fin:∀(lo fu:Nat),s0<=lo->lo<=r0->(∀c,s0<=c->c<lo->Zsp K P X Y mid c=false)->(∀c,lo<=c->c<r0->Zsp K P X Y mid c=true) ->
   ZaC (P.length:Int) ((P.length+X.length:Nat):Int) ((P.length+X.length+Y.length:Nat):Int) K.c K.b K.s gr (mid:Int) ((mid+(P.length+X.length):Nat):Int) (fu+1) (lo:Int) (lo:Int) ((mid+(P.length+X.length)-1:Nat):Int) (P++(X++(Y++Q)))=some (P++(mrgJ K X Y++Q)):=by
  intro lo fu f g r t;unfold ZaC;rw[Zah,if_neg (by omega)];exact ZKC bi P X Y Q hX hY dE dF fg fh hN hb mid s0 r0 hmid h0 lo f g r t _ _ _
 induction s with
 |zero=>
  intro lo d fu u h v j y f g;obtain⟨fu,rfl⟩ : ∃x,fu=x+1:=⟨fu-1,by omega⟩;obtain rfl:lo=d:=by omega
  exact fin lo fu h j f g
 |succ s ih=>
  intro lo d fu u h v j y f g;obtain⟨fu,rfl⟩ : ∃x,fu=x+1:=⟨fu-1,by omega⟩;by_cases e:lo=d
  .subst e;exact fin lo fu h j f g
  .have t1:(lo+d) / 2<r0:=by omega
   have t2:s0<=(lo+d) / 2:=by omega
   have ep:ZaJ ((mid+(P.length+X.length)-1:Nat):Int) (((lo+d) / 2:Nat):Int)=((P.length+X.length+(mid-1-(lo+d) / 2):Nat):Int):=by rw[ZcI (by omega) (by omega)];omega
   have hl:(P++(X++(Y++Q))).length=P.length+X.length+Y.length+Q.length:=by simp;omega
   have e1':Zan (((lo+d) / 2:Nat):Int) 1=(((lo+d) / 2+1:Nat):Int):=by rw[Zcd (by omega) (by omega)];omega
   unfold ZaC;rw[Zah,if_pos (by omega),ZuI _ _ (by omega),ep,Zaq (by rw[hl];omega),Zaq (by rw[hl];omega)];simp only[Int.toNat_natCast];have z:(P++(X++(Y++Q))).getD (P.length+X.length+(mid-1-(lo+d) / 2)) 0=Y.getD (mid-1-(lo+d) / 2) 0:=by
    have:=Zyy (P:=P++X) (Y:=Y) (Q:=Q) (i:=mid-1-(lo+d) / 2) (k:=P.length+X.length+(mid-1-(lo+d) / 2)) (by simp) (by omega);simpa using this
   have A:(P++(X++(Y++Q))).getD ((lo+d) / 2) 0=X.getD ((lo+d) / 2-P.length) 0:=Zyy (by omega) (by omega);rw[z,A,ZuJ (dF.get (by omega)) (dE.get (by omega)),ZaA,e1'];by_cases n:cmpJ K (Y.getD (mid-1-(lo+d) / 2) 0) (X.getD ((lo+d) / 2-P.length) 0)<0
   .have ok:Zsp K P X Y mid ((lo+d) / 2)=true:=ZrF.2 n;rw[decide_eq_true n,Bool.not_true,cond_false];refine ih lo _ fu (by omega) h (by omega) (by omega) (by omega) f (fun c o p=>?_);cases q:Zsp K P X Y mid c with
    |true=>rfl
    |false=>
     have:=Zxl P X Y hX hY fg fh mid s0 r0 hmid h0 t2 o p q;rw[ok]at this;cases this
   .have ok:Zsp K P X Y mid ((lo+d) / 2)=false:=Zxp.2 n;rw[decide_eq_false n,Bool.not_false,cond_true];exact ih _ d fu (by omega) (by omega) (by omega) j (by omega) (fun c o p=>Zxl P X Y hX hY fg fh mid s0 r0 hmid h0 o (by omega) t1 ok) g
end
theorem ZJi{K:Cx}{gr:Ins->Int->Int->Int->List Zaa->Int->Int->Option Ins}{N:Nat}(bi:ip K gr N):ip K (Zcu gr) (N+1):=by
 intro P X Y Q fg fh hX hY dE dF hN hb;unfold Zcu;have g:ZaJ ((P.length+X.length:Nat):Int) (P.length:Int)=(X.length:Int):=by rw[ZcI (by omega) (by omega)];omega
 have h:ZaJ ((P.length+X.length+Y.length:Nat):Int) ((P.length+X.length:Nat):Int)=(Y.length:Int):=by rw[ZcI (by omega) (by omega)];omega
 rw[g,h,ZgU,ZgU];by_cases e:X.length=1
 .rw[if_pos (by omega)];obtain⟨x,rfl⟩ : ∃x,X=[x]:=by
   cases X with
   |nil=>cases e
   |cons x X=>exact⟨x,by rw[List.eq_nil_of_length_eq_zero (show X.length=0 by simpa using e)]⟩
  have:=bs1J P Y Q x hY (dE x (by simp)) dF (by omega) Y.length 0 Y.length ((((P.length+[x].length+Y.length:Nat):Int)-((P.length+[x].length:Nat):Int)).toNat+2) (by omega) (by omega) (Nat.le_refl _) (by simp only[List.length_singleton];omega) (by simp) (by simp);exact this
 .rw[if_neg (by omega)];by_cases f:Y.length=1
  .rw[if_pos (by omega)];obtain⟨y,rfl⟩ : ∃y,Y=[y]:=by
    cases Y with
    |nil=>cases f
    |cons y Y=>exact⟨y,by rw[List.eq_nil_of_length_eq_zero (show Y.length=0 by simpa using f)]⟩
   have:=bs2J P X Q y hX (dF y (by simp)) dE (by omega) X.length 0 X.length ((((P.length+X.length:Nat):Int)-(P.length:Int)).toNat+2) (by omega) (by omega) (Nat.le_refl _) (by omega) (by simp) (by simp);exact this
  .rw[if_neg (by omega)];rw[ZuI _ _ (by omega)];obtain⟨mid,hmid⟩ : ∃mid,mid=(P.length+(P.length+X.length+Y.length)) / 2:=⟨_,rfl⟩;rw[<-hmid];have en:Zan (mid:Int) ((P.length+X.length:Nat):Int)=((mid+(P.length+X.length):Nat):Int):=by rw[Zcd (by omega) (by omega)];omega
   have ep:ZaJ ((mid+(P.length+X.length):Nat):Int) 1=((mid+(P.length+X.length)-1:Nat):Int):=by rw[ZcI (by omega) (by omega)];omega
   rw[en,Zah];by_cases i:mid<P.length+X.length
   .have es:ZaJ ((mid+(P.length+X.length):Nat):Int) ((P.length+X.length+Y.length:Nat):Int)=((mid+(P.length+X.length)-(P.length+X.length+Y.length):Nat):Int):=by rw[ZcI (by omega) (by omega)];omega
    rw[if_pos (by omega),es];unfold ZbS;rw[ep];exact ZDE bi P X Y Q hX hY dE dF fg fh hN hb mid (mid+(P.length+X.length)-(P.length+X.length+Y.length)) mid hmid (.inl ⟨i,by omega,rfl⟩) _ _ _ _ (Nat.le_refl _) (Nat.le_refl _) (by omega) (Nat.le_refl _) (by omega) (fun c b d=>by omega) (fun c b d=>by omega)
   .rw[if_neg (by omega)];unfold ZbS;rw[ep];exact ZDE bi P X Y Q hX hY dE dF fg fh hN hb mid P.length (P.length+X.length) hmid (.inr ⟨by omega,rfl,rfl⟩) _ _ _ _ (Nat.le_refl _) (Nat.le_refl _) (by omega) (Nat.le_refl _) (by omega) (fun c b d=>by omega) (fun c b d=>by omega)
theorem ZCt{K:Cx}:∀fu,ip K (Zbh fu) fu
 | 0=>fun P X Y Q b d _ _ _ _ e=>by omega
 |fu+1=>fun P X Y Q b d e f g h i j=>by
  unfold Zbh
  exact ZJi (ZCt fu) P X Y Q b d e f g h i j
inductive BlkJ (K:Cx) (B:Nat):Ins->Ins->Prop
 |last (L:Ins) (h:L.length<=B):BlkJ K B L (ZbR K L)
 |more (L D:Ins) (h:B<=L.length) (r:BlkJ K B (L.drop B) D):BlkJ K B L (ZbR K (L.take B)++D)
theorem BlkJ.len{K:Cx}{B:Nat}{L D:Ins}(h:BlkJ K B L D):D.length=L.length:=by
 induction h with
 |last L h=>exact Zhc L
 |more L D h r ih=>rw[List.length_append,Zhc,ih];simp;omega
theorem BlkJ.one{K:Cx}{B:Nat}(d:0<B){L D:Ins}(h:BlkJ K B L D)(hl:L.length<=B):D=ZbR K L:=by
 cases h with
 |last _ h=>rfl
 |more _ D h r=>
  have:L.length=B:=by omega
  have hd:L.drop B=[]:=List.drop_eq_nil_of_le (by omega);have b:=r.len;rw[hd]at b;rw[List.eq_nil_of_length_eq_zero b,List.take_of_length_le (by omega),List.append_nil]
theorem BlkJ.split{K:Cx}{B:Nat}{L D:Ins}(h:BlkJ K B L D)(hl:B<=L.length):∃D1,D=ZbR K (L.take B)++D1/\BlkJ K B (L.drop B) D1:=by
 cases h with
 |last _ h=>
  have e:L.length=B:=by omega
  refine⟨[],by rw[List.take_of_length_le (by omega),List.append_nil],?_⟩;rw[List.drop_eq_nil_of_le (by omega)];exact BlkJ.last [] (by simp)
 |more _ D h r=>exact⟨D,rfl,r⟩
theorem ZKN{K:Cx}(B:Nat)(n:0<B)(hB2:B<=800)(r:Int->Int->Int->Ins->Option Ins)(o:Int->Ins->Option Ins):∀(s:Nat)(L P D:Ins)(fu:Nat),L.length<2*B*(s+1)->s+1<=fu->P.length+L.length<=900->Rg K L->BlkJ K B L D ->
  ∃D',BlkJ K (2*B) L D'/\Zbe ((P.length+L.length:Nat):Int) K.c K.b K.s (B:Int) r o fu (P.length:Int) ((P.length+2*B:Nat):Int) (P++D)=o ((2*B:Nat):Int) (P++D'):=by
 intro s;induction s with
 |zero=>
  intro L P D fu p t hb d h;obtain⟨fu,rfl⟩ : ∃x,fu=x+1:=⟨fu-1,by omega⟩;have g:Zan (P.length:Int) (B:Int)=((P.length+B:Nat):Int):=by rw[Zcd (by omega) (by omega)];omega
  have u:ZiS (B:Int) 2=((2*B:Nat):Int):=by rw[ZuD (by omega) (by omega)];omega
  unfold Zbe;rw[Zah,if_neg (by omega),g,u,Zah];refine⟨ZbR K L,BlkJ.last L (by omega),?_⟩;by_cases C:B<L.length
  .obtain⟨D1,rfl,i⟩:=h.split (by omega);have e:=i.one n (by simp;omega);subst e;have l1:(ZbR K (L.take B)).length=B:=by rw[Zhc];simp;omega
   have l2:(ZbR K (L.drop B)).length=L.length-B:=by rw[Zhc];simp
   have f:=ZCt (K:=K) 1000 P (ZbR K (L.take B)) (ZbR K (L.drop B)) [] (by omega) (by omega) (Zoi _) (Zoi _) (Zql (d.take _)) (Zql (d.drop _)) (by omega) (by simp;omega);rw[l1,l2,show P.length+B+(L.length-B)=P.length+L.length by omega,<-Zsx,List.take_append_drop,List.append_nil,List.append_nil]at f;rw[if_pos (by omega),f,ZaA]
  .rw[if_neg (by omega),h.one n (by omega)]
 |succ s ih=>
  intro L P D fu p t hb d h;rw[Nat.mul_succ]at p;by_cases v:2*B<=L.length
  .obtain⟨fu,rfl⟩ : ∃x,fu=x+1:=⟨fu-1,by omega⟩;have g:Zan (P.length:Int) (B:Int)=((P.length+B:Nat):Int):=by rw[Zcd (by omega) (by omega)];omega
   have y:ZiS (2:Int) (B:Int)=((2*B:Nat):Int):=by rw[ZuD (by omega) (by omega)];omega
   have z:Zan ((P.length+2*B:Nat):Int) ((2*B:Nat):Int)=((P.length+2*B+2*B:Nat):Int):=by rw[Zcd (by omega) (by omega)];omega
   unfold Zbe;rw[Zah,g,y,z];obtain⟨D1,rfl,i⟩:=h.split (by omega);obtain⟨D2,rfl,j⟩:=i.split (by simp;omega);have l1:(ZbR K (L.take B)).length=B:=by rw[Zhc];simp;omega
   have l2:(ZbR K ((L.drop B).take B)).length=B:=by rw[Zhc];simp;omega
   have lD:=j.len;simp only[List.length_drop]at lD;have f:=ZCt (K:=K) 1000 P (ZbR K (L.take B)) (ZbR K ((L.drop B).take B)) D2 (by omega) (by omega) (Zoi _) (Zoi _) (Zql (d.take _)) (Zql ((d.drop _).take _)) (by omega) (by omega);rw[l1,l2,show P.length+B+B=P.length+2*B by omega,<-Zsx]at f;have et:L.take B++(L.drop B).take B=L.take (2*B):=by rw[show 2*B=B+B by omega,List.take_add]
   have ed:(L.drop B).drop B=L.drop (2*B):=by rw[List.drop_drop];congr 1;omega
   rw[et]at f;rw[ed]at j;rw[if_pos (by omega),f,ZaA];have lt:(ZbR K (L.take (2*B))).length=2*B:=by rw[Zhc];simp;omega
   obtain⟨D',d1,d2⟩:=ih (L.drop (2*B)) (P++ZbR K (L.take (2*B))) D2 fu (by rw[List.length_drop];omega) (by omega) (by simp only[List.length_append,lt,List.length_drop];omega) (d.drop _) j;refine⟨ZbR K (L.take (2*B))++D',BlkJ.more L D' v d1,?_⟩;simp only[List.length_append,lt,List.length_drop,List.append_assoc]at d2;rw[show P.length+2*B+(L.length-2*B)=P.length+L.length by omega]at d2;exact d2
  .obtain⟨fu,rfl⟩ : ∃x,fu=x+1:=⟨fu-1,by omega⟩;have A:L.length<2*B*(s+1):=by
    have:2*B<=2*B*(s+1):=Nat.le_mul_of_pos_right _ (by omega);omega
   exact ih L P D (fu+1) A (by omega) hb d h
theorem ZKO{K:Cx}(v7 v8:Int)(d:Int->Int->Int->Ins->Option Ins)(L:Ins)(hL:L.length<=800)(f:Rg K L):∀(s B:Nat)(D:Ins)(fu:Nat),L.length-B<=s->0<B->B<=1600->s+1<=fu->BlkJ K B L D ->
  ZaQ (L.length:Int) K.c K.b K.s v7 v8 d fu (B:Int) D=some (ZbR K L):=by
 intro s;induction s with
 |zero=>
  intro B D fu g e hB2 i h;obtain⟨fu,rfl⟩ : ∃x,fu=x+1:=⟨fu-1,by omega⟩;unfold ZaQ;rw[Zah,if_neg (by omega),h.one e (by omega)]
 |succ s ih=>
  intro B D fu g e hB2 i h;obtain⟨fu,rfl⟩ : ∃x,fu=x+1:=⟨fu-1,by omega⟩;unfold ZaQ;rw[Zah];by_cases p:B<L.length
  .have j:ZiS (2:Int) (B:Int)=((2*B:Nat):Int):=by rw[ZuD (by omega) (by omega)];omega
   rw[if_pos (by omega),j];have n:L.length / (2*B)+1<=(((L.length:Nat):Int)-((2*B:Nat):Int)).toNat+2:=by
    by_cases o:L.length<2*B
    .rw[Nat.div_eq_of_lt o];omega
    .rw[Nat.div_eq_sub_div (by omega) (by omega)];have:=Nat.div_le_self (L.length-2*B) (2*B);omega
   obtain⟨D',d1,d2⟩:=ZKN B e (by omega) d (ZaQ (L.length:Int) K.c K.b K.s v7 v8 d fu) (L.length / (2*B)) L [] D _ (Nat.lt_mul_div_succ _ (by omega)) n (by simp;omega) f h;simp only[List.length_nil,Nat.zero_add,List.nil_append]at d2;have d2':Zbe (L.length:Int) K.c K.b K.s (B:Int) d (ZaQ (L.length:Int) K.c K.b K.s v7 v8 d fu) ((((L.length:Nat):Int)-((2*B:Nat):Int)).toNat+2) 0 ((2*B:Nat):Int) D=_:=d2;rw[d2'];exact ih (2*B) D' fu (by omega) (by omega) (by omega) (by omega) d1
  .rw[if_neg (by omega),h.one e (by omega)]
theorem ZKP{K:Cx}(A:Ins)(g:A.length<=800)(h:Rg K A):∀(s:Nat)(L P:Ins)(fu:Nat),L.length<20*(s+1)->s+1<=fu->P.length+L.length=A.length->Rg K L->(∀D,BlkJ K 20 L D->BlkJ K 20 A (P++D)) ->
  ZaL (A.length:Int) K.c K.b K.s fu 20 (P.length:Int) ((P.length+20:Nat):Int) (P++L)=some (ZbR K A):=by
 intro s;have fin:∀(L P:Ins)(fu:Nat),L.length<20->P.length+L.length=A.length->Rg K L->(∀D,BlkJ K 20 L D->BlkJ K 20 A (P++D)) ->
   ZaL (A.length:Int) K.c K.b K.s (fu+1) 20 (P.length:Int) ((P.length+20:Nat):Int) (P++L)=some (ZbR K A):=by
  intro L P fu f hl iq d;unfold ZaL;have e:=ZGw (K:=K) P L [] iq (by simp;omega) (P.length:Int) (A.length:Int) rfl (by omega);simp only[List.append_nil]at e;rw[Zah,if_neg (by omega),e,ZaA];exact ZKO _ _ _ A g h (A.length-20) 20 _ _ (Nat.le_refl _) (by omega) (by omega) (by omega) (d _ (BlkJ.last L (by omega)))
 induction s with
 |zero=>
  intro L P fu f i hl iq d;obtain⟨fu,rfl⟩ : ∃x,fu=x+1:=⟨fu-1,by omega⟩;exact fin L P fu (by omega) hl iq d
 |succ s ih=>
  intro L P fu f i hl iq d;obtain⟨fu,rfl⟩ : ∃x,fu=x+1:=⟨fu-1,by omega⟩;by_cases j:L.length<20
  .exact fin L P fu j hl iq d
  .unfold ZaL;have lt:(L.take 20).length=20:=by simp;omega
   have e:=ZGw (K:=K) P (L.take 20) (L.drop 20) (iq.take _) (by simp;omega) (P.length:Int) ((P.length+20:Nat):Int) rfl (by rw[lt]);rw[List.take_append_drop]at e;have n:Zan ((P.length+20:Nat):Int) 20=((P.length+20+20:Nat):Int):=by rw[Zcd (by omega) (by omega)];omega
   rw[Zah,if_pos (by omega),e,ZaA,n];have li:(ZbR K (L.take 20)).length=20:=by rw[Zhc,lt]
   have:=ih (L.drop 20) (P++ZbR K (L.take 20)) fu (by rw[List.length_drop];omega) (by omega) (by simp only[List.length_append,li,List.length_drop];omega) (iq.drop _) (fun D o=>by
    have:=d _ (BlkJ.more L D (by omega) o);rwa [<-List.append_assoc]at this)
   simp only[List.length_append,li,List.append_assoc]at this;exact this
theorem Zzh{K:Cx}(A:Ins)(e:A.length<=800)(d:Rg K A):Zcj A K.c K.b K.s=some (ZbR K A):=by
 unfold Zcj ZdW;have f:A.length / 20+1<=(((A.length:Nat):Int)-(20:Int)).toNat+2:=by omega
 have:=ZKP (K:=K) A e d (A.length / 20) A [] ((((A.length:Nat):Int)-(20:Int)).toNat+2) (by omega) f (by simp) d (fun D h=>h);simp only[List.length_nil,Nat.zero_add,List.nil_append]at this;have fe:ZaL (A.length:Int) K.c K.b K.s ((((A.length:Nat):Int)-(20:Int)).toNat+2) 20 0 20 A=some (ZbR K A):=this;rw[fe];rfl
def bstJ(K:Cx):Int->Ins->Int|b,[]=>b|b,y :: r=>if ltJ K y b=true then bstJ K y r else bstJ K b r
theorem ZyO{K:Cx}(y:Int):∀(l:Ins)(b:Int),bstJ K b (l++[y])=if ltJ K y (bstJ K b l)=true then y else bstJ K b l
 | [],b=>rfl
 |x :: r,b=>by
  simp only[List.cons_append,bstJ]
  split
  .exact ZyO y r x
  .exact ZyO y r b
theorem Zwp{K:Cx}:∀(l:Ins)(b:Int),bstJ K b l∈b :: l
 | [],b=>by simp[bstJ]
 |x :: r,b=>by
  simp only[bstJ]
  split
  .exact List.mem_cons_of_mem _ (Zwp r x)
  .rcases List.mem_cons.1 (Zwp (K:=K) r b)with h|h
   .rw[h];simp
   .exact List.mem_cons_of_mem _ (List.mem_cons_of_mem _ h)
theorem ZKn{l:Ins}{y:Int}(h:y ∉ l):l.filter (fun x=>x != y)=l:=List.filter_eq_self.2 fun x hx=>by
 rw[bne_iff_ne];rintro rfl;exact h hx
theorem ZEw{K:Cx}(b:Int)(l:Ins)(g:(b :: l).Nodup):ZbR K (b :: l)=bstJ K b l :: ZbR K ((b :: l).filter fun x=>x != bstJ K b l):=by
 have ay:∀n,n<=l.length->ZbR K (b :: l.take n)=bstJ K b (l.take n) :: ZbR K ((b :: l.take n).filter fun x=>x != bstJ K b (l.take n)):=by
  intro n;induction n with
  |zero=>intro _;simp[ZbR,bstJ,Zez]
  |succ n ih=>
   intro h;have d:l.take (n+1)=l.take n++[l[n]]:=List.take_succ_eq_append_getElem (show n<l.length by omega);have hn2:(b :: l.take n++[l[n]]).Nodup:=by
    have:(b :: l.take (n+1)).Nodup:=g.sublist (List.Sublist.cons_cons _ (List.take_sublist _ _));rw[d]at this;exact this
   have bF:l[n] ∉ b :: l.take n:=fun f=>(List.nodup_append.1 hn2).2.2 _ f _ (by simp) rfl;have e:b :: l.take (n+1)=(b :: l.take n)++[l[n]]:=by rw[d];rfl
   have f:=Zwp (K:=K) (l.take n) b;rw[e,ZhK,ih (by omega),d,ZyO];cases hlt:ltJ K l[n] (bstJ K b (l.take n))with
   |true=>
    rw[if_pos rfl,Zih _ _ hlt,ZhG,<-ih (by omega),List.filter_append,ZKn bF];simp
   |false=>
    have hne:l[n]≠bstJ K b (l.take n):=fun h=>bF (h ▸ f);rw[if_neg (by decide),ZiT _ _ hlt,List.filter_append,<-ZhK];congr 2;simp[hne]
 have:=ay l.length (Nat.le_refl _);rwa [List.take_length]at this
def selN(K:Cx):Nat->Ins->Ins|0,_=>[]|_+1,[]=>[]|n+1,b :: l=>bstJ K b l :: selN K n ((b :: l).filter fun x=>x != bstJ K b l)
theorem Zuw{K:Cx}:∀(n:Nat)(L:Ins),L.Nodup->selN K n L=(ZbR K L).take n
 | 0,_,_=>by simp[selN]
 |n+1,[],_=>by simp[selN,ZbR]
 |n+1,b :: l,h=>by
  rw[selN,ZEw b l h,List.take_succ_cons,Zuw n _ (h.sublist List.filter_sublist)]
theorem ZKb{K K':Cx}(f:Int->Int):∀(n:Nat)(a b:Ins),a.length+b.length<=n->(∀x∈a,∀y∈b,ltJ K' (f y) (f x)=ltJ K y x)->mrgJ K' (a.map f) (b.map f)=(mrgJ K a b).map f:=by
 intro n;induction n with
 |zero=>
  intro a b h _;obtain rfl:=List.eq_nil_of_length_eq_zero (show a.length=0 by omega);simp[Zez]
 |succ n ih=>
  intro a b h g;cases a with
  |nil=>simp[Zez]
  |cons x a=>
   cases b with
   |nil=>simp[ZhG]
   |cons y b=>
    simp only[List.length_cons]at h;have e:=g x (by simp) y (by simp);simp only[List.map_cons];cases d:ltJ K y x with
    |true=>
     rw[d]at e;have:=ih (x :: a) b (by simp only[List.length_cons];omega) fun x' hx y' i=>g x' hx y' (by simp[i]);simp only[List.map_cons]at this;rw[Zih _ _ e,Zih _ _ d,List.map_cons,this]
    |false=>
     rw[d]at e;have:=ih a (y :: b) (by simp only[List.length_cons];omega) fun x' hx y' i=>g x' (by simp[hx]) y' i;simp only[List.map_cons]at this;rw[ZiT _ _ e,ZiT _ _ d,List.map_cons,this]
theorem ZvA{K:Cx}(l:Ins):∀x∈ZbR K l,x∈l:=by
 have:∀n,n<=l.length->∀x∈ZbR K (l.take n),x∈l.take n:=by
  intro n;induction n with
  |zero=>intro _;simp[ZbR]
  |succ n ih=>
   intro h;rw[List.take_succ_eq_append_getElem (show n<l.length by omega),ZhK];intro x hx;rcases ZuE _ _ _ (Nat.le_refl _) x hx with q|q
   .exact List.mem_append.2 (.inl (ih (by omega) x q))
   .exact List.mem_append.2 (.inr q)
 have h:=this l.length (Nat.le_refl _);rwa [List.take_length]at h
theorem ZGu{K K':Cx}(f:Int->Int)(C:Ins)(b:∀x∈C,∀y∈C,ltJ K' (f y) (f x)=ltJ K y x):ZbR K' (C.map f)=(ZbR K C).map f:=by
 have:∀n,n<=C.length->ZbR K' ((C.take n).map f)=(ZbR K (C.take n)).map f:=by
  intro n;induction n with
  |zero=>intro _;simp[ZbR]
  |succ n ih=>
   intro h;rw[List.take_succ_eq_append_getElem (show n<C.length by omega),ZhK,List.map_append,List.map_singleton,ZhK,ih (by omega)];have:=ZKb (K:=K) (K':=K') f _ (ZbR K (C.take n)) [C[n]] (Nat.le_refl _) fun x hx y d=>b x (List.mem_of_mem_take (ZvA _ x hx)) y (by rw[List.mem_singleton.1 d];exact List.getElem_mem _);simpa using this
 have h:=this C.length (Nat.le_refl _);rwa [List.take_length]at h
def gP(l:List Zaa)(i:Int):Zaa:=l.getD i.toNat Zaa.d
def okPs(l:List Zaa):Prop:=∀p∈l,p.fEnd.fAddr.ok
def cntB(b:Int)(p:Zaa):Bool:=if b=1 then true else if b=4 then true else if b=2 then decide (p.fPing>0)else if b=3 then decide (p.fWork>0)else false
def upto(n:Nat):Ins:=(List.range n).map fun(i:Nat)=>(i:Int)
def Zge(l:List Zaa)(b:Int)(at_:Ins):Ins:=at_.filter fun i=>cntB b (gP l i)
def inL(l:List Zaa)(at_:Ins):Prop:=∀i∈at_,0<=i/\i<((l.length:Nat):Int)
theorem ZBk(p:Zaa)(b:Int):Zkz p b=some (cntB b p):=by
 unfold Zkz ZiA cntB;simp only[ZgU];by_cases d:b=1
 .subst d;simp
 .by_cases e:b=4
  .subst e;simp
  .have h:(b==(1:Int))=false:=beq_false_of_ne d;have i:(b==(4:Int))=false:=beq_false_of_ne e;simp only[if_neg d,if_neg e,h,i,cond_false];by_cases f:b=2
   .simp only[if_pos f]
   .by_cases g:b=3
    .simp only[if_neg f,if_pos g]
    .simp only[if_neg f,if_neg g]
theorem Ztm(p:Zaa)(b:Int):ZdB p b=some (cntB b p):=by
 unfold ZdB cntB;simp only[ZgU];by_cases d:b=1
 .simp only[if_pos d]
 .by_cases e:b=4
  .simp only[if_neg d,if_pos e]
  .by_cases f:b=2
   .subst f;simp only[Zah];by_cases g:p.fPing>0
    .simp[g]
    .simp[g]
   .by_cases h:b=3
    .simp only[if_neg d,if_neg e,if_neg f,if_pos h]
    .simp only[if_neg d,if_neg e,if_neg f,if_neg h]
theorem Zsd(n:Nat):upto (n+1)=upto n++[(n:Int)]:=by simp[upto,List.range_succ]
theorem Zns(n:Nat):(upto n).length=n:=by simp[upto]
theorem Zjl{n:Nat}{x:Int}:x∈upto n↔0<=x/\x<(n:Int):=by
 simp only[upto,List.mem_map,List.mem_range];constructor
 .rintro ⟨a,h,rfl⟩;omega
 .rintro ⟨b,d⟩;exact⟨x.toNat,by omega,by omega⟩
theorem Zms(n:Nat):(upto n).Nodup:=by
 induction n with
 |zero=>simp[upto]
 |succ n ih=>
  rw[Zsd,List.nodup_append];refine⟨ih,by simp,fun a d b hb=>?_⟩;rw[List.mem_singleton.1 hb];have:=Zjl.1 d;omega
theorem ZDC(l:List Zaa)(b:Int)(X Y:Ins):Zge l b (X++Y)=Zge l b X++Zge l b Y:=List.filter_append ..
theorem ZuP(l:List Zaa)(b:Int)(X:Ins):(Zge l b X).length<=X.length:=List.length_filter_le ..
theorem rg_of{l:List Zaa}{b s:Int}{at_:Ins}(ho:okPs l)(h:inL l at_):Rg ⟨l,b,s⟩ at_:=fun x hx=>by
 obtain⟨d,e⟩:=h x hx
 refine⟨⟨d,e⟩,?_⟩
 rw[ZbX l _ x.toNat (by omega)]
 exact ho _ (List.getElem_mem _)
theorem ZDR{S:Ins}{m n:Int}(d:(S.length:Int)=m):S.take ((if m<(if(0:Int)>n then 0 else n)then m else(if(0:Int)>n then 0 else n)).toNat)=S.take n.toNat:=by
 by_cases h0:(0:Int)>n
 .rw[if_pos h0];rw[if_neg (by omega)];congr 1;omega
 .rw[if_neg h0];by_cases b:m<n
  .rw[if_pos b,List.take_of_length_le (by omega),List.take_of_length_le (by omega)]
  .rw[if_neg b]
theorem ZEh(l:List Zaa)(b n s:Int)(hl:l.length<=800)(ho:okPs l):Zes l b n s=some ((ZbR ⟨l,b,s⟩ (Zge l b (upto l.length))).take n.toNat):=by
 have ay:∀(k i fu:Nat),l.length-i=k->i<=l.length->k+1<=fu->ZeG n fu l (l.length:Int) (i:Int) (Zge l b (upto i)) l b s=some ((ZbR ⟨l,b,s⟩ (Zge l b (upto l.length))).take n.toNat):=by
  intro k;induction k with
  |zero=>
   intro i fu g h j;obtain⟨fu,rfl⟩ : ∃x,fu=x+1:=⟨fu-1,by omega⟩;obtain rfl:i=l.length:=by omega
   unfold ZeG;have f:=ZuP l b (upto l.length);rw[Zns]at f;have hin:inL l (Zge l b (upto l.length)):=fun x hx=>Zjl.1 (List.mem_filter.1 hx).1;have e:=Zzh (K:=⟨l,b,s⟩) (Zge l b (upto l.length)) (by omega) (rg_of ho hin);dsimp only at e;have o:=Zhc (K:=⟨l,b,s⟩) (Zge l b (upto l.length));rw[Zah,if_neg (by omega),e,ZaA,Zaq (by refine⟨by omega,?_,?_⟩<;>(repeat' split)<;>omega),Zaq (by (repeat' split)<;>omega),ZDR (by rw[o])]
  |succ k ih=>
   intro i fu g h j;obtain⟨fu,rfl⟩ : ∃x,fu=x+1:=⟨fu-1,by omega⟩;unfold ZeG;have f:=ZuP l b (upto i);rw[Zns]at f;have p:Zan (i:Int) 1=((i+1:Nat):Int):=add1 (n:=i+1) (by omega) (by simp only[maxLen];omega);rw[Zah,if_pos (by omega),Zaq (by omega),ZBk,ZaA,p];have aV:=ih (i+1) fu (by omega) (by omega) (by omega);rw[Zsd,ZDC]at aV;cases hb:cntB b (l.getD ((i:Int)).toNat Zaa.d)with
   |true=>
    have:Zge l b [(i:Int)]=[(i:Int)]:=by simp only[Zge,gP,List.filter_cons,hb,if_true,List.filter_nil]
    rw[this]at aV;rw[cond_true,Zaq (by simp only[List.length_append,List.length_singleton,maxLen];omega)];exact aV
   |false=>
    have:Zge l b [(i:Int)]=[]:=by simp only[Zge,gP,List.filter_cons,hb,Bool.false_eq_true,if_false,List.filter_nil]
    rw[this,List.append_nil]at aV;rw[cond_false];exact aV
 have:=ay l.length 0 _ (by omega) (by omega) (Nat.le_refl _);unfold Zes;exact ay l.length 0 _ (by omega) (by omega) (by omega)
theorem ZBb(l:List Zaa)(at_:Ins)(hl:at_.length<=800)(b:inL l at_):ZdM l at_=some (at_.map (gP l)):=by
 have ay:∀(k i fu:Nat),at_.length-i=k->i<=at_.length->k+1<=fu->Zfc l fu at_ (at_.length:Int) (i:Int) ((at_.take i).map (gP l))=some (at_.map (gP l)):=by
  intro k;induction k with
  |zero=>
   intro i fu d e f;obtain⟨fu,rfl⟩ : ∃x,fu=x+1:=⟨fu-1,by omega⟩;unfold Zfc;rw[Zah,if_neg (by omega),List.take_of_length_le (by omega)]
  |succ k ih=>
   intro i fu d e f;obtain⟨fu,rfl⟩ : ∃x,fu=x+1:=⟨fu-1,by omega⟩;unfold Zfc;have g:Zan (i:Int) 1=((i+1:Nat):Int):=add1 (n:=i+1) (by omega) (by simp only[maxLen];omega);have a8:i<at_.length:=by omega
   have h:=b _ (List.getElem_mem a8);have j:at_.getD ((i:Int)).toNat 0=at_[i]:=ZbX at_ 0 i a8;have hlt:((at_.take i).map (gP l)).length=i:=by simp;omega
   rw[Zah,if_pos (by omega),Zaq (by omega),j,Zaq h,Zaq (by simp only[List.length_append,hlt,List.length_singleton,maxLen];omega),g];have:=ih (i+1) fu (by omega) (by omega) (by omega);rw[List.take_succ_eq_append_getElem a8,List.map_append,List.map_singleton]at this;exact this
 unfold ZdM;rw[Zaq (by omega)];exact ay at_.length 0 _ (by omega) (by omega) (by omega)
def ZwE(at_ aW:Ins)(i:Nat):Ins:=((List.range i).filter fun(j:Nat)=>!decide ((j:Int)∈aW)).map fun(j:Nat)=>at_.getD j 0
theorem ZBd(at_ aW:Ins)(hl:at_.length<=800)(u:aW.length<=800)(p:∀k∈aW,0<=k/\k<((at_.length:Nat):Int)):ZeF at_ aW=some (ZwE at_ aW at_.length):=by
 have fi:∀(a b:Int)(v w:Ins)(kk:Ins->Int->Int->Ins->List Bool->Option Ins)(fl:List Bool),fl.length=at_.length->(∀i,i<at_.length->fl.getD i false=decide ((i:Int)∈aW))->∀(k i fu:Nat),at_.length-i=k->i<=at_.length->k+1<=fu ->
   Zen at_ v a b w kk fu at_ (at_.length:Int) (i:Int) (ZwE at_ aW i) fl=some (ZwE at_ aW at_.length):=by
  intro a b v w kk fl fw cM k;induction k with
  |zero=>
   intro i fu d e f;obtain⟨fu,rfl⟩ : ∃x,fu=x+1:=⟨fu-1,by omega⟩;obtain rfl:i=at_.length:=by omega
   unfold Zen;rw[Zah,if_neg (by omega)]
  |succ k ih=>
   intro i fu d e f;obtain⟨fu,rfl⟩ : ∃x,fu=x+1:=⟨fu-1,by omega⟩;unfold Zen;have g:Zan (i:Int) 1=((i+1:Nat):Int):=add1 (n:=i+1) (by omega) (by simp only[maxLen];omega);have hk2:(ZwE at_ aW i).length<=i:=by
    unfold ZwE;rw[List.length_map];have:=List.length_filter_le (fun j:Nat=>!decide ((j:Int)∈aW)) (List.range i);rw[List.length_range]at this;exact this
   have aV:=ih (i+1) fu (by omega) (by omega) (by omega);have hfi:fl.getD ((i:Int)).toNat false=decide ((i:Int)∈aW):=cM i (by omega);rw[Zah,if_pos (by omega),Zaq (by omega),Zaq (by rw[fw];omega),hfi,g];have r:ZwE at_ aW (i+1)=ZwE at_ aW i++(if(i:Int)∈aW then[]else[at_.getD i 0]):=by
    unfold ZwE;rw[List.range_succ,List.filter_append,List.map_append];congr 1;by_cases h:(i:Int)∈aW<;>simp[h]
   rw[r]at aV;by_cases h:(i:Int)∈aW
   .rw[if_pos h,List.append_nil]at aV;rw[decide_eq_true h,Bool.not_true,cond_false];exact aV
   .rw[if_neg h]at aV;rw[decide_eq_false h,Bool.not_false,cond_true,Zaq (by simp only[List.length_append,List.length_singleton,maxLen];omega)];exact aV
 have fj:∀(k i fu:Nat)(fl:List Bool),aW.length-i=k->i<=aW.length->k+1<=fu->fl.length=at_.length->(∀j,j<at_.length->fl.getD j false=decide ((j:Int)∈aW.take i)) ->
   ZdG at_ fu aW (aW.length:Int) (i:Int) [] fl=some (ZwE at_ aW at_.length):=by
  intro k;induction k with
  |zero=>
   intro i fu fl d e f fw cM;obtain⟨fu,rfl⟩ : ∃x,fu=x+1:=⟨fu-1,by omega⟩;unfold ZdG;rw[Zah,if_neg (by omega)];rw[List.take_of_length_le (by omega)]at cM;exact fi _ _ _ _ _ fl fw cM at_.length 0 _ (by omega) (by omega) (by omega)
  |succ k ih=>
   intro i fu fl d e f fw cM;obtain⟨fu,rfl⟩ : ∃x,fu=x+1:=⟨fu-1,by omega⟩;unfold ZdG;have g:Zan (i:Int) 1=((i+1:Nat):Int):=add1 (n:=i+1) (by omega) (by simp only[maxLen];omega);have a8:i<aW.length:=by omega
   have t:=p _ (List.getElem_mem a8);have bW:aW.getD ((i:Int)).toNat 0=aW[i]:=ZbX aW 0 i a8;rw[Zah,if_pos (by omega),Zaq (by omega),bW,Zaq (by rw[fw];exact t),g];refine ih (i+1) fu _ (by omega) (by omega) (by omega) (by simpa using fw) fun j o=>?_;rw[List.take_succ_eq_append_getElem a8];have hx:=cM j o;simp only[List.getD_eq_getElem?_getD]at hx ⊢;rw[List.getElem?_set];by_cases hj2:aW[i].toNat=j
   .have:(j:Int)=aW[i]:=by omega
    rw[if_pos hj2,if_pos (by omega),this];exact(decide_eq_true (List.mem_append.2 (.inr (by simp)))).symm
   .have:¬(j:Int)=aW[i]:=by omega
    rw[if_neg hj2,hx,decide_eq_decide,List.mem_append];constructor
    .exact .inl
    .rintro (h|h)
     .exact h
     .exact absurd (List.mem_singleton.1 h) this
 unfold ZeF;rw[Zaq (by omega),Zaq (by omega)];refine fj aW.length 0 _ _ (by omega) (by omega) (by omega) (by simp) fun j o=>?_;simp[List.getD_eq_getElem?_getD,o]
def Zna(l:List Zaa)(s b n:Int)(at_:Ins):Ins:=at_.filter fun i=>!decide (i∈(ZbR ⟨l,b,s⟩ (Zge l b at_)).take n.toNat)
theorem ZjA{l:List Zaa}{s b n:Int}{at_:Ins}(h:inL l at_):inL l (Zna l s b n at_):=fun i d=>h i (List.mem_filter.1 d).1
theorem Zhb{l:List Zaa}{s b n:Int}{at_:Ins}(h:at_.Nodup):(Zna l s b n at_).Nodup:=h.sublist List.filter_sublist
theorem ZoQ(l:List Zaa)(s b n:Int)(at_:Ins):(Zna l s b n at_).length<=at_.length:=List.length_filter_le ..
theorem ZyD{α β:Type}(f:α->β)(p:β->Bool)(q:α->Bool)(l:List α)(h:∀x∈l,p (f x)=q x):(l.map f).filter p=(l.filter q).map f:=by
 rw[List.filter_map];congr 1;exact List.filter_congr h
theorem ZxO(l:List Zaa)(at_:Ins)(b n s:Int)(hl:at_.length<=800)(ho:okPs l)(u:inL l at_)(A:at_.Nodup) :
  ((ZdM l at_).bind fun x=>(Zes x b n s).bind fun y=>ZeF at_ y)=some (Zna l s b n at_):=by
 rw[ZBb l at_ hl u,ZaA];have bO:okPs (at_.map (gP l)):=fun p d=>by
  obtain⟨i,B,rfl⟩:=List.mem_map.1 d;have:=u i B;unfold gP;rw[ZbX l _ i.toNat (by omega)];exact ho _ (List.getElem_mem _)
 rw[ZEh _ b n s (by simpa using hl) bO,ZaA];obtain⟨f,r⟩ : ∃f:Int->Int,f=fun p=>at_.getD p.toNat 0:=⟨_,rfl⟩;have hfp:∀i:Nat,f (i:Int)=at_.getD i 0:=fun i=>by rw[r];rfl
 have hlen:(at_.map (gP l)).length=at_.length:=by simp
 rw[hlen];have t:∀p:Int,0<=p->p<(at_.length:Int)->gP (at_.map (gP l)) p=gP l (f p):=fun p o g=>by
  have d:p.toNat<at_.length:=by omega
  rw[r];simp only[gP];rw[ZbX _ _ p.toNat (by simpa using d),List.getElem_map,ZbX at_ 0 p.toNat d];rfl
 have hat:(upto at_.length).map f=at_:=by
  apply List.ext_getElem
  .simp[upto]
  .intro i o g;simp only[upto,List.map_map,List.getElem_map,List.getElem_range,Function.comp];rw[hfp,ZbX at_ 0 i g]
 have C:(Zge (at_.map (gP l)) b (upto at_.length)).map f=Zge l b at_:=by
  have:Zge l b at_=((upto at_.length).map f).filter fun i=>cntB b (gP l i):=by rw[hat];rfl
  rw[this,ZyD f _ (fun p=>cntB b (gP (at_.map (gP l)) p))]
  .rfl
  .intro p d;obtain⟨o,g⟩:=Zjl.1 d;rw[t p o g]
 have v:ZbR ⟨l,b,s⟩ (Zge l b at_)=(ZbR ⟨at_.map (gP l),b,s⟩ (Zge (at_.map (gP l)) b (upto at_.length))).map f:=by
  rw[<-C];refine ZGu f _ fun x hx y D=>?_;obtain⟨x1,x2⟩:=Zjl.1 (List.mem_filter.1 hx).1;obtain⟨y1,y2⟩:=Zjl.1 (List.mem_filter.1 D).1;have e:cmpJ ⟨l,b,s⟩ (f y) (f x)=cmpJ ⟨at_.map (gP l),b,s⟩ y x:=by
   show ZkX b s (gP l (f y)) (gP l (f x))=ZkX b s (gP (at_.map (gP l)) y) (gP (at_.map (gP l)) x);rw[t y y1 y2,t x x1 x2]
  unfold ltJ;rw[e]
 obtain⟨S,lG⟩ : ∃S,S=ZbR ⟨at_.map (gP l),b,s⟩ (Zge (at_.map (gP l)) b (upto at_.length)):=⟨_,rfl⟩;have hSm:∀x∈S,0<=x/\x<(at_.length:Int):=fun x hx=>by
  rw[lG]at hx;exact Zjl.1 (List.mem_filter.1 (ZvA _ x hx)).1
 have hSl:S.length<=at_.length:=by
  rw[lG,Zhc];have:=ZuP (at_.map (gP l)) b (upto at_.length);rw[Zns]at this;exact this
 rw[<-lG]at v ⊢;rw[ZBd at_ _ hl (by simp only[List.length_take];omega) fun k E=>hSm k (List.mem_of_mem_take E)];have g6:∀x y:Int,0<=x->x<(at_.length:Int)->0<=y->y<(at_.length:Int)->f x=f y->x=y:=fun x y x1 x2 y1 y2 h=>by
  rw[r]at h;simp only at h;rw[ZbX at_ 0 x.toNat (by omega),ZbX at_ 0 y.toNat (by omega)]at h;have:=ZqY A (i:=x.toNat) (j:=y.toNat) (a:=at_[y.toNat]'(by omega)) (by rw[<-h];simp) (by simp);omega
 congr 1;unfold Zna;rw[v,<-List.map_take];have F:∀p:Int->Bool,at_.filter p=((upto at_.length).map f).filter p:=fun p=>by rw[hat]
 rw[F,ZyD f _ (fun p=>!decide (p∈S.take n.toNat))]
 .unfold ZwE upto;rw[ZyD (fun(i:Nat)=>(i:Int)) _ (fun j=>!decide ((j:Int)∈S.take n.toNat)) _ (fun _ _=>rfl),List.map_map];exact List.map_congr_left fun j _=>(hfp j).symm
 .intro p d;obtain⟨o,g⟩:=Zjl.1 d;congr 1;rw[decide_eq_decide];constructor
  .intro h;obtain⟨q,z,e⟩:=List.mem_map.1 h;obtain⟨G,H⟩:=hSm q (List.mem_of_mem_take z);rw[<-g6 q p G H o g e];exact z
  .intro h;exact List.mem_map.2 ⟨p,h,rfl⟩
def Zvx(l:List Zaa)(q:Zax)(s:Int):Ins:=Zna l s 4 q.fTime (Zna l s 3 q.fWork (Zna l s 2 q.fPing (Zna l s 1 q.fGroup (upto l.length))))
theorem ZBc(l:List Zaa)(q:Zax)(s:Int)(hl:l.length<=800)(ho:okPs l):Zjt l q s=some (Zvx l q s):=by
 have fi:∀(a b:Int)(w:Ins)(q':Zax)(kk:Int->Int->Ins->Zax->Option Ins)(fu:Nat),Zch l s a b w q' kk (fu+5) (⟨1,q.fGroup⟩,⟨2,q.fPing⟩,⟨3,q.fWork⟩,⟨4,q.fTime⟩) 0 (upto l.length)=some (Zvx l q s):=by
  intro a b w q' kk fu;have h0:inL l (upto l.length):=fun i j=>Zjl.1 j;have t1:=ZxO l (upto l.length) 1 q.fGroup s (by rw[Zns];exact hl) ho h0 (Zms _);have l1:=ZoQ l s 1 q.fGroup (upto l.length);rw[Zns]at l1;have t2:=ZxO l _ 2 q.fPing s (by omega) ho (ZjA (s:=s) (b:=1) (n:=q.fGroup) h0) (Zhb (Zms _));have l2:=ZoQ l s 2 q.fPing (Zna l s 1 q.fGroup (upto l.length));have t3:=ZxO l _ 3 q.fWork s (by omega) ho (ZjA (s:=s) (b:=2) (n:=q.fPing) (ZjA (s:=s) (b:=1) (n:=q.fGroup) h0)) (Zhb (Zhb (Zms _)));have l3:=ZoQ l s 3 q.fWork (Zna l s 2 q.fPing (Zna l s 1 q.fGroup (upto l.length)));have t4:=ZxO l _ 4 q.fTime s (by omega) ho (ZjA (s:=s) (b:=3) (n:=q.fWork) (ZjA (s:=s) (b:=2) (n:=q.fPing) (ZjA (s:=s) (b:=1) (n:=q.fGroup) h0))) (Zhb (Zhb (Zhb (Zms _))));have bd:∀{α β γ δ:Type}(r:Option α)(g:α->Option β)(h:β->Option γ)(k:γ->Option δ)(z:γ),(r.bind fun x=>(g x).bind fun y=>h y)=some z->(r.bind fun x=>(g x).bind fun y=>(h y).bind k)=k z:=by
   intro α β γ δ r g h k z e;cases r with
   |none=>cases e
   |some x=>
    simp only[Option.bind_some]at e ⊢;cases d:g x with
    |none=>rw[d]at e;cases e
    |some y=>rw[d]at e;simp only[Option.bind_some]at e ⊢;rw[e];rfl
  have ke:∀{δ:Type}(X:Ins)(b n:Int)(k:Ins->Option δ)(z:Ins),((ZdM l X).bind fun x=>(Zes x b n s).bind fun y=>ZeF X y)=some z->((ZdM l X).bind fun x=>(Zes x b n s).bind fun y=>(ZeF X y).bind k)=k z:=by
   intro δ X b n k z e;cases o:ZdM l X with
   |none=>rw[o]at e;cases e
   |some x=>
    rw[o]at e;simp only[Option.bind_some]at e ⊢;cases d:Zes x b n s with
    |none=>rw[d]at e;cases e
    |some y=>rw[d]at e;simp only[Option.bind_some]at e ⊢;rw[e];rfl
  have t:Zan (0:Int) 1=1:=rfl;have u:Zan (1:Int) 1=2:=rfl;have v:Zan (2:Int) 1=3:=rfl;have A:Zan (3:Int) 1=4:=rfl;unfold Zch;rw[Zah,if_pos (by omega),Zaq (by omega)];simp only[ix1,if_true,t];rw[ke _ _ _ _ _ t1];unfold Zch;rw[Zah,if_pos (by omega),Zaq (by omega)];simp only[ix1,if_true,u,show ¬((1:Int)=0)by omega,if_false];rw[ke _ _ _ _ _ t2];unfold Zch;rw[Zah,if_pos (by omega),Zaq (by omega)];simp only[ix1,if_true,v,show ¬((2:Int)=0)by omega,show ¬((2:Int)=1)by omega,if_false];rw[ke _ _ _ _ _ t3];unfold Zch;rw[Zah,if_pos (by omega),Zaq (by omega)];simp only[ix1,if_true,A,show ¬((3:Int)=0)by omega,show ¬((3:Int)=1)by omega,show ¬((3:Int)=2)by omega,if_false];rw[ke _ _ _ _ _ t4];unfold Zch;rw[Zah,if_neg (by omega)];rfl
 have fj:∀(k i fu:Nat)(w:Ins),l.length-i=k->i<=l.length->k+1<=fu->w.length=l.length->w.take i=upto i->ZdH l s fu (l.length:Int) (i:Int) w q=some (Zvx l q s):=by
  intro k;induction k with
  |zero=>
   intro i fu w B j C p f;obtain⟨fu,rfl⟩ : ∃x,fu=x+1:=⟨fu-1,by omega⟩;obtain rfl:i=l.length:=by omega
   rw[List.take_of_length_le (by omega)]at f;unfold ZdH;have e:Zlx q=some (⟨1,q.fGroup⟩,⟨2,q.fPing⟩,⟨3,q.fWork⟩,⟨4,q.fTime⟩):=rfl;rw[Zah,if_neg (by omega),e,ZaA,f];exact fi _ _ _ _ _ 1
  |succ k ih=>
   intro i fu w B j C p f;obtain⟨fu,rfl⟩ : ∃x,fu=x+1:=⟨fu-1,by omega⟩;unfold ZdH;have D:Zan (i:Int) 1=((i+1:Nat):Int):=add1 (n:=i+1) (by omega) (by simp only[maxLen];omega);rw[Zah,if_pos (by omega),Zaq (by omega),D];refine ih (i+1) fu _ (by omega) (by omega) (by omega) (by simpa using p) ?_;rw[Zsd,<-f];simp only[Int.toNat_natCast];rw[List.take_succ_eq_append_getElem (by simp;omega),List.take_set_of_le (Nat.le_refl _)];simp
 unfold Zjt;rw[Zaq (by omega)];simp only[Int.toNat_natCast];exact fj l.length 0 _ _ (by omega) (by omega) (by omega) (by simp) (by simp[upto])
theorem ZJT(p:Zaa)(s:Int):ZeN s (grp p.fEnd.fAddr)=some (keyZ s p):=by
 obtain⟨m,b,d,_⟩:=ZGm s (grp p.fEnd.fAddr);unfold keyZ;rw[b,d];rfl
theorem ZJe(a b:Int)(p q:Zaa):ZcB a b p q=some (decide (a<b\/(a=b/\cmpE p.fEnd q.fEnd<0))):=by
 unfold ZcB;rw[Zsm,ZaA];by_cases h:a=b
 .subst h;have e:(a != a)=false:=by simp
  rw[e,cond_false];congr 1;rw[decide_eq_decide];constructor
  .intro h;exact .inr ⟨rfl,h⟩
  .rintro (h|⟨_,h⟩)
   .omega
   .exact h
 .have e:(a != b)=true:=by rw[bne_iff_ne];exact h
  rw[e,cond_true];congr 1;rw[decide_eq_decide];constructor
  .intro h;exact .inl h
  .rintro (d|⟨d,_⟩)
   .exact d
   .exact absurd d h
theorem Zzp(p q:Zaa)(b s:Int)(j:p.fEnd.fAddr.ok)(n:q.fEnd.fAddr.ok)(hb:1<=b/\b<=4):ZeW p q b s=some (decide (ZkX b s p q<0)):=by
 have hd:decide (ZkX b s p q<0)=decide (kv b s p<kv b s q\/(kv b s p=kv b s q/\cmpE p.fEnd q.fEnd<0)):=by rw[decide_eq_decide];exact ZsS
 rw[hd];unfold ZeW;simp only[ZCH _ j,ZCH _ n,ZaA,ZJT,ZJe,ZgU];by_cases i:b=1
 .subst i;simp only[if_true,kv];by_cases h:keyZ s p=keyZ s q
  .have e:(keyZ s p != keyZ s q)=false:=by rw[h];simp
   rw[e,cond_false];congr 1;rw[decide_eq_decide];constructor
   .rintro (d|⟨_,d⟩)
    .omega
    .exact .inr ⟨by omega,d⟩
   .rintro (d|⟨_,d⟩)
    .omega
    .exact .inr ⟨by trivial,d⟩
  .have e:(keyZ s p != keyZ s q)=true:=by rw[bne_iff_ne];exact h
   rw[e,cond_true];congr 1;rw[decide_eq_decide];constructor
   .intro d;left;omega
   .rintro (d|⟨d,_⟩)<;>omega
 .by_cases d:b=2
  .subst d;simp[kv]
  .by_cases o:b=3
   .subst o;simp only[kv,if_neg i,if_neg d,if_true];congr 1;rw[decide_eq_decide];constructor
    .rintro (f|⟨f,g⟩)
     .left;omega
     .right;exact⟨by omega,g⟩
    .rintro (f|⟨f,g⟩)
     .left;omega
     .right;exact⟨by omega,g⟩
   .obtain rfl:b=4:=by omega
    simp[kv]
def unJ(w:List Bool)(i:Nat):Ins:=(upto i).filter fun j=>!(w.getD j.toNat false)
def Ztf(K:Cx):Ins->Int | []=>-1|b :: r=>bstJ K b r
theorem ZHG{K:Cx}(C:Ins)(y:Int):Ztf K (C++[y])=if C=[]then y else if ltJ K y (Ztf K C)=true then y else Ztf K C:=by
 cases C with
 |nil=>simp[Ztf,bstJ]
 |cons b r=>
  rw[if_neg (by simp)];exact ZyO y r b
theorem Zwt{K:Cx}{C:Ins}(h:C≠[]):Ztf K C∈C:=by
 cases C with
 |nil=>exact absurd rfl h
 |cons b r=>exact Zwp r b
theorem ZCu(w:List Bool)(i:Nat):unJ w (i+1)=unJ w i++if w.getD i false=true then[]else[(i:Int)]:=by
 unfold unJ;rw[Zsd,List.filter_append];congr 1;cases h:w.getD i false with
 |false=>simp only[List.filter_cons,Int.toNat_natCast,h,Bool.not_false,if_true,List.filter_nil,Bool.false_eq_true,if_false]
 |true=>simp only[List.filter_cons,Int.toNat_natCast,h,Bool.not_true,Bool.false_eq_true,if_false,List.filter_nil,if_true]
theorem ZAQ{w:List Bool}{i:Nat}{x:Int}(h:x∈unJ w i):0<=x/\x<(i:Int)/\w.getD x.toNat false=false:=by
 obtain⟨b,d⟩:=List.mem_filter.1 h;have:=Zjl.1 b;exact⟨this.1,this.2,by simpa using d⟩
theorem ZFm(w:List Bool)(i:Nat):(unJ w i).Nodup:=(Zms i).sublist List.filter_sublist
theorem ZJE(w:List Bool)(n:Nat)(m:Int)(h0:0<=m)(b:m<(w.length:Int)):unJ (w.set m.toNat true) n=(unJ w n).filter fun x=>x != m:=by
 unfold unJ;rw[List.filter_filter];refine List.filter_congr fun x hx=>?_;obtain⟨x1,x2⟩:=Zjl.1 hx;simp only[List.getD_eq_getElem?_getD,List.getElem?_set];by_cases h:m=x
 .subst h;rw[if_pos rfl,if_pos (by omega)];simp
 .rw[if_neg (by omega)];have:(x != m)=true:=by rw[bne_iff_ne];omega
  rw[this,Bool.true_and]
theorem ZCn(l:List Zaa)(b:Int)(X:Ins)(p:Int->Bool):Zge l b (X.filter p)=(Zge l b X).filter p:=by
 unfold Zge;rw[List.filter_filter,List.filter_filter];exact List.filter_congr fun y _=>Bool.and_comm _ _
section
variable {l:List Zaa} (hl:l.length<=800) (ho:okPs l) {s:Int} {q:Zax}
include hl ho
theorem ZIe(b:Int)(hb:1<=b/\b<=4)(v9:Int)(p:Int->List Bool->Zax->Option (List Bool))(g:Int->List Bool->Option (List Bool))(w:List Bool)(j:w.length=l.length):∀(k i fu:Nat),l.length-i=k->i<=l.length->k+1<=fu ->
  Zbr l s b q v9 p g fu (Ztf ⟨l,b,s⟩ (Zge l b (unJ w i))) (i:Int) w=if Zge l b (unJ w l.length)=[]then g (Zan v9 1) w else g (Zan v9 1) (w.set (Ztf ⟨l,b,s⟩ (Zge l b (unJ w l.length))).toNat true):=by
 intro k;induction k with
 |zero=>
  intro i fu r t u;obtain⟨fu,rfl⟩ : ∃x,fu=x+1:=⟨fu-1,by omega⟩;obtain rfl:i=l.length:=by omega
  unfold Zbr;rw[Zah,if_neg (by omega),Zah];by_cases f:Zge l b (unJ w l.length)=[]
  .rw[if_pos f,f];rw[if_neg (by simp[Ztf])]
  .have h:=Zwt (K:=⟨l,b,s⟩) f;obtain⟨m1,m2,_⟩:=ZAQ (List.mem_filter.1 h).1;rw[if_neg f,if_pos (by omega),Zaq (by rw[j];omega)]
 |succ k ih=>
  intro i fu r t u;obtain⟨fu,rfl⟩ : ∃x,fu=x+1:=⟨fu-1,by omega⟩;have v:Zan (i:Int) 1=((i+1:Nat):Int):=add1 (n:=i+1) (by omega) (by simp only[maxLen];omega);have aV:=ih (i+1) fu (by omega) (by omega) (by omega);rw[ZCu,ZDC]at aV;unfold Zbr;rw[Zah,if_pos (by omega),Zaq (by rw[j];omega),v];simp only[Int.toNat_natCast];cases hwi:w.getD i false with
  |true=>
   rw[hwi,if_pos rfl]at aV;have:Zge l b []=[]:=rfl;rw[this,List.append_nil]at aV;rw[Bool.not_true,cond_false];exact aV
  |false=>
   rw[hwi,if_neg (by decide)]at aV;rw[Bool.not_false,cond_true,Zaq (by omega),Ztm,ZaA];cases o:cntB b (l.getD i Zaa.d)with
   |false=>
    have:Zge l b [(i:Int)]=[]:=by simp only[Zge,gP,Int.toNat_natCast,List.filter_cons,o,Bool.false_eq_true,if_false,List.filter_nil]
    rw[this,List.append_nil]at aV;rw[cond_false];exact aV
   |true=>
    have:Zge l b [(i:Int)]=[(i:Int)]:=by simp only[Zge,gP,Int.toNat_natCast,List.filter_cons,o,if_true,List.filter_nil]
    rw[this,ZHG]at aV;rw[cond_true,Zah];by_cases f:Zge l b (unJ w i)=[]
    .rw[if_pos f]at aV;rw[f,if_pos (by simp[Ztf])];exact aV
    .have h:=Zwt (K:=⟨l,b,s⟩) f;obtain⟨m1,m2,_⟩:=ZAQ (List.mem_filter.1 h).1;rw[if_neg f]at aV;rw[if_neg (by omega),Zaq (by omega),Zzp _ _ _ _ (by rw[ZbX l _ i (by omega)];exact ho _ (List.getElem_mem _)) (by rw[ZbX l _ _ (by omega)];exact ho _ (List.getElem_mem _)) hb,ZaA];have e:decide (ZkX b s (l.getD i Zaa.d) (l.getD (Ztf ⟨l,b,s⟩ (Zge l b (unJ w i))).toNat Zaa.d)<0)=ltJ ⟨l,b,s⟩ (i:Int) (Ztf ⟨l,b,s⟩ (Zge l b (unJ w i))):=rfl;rw[e];cases hlt:ltJ ⟨l,b,s⟩ (i:Int) (Ztf ⟨l,b,s⟩ (Zge l b (unJ w i)))with
     |true=>rw[hlt,if_pos rfl]at aV;rw[cond_true];exact aV
     |false=>rw[hlt,if_neg (by decide)]at aV;rw[cond_false];exact aV
theorem ZIf(b n:Int)(hb:1<=b/\b<=4)(v:ZbY q b=some n)(d:Int->List Bool->Zax->Option (List Bool)):∀(r v9 fu:Nat)(w:List Bool),(if n<(l.length:Int)then n.toNat else l.length)-v9=r->v9<=l.length->r+1<=fu->w.length=l.length ->
  ∃w',w'.length=l.length/\unJ w' l.length=(unJ w l.length).filter (fun i=>!decide (i∈selN ⟨l,b,s⟩ r (Zge l b (unJ w l.length))))/\ZbB l s b q d fu (v9:Int) w=d (Zan b 1) w' q:=by
 intro r;induction r with
 |zero=>
  intro v9 fu w g A B e;obtain⟨fu,rfl⟩ : ∃x,fu=x+1:=⟨fu-1,by omega⟩;refine⟨w,e,by simp only[selN];exact(List.filter_eq_self.2 fun x _=>by simp).symm,?_⟩;unfold ZbB;rw[v,ZaA,Zah,Zah];by_cases z:(v9:Int)<n
  .rw[if_pos z];by_cases j:(v9:Int)<(l.length:Int)
   .exfalso;split at g<;>omega
   .rw[if_neg j]
  .rw[if_neg z]
 |succ r ih=>
  intro v9 fu w g A B e;obtain⟨fu,rfl⟩ : ∃x,fu=x+1:=⟨fu-1,by omega⟩;have j:v9<l.length/\(v9:Int)<n:=by split at g<;>omega
  have C:Zan (v9:Int) 1=((v9+1:Nat):Int):=add1 (n:=v9+1) (by omega) (by simp only[maxLen];omega);unfold ZbB;have hc2:=ZIe hl ho (s:=s) (q:=q) b hb (v9:Int) d (ZbB l s b q d fu) w e l.length 0 ((((l.length:Nat):Int)-(0:Int)).toNat+2) (by omega) (by omega) (by omega);have lH:Zbr l s b q (v9:Int) d (ZbB l s b q d fu) ((((l.length:Nat):Int)-(0:Int)).toNat+2) (-1) 0 w=_:=hc2;rw[v,ZaA,Zah,if_pos j.2,Zah,if_pos (by omega),lH,C];by_cases f:Zge l b (unJ w l.length)=[]
  .rw[if_pos f];obtain⟨w',o,p,t⟩:=ih (v9+1) fu w (by omega) (by omega) (by omega) e;refine⟨w',o,?_,t⟩;rw[p,f];cases r<;>rfl
  .have D:=Zwt (K:=⟨l,b,s⟩) f;obtain⟨m1,m2,_⟩:=ZAQ (List.mem_filter.1 D).1;rw[if_neg f];obtain⟨w',o,p,t⟩:=ih (v9+1) fu (w.set (Ztf ⟨l,b,s⟩ (Zge l b (unJ w l.length))).toNat true) (by omega) (by omega) (by omega) (by simpa using e);refine⟨w',o,?_,t⟩;rw[p,ZJE w _ _ m1 (by rw[e];exact m2)];cases hCC:Zge l b (unJ w l.length)with
   |nil=>exact absurd hCC f
   |cons x X=>
    have bu:Ztf ⟨l,b,s⟩ (x :: X)=bstJ ⟨l,b,s⟩ x X:=rfl;rw[ZCn,hCC,bu,List.filter_filter,selN];refine List.filter_congr fun y _=>?_;by_cases u:y=bstJ ⟨l,b,s⟩ x X
    .rw[u];simp
    .have:(y != bstJ ⟨l,b,s⟩ x X)=true:=by rw[bne_iff_ne];exact u
     rw[this,Bool.and_true];congr 1;rw[decide_eq_decide,List.mem_cons];constructor
     .exact .inr
     .rintro (h|h)
      .exact absurd h u
      .exact h
theorem ZqV(b n:Int)(hb:1<=b/\b<=4)(e:ZbY q b=some n)(d:Int->List Bool->Zax->Option (List Bool))(w:List Bool)(f:w.length=l.length) :
  ∃w',w'.length=l.length/\unJ w' l.length=Zna l s b n (unJ w l.length)/\ZbB l s b q d ((((l.length:Nat):Int)-(0:Int)).toNat+2) 0 w=d (Zan b 1) w' q:=by
 obtain⟨w',g,i,o⟩:=ZIf hl ho (s:=s) b n hb e d _ 0 ((((l.length:Nat):Int)-(0:Int)).toNat+2) w rfl (by omega) (by split<;>omega) f;refine⟨w',g,?_,o⟩;have hnd:(Zge l b (unJ w l.length)).Nodup:=(ZFm w _).sublist List.filter_sublist;have hlen:(ZbR ⟨l,b,s⟩ (Zge l b (unJ w l.length))).length<=l.length:=by
  rw[Zhc];have p:=ZuP l b (unJ w l.length);have r:(unJ w l.length).length<=l.length:=by
   have:=List.length_filter_le (fun j:Int=>!(w.getD j.toNat false)) (upto l.length);rw[Zns]at this;exact this
  omega
 rw[i,Zuw _ _ hnd];unfold Zna;have:(ZbR ⟨l,b,s⟩ (Zge l b (unJ w l.length))).take ((if n<(l.length:Int)then n.toNat else l.length)-0)=(ZbR ⟨l,b,s⟩ (Zge l b (unJ w l.length))).take n.toNat:=by
  by_cases h:n<(l.length:Int)
  .rw[if_pos h];rfl
  .rw[if_neg h,List.take_of_length_le (by omega),List.take_of_length_le (by omega)]
 rw[this]
theorem ZFN:∃w,ZeV l q s=some w/\w.length=l.length/\unJ w l.length=Zvx l q s:=by
 have b:ZbY q 1=some q.fGroup:=rfl;have d:ZbY q 2=some q.fPing:=rfl;have e:ZbY q 3=some q.fWork:=rfl;have g:ZbY q 4=some q.fTime:=rfl;have w0:(List.replicate ((l.length:Nat):Int).toNat false).length=l.length:=by simp
 have u0:unJ (List.replicate ((l.length:Nat):Int).toNat false) l.length=upto l.length:=by
  unfold unJ;refine List.filter_eq_self.2 fun x hx=>?_;obtain⟨x1,x2⟩:=Zjl.1 hx;have:x.toNat<l.length:=by omega
  simp[List.getD_eq_getElem?_getD,this]
 obtain⟨w1,h,b1,i⟩:=ZqV hl ho (s:=s) 1 _ (by omega) b (ZaN l s 4) _ w0;obtain⟨w2,j,b2,n⟩:=ZqV hl ho (s:=s) 2 _ (by omega) d (ZaN l s 3) w1 h;obtain⟨w3,o,b3,p⟩:=ZqV hl ho (s:=s) 3 _ (by omega) e (ZaN l s 2) w2 j;obtain⟨w4,r,b4,t⟩:=ZqV hl ho (s:=s) 4 _ (by omega) g (ZaN l s 1) w3 o;refine⟨w4,?_,r,by rw[b4,b3,b2,b1,u0];rfl⟩;have d1:ZaN l s 5 1 (List.replicate ((l.length:Nat):Int).toNat false) q=ZaN l s 4 2 w1 q:=i;have d2:ZaN l s 4 2 w1 q=ZaN l s 3 3 w2 q:=n;have d3:ZaN l s 3 3 w2 q=ZaN l s 2 4 w3 q:=p;have d4:ZaN l s 2 4 w3 q=ZaN l s 1 5 w4 q:=t;unfold ZeV;rw[Zaq (by omega)];have f:(((4:Int)-(1:Int)).toNat+2)=5:=rfl;rw[f,d1,d2,d3,d4];rfl
end
def ZhB(l:List Zaa):List Zaa:=l.filter fun p=>p.fIn
def ZpH(l:List Zaa)(q:Zax)(s:Int):List Zaa:=(Zvx (ZhB l) q s).map (gP (ZhB l))
theorem ZAA(l:List Zaa)(i:Nat)(h:i<l.length):ZhB (l.take (i+1))=ZhB (l.take i)++if l[i].fIn=true then[l[i]]else[]:=by
 unfold ZhB;rw[List.take_succ_eq_append_getElem h,List.filter_append];congr 1;cases h:l[i].fIn<;>simp[h]
theorem ZtO(l:List Zaa):(ZhB l).length<=l.length:=List.length_filter_le ..
theorem ZEG(l:List Zaa)(hl:l.length<=100000):Zke l=some (ZhB l):=by
 have ay:∀(k i fu:Nat),l.length-i=k->i<=l.length->k+1<=fu->ZeH fu l (l.length:Int) (i:Int) (ZhB (l.take i))=some (ZhB l):=by
  intro k;induction k with
  |zero=>
   intro i fu b e f;obtain⟨fu,rfl⟩ : ∃x,fu=x+1:=⟨fu-1,by omega⟩;unfold ZeH;rw[Zah,if_neg (by omega),List.take_of_length_le (by omega)]
  |succ k ih=>
   intro i fu b e f;obtain⟨fu,rfl⟩ : ∃x,fu=x+1:=⟨fu-1,by omega⟩;unfold ZeH;have a8:i<l.length:=by omega
   have g:Zan (i:Int) 1=((i+1:Nat):Int):=add1 (n:=i+1) (by omega) (by simp only[maxLen];omega);have h:=ZtO (l.take i);simp only[List.length_take]at h;have aV:=ih (i+1) fu (by omega) (by omega) (by omega);rw[ZAA l i a8]at aV;have j:l.getD ((i:Int)).toNat Zaa.d=l[i]:=ZbX l _ i a8;rw[Zah,if_pos (by omega),Zaq (by omega),j,g];cases hin:l[i].fIn with
   |true=>
    rw[hin,if_pos rfl]at aV;rw[cond_true,Zaq (by simp only[List.length_append,List.length_singleton,maxLen];omega)];exact aV
   |false=>
    rw[hin,if_neg (by decide),List.append_nil]at aV;rw[cond_false];exact aV
 unfold Zke;exact ay l.length 0 _ (by omega) (by omega) (by omega)
theorem Zyc(l:List Zaa)(hl:l.length<=100000):ZdA l=some (ZhB l):=by
 have ay:∀(k i fu:Nat),l.length-i=k->i<=l.length->k+1<=fu->Zcm l fu (i:Int) (ZhB (l.take i))=some (ZhB l):=by
  intro k;induction k with
  |zero=>
   intro i fu b e f;obtain⟨fu,rfl⟩ : ∃x,fu=x+1:=⟨fu-1,by omega⟩;unfold Zcm;rw[Zah,if_neg (by omega),List.take_of_length_le (by omega)]
  |succ k ih=>
   intro i fu b e f;obtain⟨fu,rfl⟩ : ∃x,fu=x+1:=⟨fu-1,by omega⟩;unfold Zcm;have a8:i<l.length:=by omega
   have g:Zan (i:Int) 1=((i+1:Nat):Int):=add1 (n:=i+1) (by omega) (by simp only[maxLen];omega);have h:=ZtO (l.take i);simp only[List.length_take]at h;have aV:=ih (i+1) fu (by omega) (by omega) (by omega);rw[ZAA l i a8]at aV;have j:l.getD ((i:Int)).toNat Zaa.d=l[i]:=ZbX l _ i a8;rw[Zah,if_pos (by omega),Zaq (by omega),j,g];cases hin:l[i].fIn with
   |true=>
    rw[hin,if_pos rfl]at aV;rw[cond_true,Zaq (by simp only[List.length_append,List.length_singleton,maxLen];omega)];exact aV
   |false=>
    rw[hin,if_neg (by decide),List.append_nil]at aV;rw[cond_false];exact aV
 unfold ZdA;exact ay l.length 0 _ (by omega) (by omega) (by omega)
theorem ZGr(l:List Zaa)(q:Zax)(s:Int):inL l (Zvx l q s):=ZjA (ZjA (ZjA (ZjA fun i b=>Zjl.1 b)))
theorem ZDd(l:List Zaa)(q:Zax)(s:Int):(Zvx l q s).length<=l.length:=by
 have b:=ZoQ l s 1 q.fGroup (upto l.length);have d:=ZoQ l s 2 q.fPing (Zna l s 1 q.fGroup (upto l.length));have e:=ZoQ l s 3 q.fWork (Zna l s 2 q.fPing (Zna l s 1 q.fGroup (upto l.length)));have f:=ZoQ l s 4 q.fTime (Zna l s 3 q.fWork (Zna l s 2 q.fPing (Zna l s 1 q.fGroup (upto l.length))));rw[Zns]at b;unfold Zvx;omega
theorem Zso{l:List Zaa}(h:okPs l):okPs (ZhB l):=fun p b=>h p (List.mem_filter.1 b).1
theorem ZvU(l:List Zaa)(q:Zax)(s:Int)(hl:l.length<=800)(ho:okPs l):ZfX l q s=some (ZpH l q s):=by
 have o:=ZtO l;have b:=ZGr (ZhB l) q s;have hle:=ZDd (ZhB l) q s;unfold ZfX ZpH;rw[ZEG l (by omega),ZaA,ZBc _ q s (by omega) (Zso ho),ZaA];obtain⟨A,d⟩ : ∃A,A=Zvx (ZhB l) q s:=⟨_,rfl⟩;rw[<-d]at b hle ⊢;have ay:∀(k i fu:Nat),A.length-i=k->i<=A.length->k+1<=fu->ZcS fu (ZhB l) A (A.length:Int) (i:Int) ((A.take i).map (gP (ZhB l)))=some (A.map (gP (ZhB l))):=by
  intro k;induction k with
  |zero=>
   intro i fu e b f;obtain⟨fu,rfl⟩ : ∃x,fu=x+1:=⟨fu-1,by omega⟩;unfold ZcS;rw[Zah,if_neg (by omega),List.take_of_length_le (by omega)]
  |succ k ih=>
   intro i fu e ce f;obtain⟨fu,rfl⟩ : ∃x,fu=x+1:=⟨fu-1,by omega⟩;unfold ZcS;have a8:i<A.length:=by omega
   have g:Zan (i:Int) 1=((i+1:Nat):Int):=add1 (n:=i+1) (by omega) (by simp only[maxLen];omega);have h:=b _ (List.getElem_mem a8);have j:A.getD ((i:Int)).toNat 0=A[i]:=ZbX A 0 i a8;have hlt:((A.take i).map (gP (ZhB l))).length=i:=by simp;omega
   rw[Zah,if_pos (by omega),Zaq (by omega),j,Zaq h,Zaq (by simp only[List.length_append,hlt,List.length_singleton,maxLen];omega),g];have:=ih (i+1) fu (by omega) (by omega) (by omega);rw[List.take_succ_eq_append_getElem a8,List.map_append,List.map_singleton]at this;exact this
 exact ay A.length 0 _ (by omega) (by omega) (by omega)
theorem ZFR(l:List Zaa)(q:Zax)(s:Int)(hl:l.length<=800)(ho:okPs l):Zdf l q s=some (ZpH l q s):=by
 have r:=ZtO l;unfold Zdf ZpH;obtain⟨w,d,e,f⟩:=ZFN (l:=ZhB l) (q:=q) (s:=s) (by omega) (Zso ho);rw[Zyc l (by omega),ZaA,d,ZaA,<-f];have ay:∀(k i fu:Nat),(ZhB l).length-i=k->i<=(ZhB l).length->k+1<=fu->ZbH fu (ZhB l) w (i:Int) ((unJ w i).map (gP (ZhB l)))=some ((unJ w (ZhB l).length).map (gP (ZhB l))):=by
  intro k;induction k with
  |zero=>
   intro i fu g h o;obtain⟨fu,rfl⟩ : ∃x,fu=x+1:=⟨fu-1,by omega⟩;obtain rfl:i=(ZhB l).length:=by omega
   unfold ZbH;rw[Zah,if_neg (by omega)]
  |succ k ih=>
   intro i fu g h o;obtain⟨fu,rfl⟩ : ∃x,fu=x+1:=⟨fu-1,by omega⟩;unfold ZbH;have p:Zan (i:Int) 1=((i+1:Nat):Int):=add1 (n:=i+1) (by omega) (by simp only[maxLen];omega);have t:(unJ w i).length<=i:=by
    have:=List.length_filter_le (fun j:Int=>!(w.getD j.toNat false)) (upto i);rw[Zns]at this;exact this
   have aV:=ih (i+1) fu (by omega) (by omega) (by omega);rw[ZCu,List.map_append]at aV;rw[Zah,if_pos (by omega),Zaq (by rw[e];omega),p];simp only[Int.toNat_natCast];cases b:w.getD i false with
   |true=>
    rw[b,if_pos rfl,List.map_nil,List.append_nil]at aV;rw[Bool.not_true,cond_false];exact aV
   |false=>
    rw[b,if_neg (by decide)]at aV;rw[Bool.not_false,cond_true,Zaq (by omega),Zaq (by simp only[List.length_append,List.length_map,List.length_singleton,maxLen];omega)];exact aV
 exact ay (ZhB l).length 0 _ (by omega) (by omega) (by omega)
end Go.Proofs.YtmnloegcpaahcaaGreat
