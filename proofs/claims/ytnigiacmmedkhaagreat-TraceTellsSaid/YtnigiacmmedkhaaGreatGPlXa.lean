import Derived.Test.YtnigiacmmedkhaaGreatGPlY
import Derived.Test.YtnigiacmmedkhaaGreatGTrcA9
import Derived.Test.YtnigiacmmedkhaaGreatGPlA
namespace Go.Proofs.YtnigiacmmedkhaaGreat
set_option linter.unusedSectionVars false
set_option linter.unusedVariables false
set_option linter.unusedSimpArgs false
def u64r(x:Int):Prop:=0<=x/\x<=18446744073709551615
theorem Zop(a:Int):u64r (IntKind.wrap .u64 a):=by
 unfold u64r;simp only[IntKind.wrap,IntKind.bits,IntKind.signed];simp;omega
theorem ZNE{a:Int}(h:u64r a):IntKind.wrap .u64 a=a:=ZgS h.1 h.2
theorem Zsv{a:Int}(h:u64r a)(k:Int)(d:0<k):IntKind.wrap .u64 (Int.tdiv a k)=Int.fdiv a k:=by
 obtain⟨n,rfl⟩ : ∃n:Nat,a=n:=⟨a.toNat,by have:=h.1;omega⟩;obtain⟨m,rfl⟩ : ∃m:Nat,k=m:=⟨k.toNat,by omega⟩;have e:=h.2;rw[Int.fdiv_eq_tdiv_of_nonneg (by omega) (by omega)];refine ZNE ⟨Int.tdiv_nonneg (by omega) (by omega),?_⟩;have:Int.tdiv (n:Int) (m:Int)<=(n:Int):=by
  rw[<-Int.ofNat_tdiv];have:=Nat.div_le_self n m;omega
 omega
theorem pw30:(2:Int) ^ (min (30:Int).toNat (IntKind.bits .u64))=1073741824:=by decide
theorem pw27:(2:Int) ^ (min (27:Int).toNat (IntKind.bits .u64))=134217728:=by decide
theorem pw31:(2:Int) ^ (min (31:Int).toNat (IntKind.bits .u64))=2147483648:=by decide
theorem pw32:(2:Int) ^ (min (32:Int).toNat (IntKind.bits .u64))=4294967296:=by decide
theorem pw57:(2:Int) ^ (min (57:Int).toNat (IntKind.bits .u64))=144115188075855872:=by decide
theorem pw7:(2:Int) ^ (min (7:Int).toNat (IntKind.bits .u64))=128:=by decide
theorem ZDE(x:Int)(h:u64r x):∃y,Zpy x=some y/\ZfO x=some y/\u64r y:=by
 unfold Zpy ZfO;simp only[pw30,pw27,pw31,Zsv h 1073741824 (by omega),Zsv (Zop _) 134217728 (by omega),Zsv (Zop _) 2147483648 (by omega)];exact⟨_,rfl,rfl,Zop _⟩
theorem ZPY(a b:Nat)(ha:a<2 ^ 64)(hb:b<2 ^ 64):IntKind.u64.wrap (((BitVec.ofInt (IntKind.bits .u64) (a:Int)) ||| (BitVec.ofInt (IntKind.bits .u64) (b:Int))).toNat:Int)=((a |||b:Nat):Int):=by
 have d:∀c:Nat,c<2 ^ 64->(BitVec.ofInt 64 (c:Int)).toNat=c:=fun c e=>by
  rw[BitVec.ofInt_natCast,BitVec.toNat_ofNat];exact Nat.mod_eq_of_lt e
 have g:((BitVec.ofInt (IntKind.bits .u64) (a:Int)) ||| (BitVec.ofInt (IntKind.bits .u64) (b:Int))).toNat=a |||b:=by
  show (BitVec.ofInt 64 (a:Int) |||BitVec.ofInt 64 (b:Int)).toNat=a |||b;rw[BitVec.toNat_or,d a ha,d b hb]
 rw[g];have:=Nat.or_lt_two_pow ha hb;exact ZgS (by omega) (by omega)
theorem rot7(x:Int)(h:u64r x):ZhX x 7=some (IntKind.wrap .u64 (IntKind.wrap .u64 (x * 128)+IntKind.wrap .u64 (Int.tdiv x 144115188075855872))):=by
 unfold ZhX;have d:IntKind.wrap .u64 (((BitVec.ofInt (IntKind.bits .u64) (IntKind.wrap .u64 (7:Int))) &&& (BitVec.ofInt (IntKind.bits .u64) (63:Int))).toNat:Int)=7:=by decide
 have e57:IntKind.wrap .u64 ((64:Int)-7)=57:=by decide
 simp only[d,e57,pw57,pw7];rw[Zap (by omega),Zap (by omega),Zsv h 144115188075855872 (by omega)];obtain⟨n,rfl⟩ : ∃n:Nat,x=n:=⟨x.toNat,by have:=h.1;omega⟩;have j:=h.2;have e:IntKind.wrap .u64 ((n:Int) * 128)=((n % 2 ^ 57 * 128:Nat):Int):=by
  simp only[IntKind.wrap,IntKind.bits,IntKind.signed];simp;omega
 have g:Int.fdiv (n:Int) 144115188075855872=((n / 2 ^ 57:Nat):Int):=by
  rw[Int.fdiv_eq_tdiv_of_nonneg (by omega) (by omega)];exact(Int.ofNat_tdiv n 144115188075855872).symm
 have hlt:n % 2 ^ 57 * 128<2 ^ 64:=by omega
 have hlt2:n / 2 ^ 57<2 ^ 7:=by omega
 rw[e,g,ZPY _ _ hlt (by omega)];have i:n % 2 ^ 57 * 128 |||n / 2 ^ 57=n % 2 ^ 57 * 128+n / 2 ^ 57:=by
  have:=Nat.shiftLeft_add_eq_or_of_lt hlt2 (n % 2 ^ 57);rw[Nat.shiftLeft_eq]at this;exact this.symm
 rw[i];congr 1;rw[ZgS (by omega) (by omega)];omega
theorem ZNR(k:Int)(l:List Int)(hl:l.length<=1000):∃h,ZsV k l=some h/\ZhZ k l=some h/\u64r h:=by
 have hL:l.length<=maxLen:=by unfold maxLen;omega
 have au:∀fu (i:Nat) (v:Int),u64r v->i<=l.length->l.length-i<fu->∃h,ZoN fu v l (l.length:Int) (i:Int)=some h/\Zgf l fu v (i:Int)=some h/\u64r h:=by
  intro fu;induction fu with
  |zero=>intro i v _ _ h;omega
  |succ fu ih=>
   intro i v g u A;unfold ZoN Zgf;simp only[Zag];by_cases h:i<l.length
   .rw[iNb,iNb,Zap ⟨by omega,by omega⟩,Zap ⟨by omega,by omega⟩,rot7 v g];obtain⟨y,d,e,j⟩:=ZDE _ (Zop ((l.getD ((i:Int)).toNat (0:Int))+(11400714819323198485:Int)));simp only[d,e,Option.bind_some];obtain⟨z,o,r,t⟩:=ZDE _ (Zop (((BitVec.ofInt (IntKind.bits .u64) (IntKind.wrap .u64 (IntKind.wrap .u64 (v * 128)+IntKind.wrap .u64 (Int.tdiv v 144115188075855872)))) ^^^ (BitVec.ofInt (IntKind.bits .u64) y)).toNat:Int));simp only[o,r,Option.bind_some,add1 h hL];exact ih (i+1) z t (by omega) (by omega)
   .rw[iNa,iNa];exact⟨v,rfl,rfl,g⟩
 unfold ZsV ZhZ;obtain⟨y,d,e,j⟩:=ZDE _ (Zop (k+(11400714819323198485:Int)));simp only[d,e,Option.bind_some];exact au _ 0 y j (by omega) (by omega)
theorem ZDF(k:Int)(n:Zav):∃h,Zpz k n=some h/\ZeM k n=some h/\u64r h:=by
 unfold Zpz ZeM;cases n.fAddr.fV6
 .obtain⟨h,d,e,g⟩:=ZNR k [(4:Int),n.fAddr.fHi,n.fAddr.fLo,(IntKind.wrap .u64 n.fBits)] (by simp);simp only[cond_false,d,e,Option.bind_some];exact⟨h,rfl,rfl,g⟩
 .obtain⟨h,d,e,g⟩:=ZNR k [(6:Int),n.fAddr.fHi,n.fAddr.fLo,(IntKind.wrap .u64 n.fBits)] (by simp);simp only[cond_true,d,e,Option.bind_some];exact⟨h,rfl,rfl,g⟩
theorem ZNk(h n:Int)(d:u64r h)(e:1<=n)(u:n<=8):∃r,ZqN h n=some r/\ZhN h n=some r/\0<=r/\r<n:=by
 unfold ZqN ZhN;simp only[Zag,pw32];rw[iNa,iNa,iNa,iNa,Zsv d 4294967296 (by omega),Zsv (Zop _) 4294967296 (by omega)];refine⟨_,rfl,rfl,?_⟩;obtain⟨a,rfl⟩ : ∃a:Nat,h=a:=⟨h.toNat,by have:=d.1;omega⟩;have g:=d.2;have i:Int.fdiv (a:Int) 4294967296=((a / 4294967296:Nat):Int):=by
  rw[Int.fdiv_eq_tdiv_of_nonneg (by omega) (by omega)];exact(Int.ofNat_tdiv a 4294967296).symm
 rw[i,ZNE (a:=n) ⟨by omega,by omega⟩];have hb:∀m:Nat,1<=m->m<=8->a / 4294967296*m<4294967296*m:=fun m e g=>by
  have:a / 4294967296<4294967296:=by omega
  exact Nat.mul_lt_mul_of_pos_right this (by omega)
 obtain⟨m,rfl⟩ : ∃m:Nat,n=m:=⟨n.toNat,by omega⟩;have hb:=hb m (by omega) (by omega);generalize j:a / 4294967296*m=q at hb;have o:((a / 4294967296:Nat):Int)*(m:Int)=(q:Int):=by rw[<-j];simp
 rw[o,ZgS (a:=(q:Int)) (by omega) (by omega)];have t:Int.fdiv (q:Int) 4294967296=((q / 4294967296:Nat):Int):=by
  rw[Int.fdiv_eq_tdiv_of_nonneg (by omega) (by omega)];exact(Int.ofNat_tdiv q 4294967296).symm
 rw[t,Zfn (by omega) (by omega)];omega
theorem ZHn{a:Zaf}(h:Fits a):ZjU a (wid a)=a:=by
 refine ZrS (Zkc h _) h (Zjj a _) fun i d=>?_;have e:wid (ZjU a (wid a))=wid a:=by unfold wid;rw[Zjj]
 rw[e]at d;rw[Zld h (wid a) i (Nat.le_refl _) d,decide_eq_true d,Bool.true_and]
def ZBv(a:Zaf):Zav:=if Zdo a=true then⟨a,(wid a:Int)⟩else⟨⟨false,0,0⟩,0⟩
theorem ZKM(a:Zaf)(h:a.ok):ZqO a=some (ZBv a):=by
 unfold ZqO ZBv;simp only[ZEH,Option.bind_some,ZDH a h];by_cases d:Zdo a=true
 .rw[if_pos ⟨d,by omega,by omega⟩,if_pos d];simp only[Int.toNat_natCast,ZHn (ZoT h d)]
 .rw[if_neg (fun x=>d x.1),if_neg d]
theorem ZNg(d lo:Nat)(o:d<2 ^ 64)(r:lo<2 ^ 64):∀fu (i:Nat) (z:Int),i<=64->64-i<fu->(i<64->z=((2 ^ (63-i):Nat):Int)) ->
  ZcL (d:Int) (lo:Int) 128 fu ((d-d % 2 ^ (64-i):Nat):Int) ((lo-lo % 2 ^ (64-i):Nat):Int) z (i:Int)=some ((d:Int),(lo:Int)):=by
 intro fu;induction fu with
 |zero=>intro i z _ h;omega
 |succ fu ih=>
  intro i z hi64 B j;unfold ZcL;simp only[Zag];by_cases h:i<64
  .have v:Zau (i:Int) 64=((i+64:Nat):Int):=by rw[Zbs (by omega) (by omega)];omega
   have y:Zau (i:Int) 1=((i+1:Nat):Int):=by rw[Zbs (by omega) (by omega)];omega
   have j:=j h;obtain⟨p,g⟩ : ∃p:Nat,p=2 ^ (63-i):=⟨_,rfl⟩;have gf:0<p:=by rw[g];exact Nat.two_pow_pos _
   have aT:2 ^ (64-i)=2*p:=by rw[g,show 64-i=(63-i)+1 by omega,Nat.pow_succ];omega
   have hp3:p<=2 ^ 63:=by rw[g];exact Nat.pow_le_pow_right (by omega) (by omega)
   have a4:p<2 ^ 64:=by omega
   rw[<-g]at j;subst j;have fw:IntKind.wrap .u64 (Int.tdiv (p:Int) 2)=((p / 2:Nat):Int):=by
    rw[Zsv ⟨by omega,by omega⟩ 2 (by omega),Int.fdiv_eq_tdiv_of_nonneg (by omega) (by omega)];exact(Int.ofNat_tdiv p 2).symm
   have c8:i+1<64->((p / 2:Nat):Int)=((2 ^ (63-(i+1)):Nat):Int):=fun t=>by
    have:p=2 * 2 ^ (63-(i+1)):=by rw[g,show 63-i=(63-(i+1))+1 by omega,Nat.pow_succ];omega
    rw[this];congr 1;omega
   have bit:∀n:Nat,n<2 ^ 64->IntKind.wrap .u64 (Int.tdiv (n:Int) (p:Int))=((n / p:Nat):Int):=fun n A=>by
    rw[Zsv ⟨by omega,by omega⟩ _ (by omega),Int.fdiv_eq_tdiv_of_nonneg (by omega) (by omega)];exact(Int.ofNat_tdiv n p).symm
   have step:∀n:Nat,n<2 ^ 64->(n / p % 2=1->IntKind.wrap .u64 (((n-n % 2 ^ (64-i):Nat):Int)+(p:Int))=((n-n % 2 ^ (64-(i+1)):Nat):Int))/\(n / p % 2≠1->((n-n % 2 ^ (64-i):Nat):Int)=((n-n % 2 ^ (64-(i+1)):Nat):Int)):=fun n A=>by
    have e:2 ^ (64-(i+1))=p:=by rw[g];congr 1;omega
    rw[e,aT];have u:n % (2*p)=n % p+p*(n / p % 2):=by rw[Nat.mul_comm 2 p];exact Nat.mod_mul
    have hm2:n % p<p:=Nat.mod_lt _ gf;have hm3:n % (2*p)<=n:=Nat.mod_le _ _;refine⟨fun hb=>?_,fun hb=>?_⟩
    .rw[hb,Nat.mul_one]at u;rw[ZgS (by omega) (by omega)];omega
    .have hb0:n / p % 2=0:=by omega
     rw[hb0,Nat.mul_zero]at u;rw[u];congr 1
   have tm:∀n:Nat,((Int.tmod ((n:Nat):Int) 2)==(1:Int))=decide (n % 2=1):=fun n=>by
    have:Int.tmod ((n:Nat):Int) 2=((n % 2:Nat):Int):=(Int.ofNat_tmod n 2).symm;rw[this];by_cases t:n % 2=1
    .rw[t];rfl
    .rw[decide_eq_false t];exact beq_false_of_ne (by omega)
   have fD:∀v8:Int,v8=((d-d % 2 ^ (64-(i+1)):Nat):Int)->Zey (d:Int) (lo:Int) 128 ((lo-lo % 2 ^ (64-i):Nat):Int) (p:Int) (i:Int) (ZcL (d:Int) (lo:Int) 128 fu) v8=some ((d:Int),(lo:Int)):=by
    rintro v8 rfl;unfold Zey;simp only[Zag,v,y,fw,bit lo r,tm];rw[iNb,Zap (by omega)];by_cases hb:lo / p % 2=1
    .rw[if_pos hb,(step lo r).1 hb];exact ih (i+1) _ (by omega) (by omega) c8
    .rw[if_neg hb,(step lo r).2 hb];exact ih (i+1) _ (by omega) (by omega) c8
   rw[iNb,iNb,Zap (by omega)];simp only[bit d o,tm,Zag];by_cases hb:d / p % 2=1
   .rw[if_pos hb];exact fD _ ((step d o).1 hb)
   .rw[if_neg hb];exact fD _ ((step d o).2 hb)
  .have:i=64:=by omega
   subst this;rw[iNa];simp[Nat.mod_one]
theorem ZJa(d lo:Nat)(e:d<2 ^ 64)(g:lo<2 ^ 64):ZeO (d:Int) (lo:Int) 128=some ((d:Int),(lo:Int)):=by
 unfold ZeO;have:=ZNg d lo e g 66 0 9223372036854775808 (by omega) (by omega) (fun _=>by decide);have i:d-d % 2 ^ (64-0)=0:=by rw[Nat.sub_zero,Nat.mod_eq_of_lt e];omega
 have j:lo-lo % 2 ^ (64-0)=0:=by rw[Nat.sub_zero,Nat.mod_eq_of_lt g];omega
 rw[i,j]at this;exact this
theorem ZFu(a:Zaf)(h:a.ok):Zfr a=some (ZBv a):=by
 unfold Zfr ZjX ZBv;simp only[ZsN,Option.bind_some,ZjC a h,Zag];by_cases g:Zdo a=true
 .rw[g,Bool.not_true,cond_false,iNa,iNa,if_pos rfl];unfold ZjW ZgF ZgE;simp only[ZjC a h,g,Bool.not_true,cond_false,Option.bind_some,Zag,ZsN];rw[iNa,iNa];have d:=ZoT h g;obtain⟨v6,j,lo⟩:=a;have r:=d.hi0;have t:=d.hi1;have u:=d.lo0;have v:=d.lo1;simp only at r t u v;obtain⟨x,rfl⟩ : ∃x:Nat,j=x:=⟨j.toNat,by omega⟩;obtain⟨y,rfl⟩ : ∃y:Nat,lo=y:=⟨lo.toNat,by omega⟩;cases v6
  .have o:=d.v4 rfl;have e:wid ⟨false,(x:Int),(y:Int)⟩=32:=rfl;have A:Zau (96:Int) ((32:Nat):Int)=128:=by decide
   simp only[e,A,cond_false];have:=ZJa 0 y (by omega) (by omega);have i:ZeO (0:Int) (y:Int) 128=some (((0:Nat):Int),(y:Int)):=this;rw[i,Option.bind_some];simp only at o;simp[o.1]
  .have e:wid ⟨true,(x:Int),(y:Int)⟩=128:=rfl;simp only[e,cond_true];have:=ZJa x y (by omega) (by omega);have i:ZeO (x:Int) (y:Int) ((128:Nat):Int)=some ((x:Int),(y:Int)):=this;rw[i,Option.bind_some];rfl
 .simp[g]
def ZuO(a:Zaf)(s n:Int):Int:=(Zqd a s n).getD 0
def ZnO(p:Int):Int:=if p<1 then 1 else if p>8 then 8 else p
theorem Zor(a:Zaf)(h:a.ok)(s n:Int):Zqd a s n=some (ZuO a s n)/\Zcf a s n=some (ZuO a s n)/\0<=ZuO a s n/\ZuO a s n<ZnO n:=by
 have g:ZoL n=some (ZnO n):=by
  unfold ZoL ZnO;congr 1
  repeat' split
  all_goals omega
 have i:ZcE n=some (ZnO n):=by
  unfold ZcE ZnO;simp only[Zag]
  repeat' split
  all_goals rfl
 have d:1<=ZnO n/\ZnO n<=8:=by
  unfold ZnO
  repeat' split
  all_goals omega
 obtain⟨m,j,o,t⟩:=ZDF s (ZBv a);obtain⟨r,u,v,y,A⟩:=ZNk m (ZnO n) t d.1 d.2;have e:Zqd a s n=some r:=by
  unfold Zqd;simp only[ZKM a h,j,g,u,Option.bind_some]
 have B:Zcf a s n=some r:=by
  unfold Zcf;simp only[ZFu a h,o,i,v,Option.bind_some]
 have C:ZuO a s n=r:=by unfold ZuO;rw[e];rfl
 rw[C];exact⟨e,B,y,A⟩
def grp(a:Zaf):Zav:=if Zdo a then(if a.fV6 then⟨⟨true,a.fHi-a.fHi % 4294967296,0⟩,32⟩else⟨⟨false,0,a.fLo-a.fLo % 65536⟩,16⟩)else⟨⟨false,0,0⟩,0⟩
theorem top16:Zgr 16=some 18446462598732840960:=by decide +kernel
theorem top32:Zgr 32=some 18446744069414584320:=by decide +kernel
theorem topm:Zgr (Zbl 32 64)=some 0:=by decide +kernel
theorem ZGu(n k:Nat)(j:k<=64)(h:n<2 ^ 64):n &&& (2 ^ 64-2 ^ k)=n-n % 2 ^ k:=by
 have e:n-n % 2 ^ k=2 ^ k*(n / 2 ^ k):=by have:=Nat.div_add_mod n (2 ^ k);omega
 rw[e];apply Nat.eq_of_testBit_eq;intro i;have g:2 ^ 64-2 ^ k=2 ^ k*(2 ^ (64-k)-1):=by
  rw[Nat.mul_sub,<-Nat.pow_add,Nat.mul_one];congr 2;omega
 rw[Nat.testBit_and,g,Nat.testBit_two_pow_mul,Nat.testBit_two_pow_mul,Nat.testBit_two_pow_sub_one,Nat.testBit_div_two_pow];by_cases d:k<=i
 .by_cases o:i<64
  .simp[d,show i-k<64-k by omega,show i-k+k=i by omega]
  .have:n.testBit i=false:=Nat.testBit_lt_two_pow (Nat.lt_of_lt_of_le h (Nat.pow_le_pow_right (by omega) (by omega)));simp[d,this,show i-k+k=i by omega]
 .simp[d]
theorem ZQr(n:Nat)(h:n<4294967296):n &&& 4294901760=n-n % 65536:=by
 have d:=ZGu n 16 (by omega) (by omega);have e:n &&& 4294901760=n &&& (2 ^ 64-2 ^ 16):=by
  apply Nat.eq_of_testBit_eq;intro i;rw[Nat.testBit_and,Nat.testBit_and];by_cases g:i<32
  .congr 1;have:∀i:Fin 32,Nat.testBit 4294901760 i.val=Nat.testBit (2 ^ 64-2 ^ 16) i.val:=by decide
   exact this ⟨i,g⟩
  .have:n.testBit i=false:=Nat.testBit_lt_two_pow (Nat.lt_of_lt_of_le h (Nat.pow_le_pow_right (n:=2) (by omega) (show 32<=i by omega)));rw[this];rfl
 rw[e,d]
theorem ZxX(a b:Nat)(ha:a<2 ^ 64)(hb:b<2 ^ 64):IntKind.u64.wrap (((BitVec.ofInt (IntKind.bits .u64) (a:Int)) &&& (BitVec.ofInt (IntKind.bits .u64) (b:Int))).toNat:Int)=((a &&& b:Nat):Int):=by
 rw[ZEJ a b ha hb];have:a &&& b<2 ^ 64:=Nat.and_lt_two_pow _ hb;exact ZgS (by omega) (by omega)
theorem ZsU(a:Zaf)(h:a.ok):Zke a=some (grp a):=by
 have r:=Zom a h;obtain⟨v,A,lo⟩:=a;obtain⟨_,e,g,_⟩:=h;have e:=Zjy e;have g:=Zjy g;simp only at e g;obtain⟨n,t⟩:=ZjE e.1;obtain⟨m,u⟩:=ZjE g.1;subst t u;cases i:Zdo ⟨v,n,m⟩with
 |false=>
  cases v<;>simp[Zke,Zna,Zht,r,i,grp]
 |true=>
  cases v with
  |false=>
   have y:(n:Int)=0/\(m:Int)<4294967296:=by simpa[Zdo]using i
   have j:(m &&& 4294901760:Nat)=m-m % 65536:=ZQr m (by omega);have d:=ZxX m 4294901760 (by omega) (by omega);rw[j]at d;have o:Int.fdiv (18446462598732840960:Int) (2 ^ (min (32:Int).toNat (IntKind.bits .u64)))=((4294901760:Nat):Int):=by decide +kernel
   simp only[Zke,Zna,Zht,r,i,Option.bind_some,cond_false,Bool.not_true,ZeQ,ZjY,Bool.not_false,cond_true,grp,if_true,Bool.false_eq_true,if_false];simp only[show (decide ((16:Int)<0))=false from rfl,show decide ((16:Int)>32)=false from rfl,cond_false,Option.bind_some];rw[show (if(32:Int)<(if(0:Int)>16 then(0:Int)else 16)then(32:Int)else(if(0:Int)>16 then(0:Int)else 16))=16 from rfl,top16];simp only[Option.bind_some,o,d,y.1];congr 4;omega
  |true=>
   have d:=ZxX n 18446744069414584320 (by omega) (by omega);have j:=ZGu n 32 (by omega) (by omega);rw[show (2:Nat) ^ 64-2 ^ 32=18446744069414584320 from rfl,show (2:Nat) ^ 32=4294967296 from rfl]at j;rw[j]at d;have o:=ZxX m 0 (by omega) (by omega);rw[Nat.and_zero]at o;simp only[Zke,Zna,Zht,r,i,Option.bind_some,cond_false,Bool.not_true,ZeQ,ZjY,Bool.not_false,cond_true,grp,if_true,Bool.false_eq_true,if_false];simp only[show (decide ((32:Int)<0))=false from rfl,show decide ((32:Int)>128)=false from rfl,cond_false,Option.bind_some];rw[show (if(128:Int)<(if(0:Int)>32 then(0:Int)else 32)then(128:Int)else(if(0:Int)>32 then(0:Int)else 32))=32 from rfl];simp only[ZoS,top32,topm,Option.bind_some];simp only[show ((18446744069414584320:Int))=((18446744069414584320:Nat):Int)from rfl,show (0:Int)=((0:Nat):Int)from rfl,d,o];congr 4;omega
theorem ZFt(a:Zaf)(h:a.ok):ZdQ a=some (grp a):=by
 have g:=ZjC a h;obtain⟨v,i,lo⟩:=a;obtain⟨_,d,e,_⟩:=h;have d:=Zjy d;have e:=Zjy e;simp only at d e;have t1:Int.tmod i 4294967296=i % 4294967296:=Int.tmod_eq_emod_of_nonneg d.1;have t2:Int.tmod lo 65536=lo % 65536:=Int.tmod_eq_emod_of_nonneg e.1;cases j:Zdo ⟨v,i,lo⟩with
 |false=>simp[ZdQ,g,j,grp]
 |true=>
  cases v with
  |false=>
   simp only[ZdQ,g,j,Option.bind_some,cond_false,Bool.not_true,grp,if_true,Bool.false_eq_true,if_false,t2];rw[ZgS (by omega) (by omega)]
  |true=>
   simp only[ZdQ,g,j,Option.bind_some,cond_false,Bool.not_true,grp,if_true,cond_true,t1];rw[ZgS (by omega) (by omega)]
def ZkG:Zaa:=⟨⟨⟨false,0,0⟩,0⟩,false,0,⟨0,0⟩,0,0⟩
def valZ:Zae:=⟨0,ZkG,[],[]⟩
def locZ:Zas:=⟨0,0,0⟩
def opZ:Zat:=⟨0,0,locZ,0,0,valZ,false⟩
def endZ:Zah:=⟨⟨false,0,0⟩,0⟩
def repZ:Zai:=⟨0,endZ,0,0,[]⟩
def locN(l:Zas):Zas:=if l.fKind=1\/l.fKind=2\/l.fKind=3\/l.fKind=4 then⟨l.fKind,0,0⟩else if l.fKind=5 then⟨l.fKind,l.fShard,0⟩else if l.fKind=6 then l else locZ
def valN(k:Int)(v:Zae):Zae:=if k=1\/k=2\/k=5 then⟨v.fN,ZkG,[],[]⟩else if k=3 then⟨0,ZkG,v.fBans,[]⟩else if k=4 then⟨0,ZkG,[],v.fBook⟩else if k=6 then⟨0,v.fPeer,[],[]⟩else valZ
def opN(o:Zat):Zat:=if o.fKind=1\/o.fKind=2\/o.fKind=3\/o.fKind=4 then⟨o.fKind,o.fLock,locZ,0,0,valZ,o.fMark⟩else if o.fKind=5 then⟨o.fKind,0,locN o.fLoc,0,0,valZ,o.fMark⟩else if o.fKind=6 then⟨o.fKind,0,locN o.fLoc,0,0,valN o.fLoc.fKind o.fVal,o.fMark⟩else if o.fKind=7 then⟨o.fKind,0,locN o.fLoc,o.fOld,o.fNew,valZ,o.fMark⟩else if o.fKind=8 then⟨o.fKind,0,locZ,0,0,valZ,o.fMark⟩else opZ
theorem Zdn(a b:Int){α:Type}(x y:α):(bif a==b then x else y)=if a=b then x else y:=by
 by_cases h:a=b
 .subst h;simp
 .rw[if_neg h,beq_false_of_ne h];rfl
theorem ZHc(l:Zas):ZnZ l=some (locN l):=by
 obtain⟨k,s,t⟩:=l;unfold ZnZ Zks locN;simp only[Zdn]
 repeat' split
 all_goals first|rfl | (simp_all [locZ];done) | (exfalso;omega)
theorem ZGF(k:Int)(v:Zae):Zsk k v=some (valN k v):=by
 unfold Zsk ZlD valN;simp only[Zdn]
 repeat' split
 all_goals first|rfl | (simp_all [valZ,ZkG];done) | (exfalso;omega)
theorem ZHO(o:Zat):Zsl o=some (opN o):=by
 unfold Zsl Zkt opN;simp only[Zdn,ZHc,ZGF,Option.bind_some]
 repeat' split
 all_goals first|rfl | (simp_all [opZ,locZ,valZ,ZkG];done) | (exfalso;omega)
theorem ZDt(l:Zas):ZiK l=some (locN l):=by
 obtain⟨k,s,t⟩:=l;unfold ZiK Zhd locN;simp only[Zag]
 repeat' split
 all_goals first|rfl | (simp_all [locZ];done) | (exfalso;omega) | (simp only[Option.some.injEq,Zas.mk.injEq,locZ];omega)
theorem ZwM(k:Int)(v:Zae):ZhC k v=some (valN k v):=by
 unfold ZhC ZdI Zgk Zgj valN;simp only[Zdn]
 repeat' split
 all_goals first|rfl | (simp_all [valZ,ZkG];done) | (exfalso;omega)
theorem ZwP(o:Zat):ZhE o=some (opN o):=by
 unfold ZhE Zgm ZeI Zgl opN;simp only[Zag,Zdn,ZDt,ZwM,Option.bind_some]
 repeat' split
 all_goals first|rfl | (exfalso;omega)
def okV(v:Zae):Prop:=v.fBans.length<=1000000/\v.fBook.length<=1000000
theorem ZzS:okV valZ:=⟨by simp[valZ],by simp[valZ]⟩
theorem okV_N{k:Int}{v:Zae}(h:okV v):okV (valN k v):=by
 unfold valN
 repeat' split
 all_goals first|exact ZzS|exact⟨Nat.zero_le _,Nat.zero_le _⟩|exact⟨h.1,Nat.zero_le _⟩|exact⟨Nat.zero_le _,h.2⟩
theorem ZvA{o:Zat}(h:okV o.fVal):okV (opN o).fVal:=by
 unfold opN
 repeat' split
 all_goals first|exact ZzS|exact okV_N h
theorem Zaw{α β:Type}(x:α)(f:α->Option β):(some x).bind f=f x:=by simp
def wk(got:List Zae)(a:Nat):Zad:=⟨got,(a:Int),opZ,false⟩
def wt(got:List Zae)(o:Zat):Zad:=⟨got,(got.length:Int),o,true⟩
theorem ZLb(o:Zat):Zdq ⟨[]⟩ o=some (.pan (opN o)):=by
 simp[Zdq,ZHO]
theorem ZGt(v:Zae)(r:List Zae)(o:Zat):Zdq ⟨v :: r⟩ o=some (.ret v ⟨r⟩):=by
 have h:(((v :: r).length:Nat):Int)≠0:=by simp only[List.length_cons];omega
 unfold Zdq;simp only[Zdn,if_neg h];rw[Zap (by simp only[List.length_cons];omega),Zap (by simp only[List.length_cons];omega)];rfl
theorem ZCm(got:List Zae)(a:Nat)(o:Zat):Zdq ⟨got.drop a⟩ o=some (if a<got.length then .ret (got.getD a Zae.d) ⟨got.drop (a+1)⟩else .pan (opN o)):=by
 split
 .rename_i h;rw[Zez got Zae.d a h,ZGt]
 .rename_i h;rw[List.drop_eq_nil_of_le (by omega),ZLb]
theorem ZlS(got:List Zae)(a:Nat)(o:Zat)(hL:got.length<=1000000)(ha:a<=got.length):ZcJ (wk got a) o=some (if a<got.length then(wk got (a+1),got.getD a Zae.d)else(wt got (opN o),valZ)):=by
 unfold ZcJ wk;simp only[cond_false,Zag,ZwP,Option.bind_some];by_cases h:a<got.length
 .rw[iNb,if_pos h];have e:Zau (a:Int) 1=((a+1:Nat):Int):=add1 (n:=got.length) h (by simp only[maxLen];omega);have g:Zbl ((a+1:Nat):Int) 1=(a:Int):=by
   unfold Zbl;have:IntKind.i64.wrap (((a+1:Nat):Int)-1)=((a+1:Nat):Int)-1:=Zfn (by omega) (by omega);exact this.trans (by omega)
  rw[e,g,Zap (by omega)];rfl
 .rw[iNa,if_neg h];have:a=got.length:=by omega
  subst this;rfl
theorem Zov(got:List Zae)(q o:Zat):ZcJ (wt got q) o=some (wt got q,valZ):=by
 unfold ZcJ wt;simp only[cond_true];rfl
def Lka{α β:Type}(got:List Zae)(a0:Nat)(P:α->β->Prop)(W:β->Prop)(t:Option (Tout α))(r:Option (Zad×β)):Prop:=(∃v b a,t=some (.ret v ⟨got.drop a⟩)/\r=some (wk got a,b)/\a0<=a/\a<=got.length/\P v b)\/∃q b,t=some (.pan q)/\r=some (wt got q,b)/\okV q.fVal/\W b
def eqP{α:Type}:α->α->Prop:=fun x y=>x=y
def anyP{α β:Type}:α->β->Prop:=fun _ _=>True
def anyW{β:Type}:β->Prop:=fun _=>True
theorem Lka.weak{α β:Type}{got:List Zae}{d e:Nat}{P:α->β->Prop}{W:β->Prop}{t:Option (Tout α)}{r:Option (Zad×β)}(h:Lka got e P W t r)(ha:d<=e):Lka got d P W t r:=by
 rcases h with⟨v,b,a,g,i,u,j,o⟩|h
 .exact .inl ⟨v,b,a,g,i,by omega,j,o⟩
 .exact .inr h
section
variable {got:List Zae} (hL:got.length<=1000000) {a:Nat} (ha:a<=got.length)
include hL ha
theorem Zye(l:Zas)(hl:True):Lka got (a+1) eqP anyW (ZfR ⟨got.drop a⟩ l false) (ZaE (wk got a) l):=by
 unfold ZfR ZaE;rw[ZCm,ZlS _ _ _ hL ha];by_cases h:a<got.length
 .simp only[if_pos h,Option.bind_some];exact .inl ⟨_,_,a+1,rfl,rfl,Nat.le_refl _,h,rfl⟩
 .simp only[if_neg h,Option.bind_some];exact .inr ⟨_,_,rfl,rfl,ZvA ZzS,trivial⟩
theorem ZLi(k old ae:Int)(ai:Bool):Lka got (a+1) eqP anyW (Ziz ⟨got.drop a⟩ ⟨k,0,0⟩ old ae ai) (Zeo (wk got a) k old ae ai):=by
 unfold Ziz Zeo;rw[ZCm,ZlS _ _ _ hL ha];by_cases h:a<got.length
 .simp only[if_pos h,Option.bind_some];exact .inl ⟨_,_,a+1,rfl,rfl,Nat.le_refl _,h,rfl⟩
 .simp only[if_neg h,Option.bind_some];exact .inr ⟨_,_,rfl,rfl,ZvA ZzS,trivial⟩
theorem ZGA(l:Zas)(v:Zae)(ai:Bool)(d:okV v):Lka got (a+1) anyP anyW (Zfo ⟨got.drop a⟩ l v ai) ((ZaA (wk got a) l v ai).map fun w=>(w,())):=by
 unfold Zfo ZaA;rw[ZCm,ZlS _ _ _ hL ha];by_cases h:a<got.length
 .simp only[if_pos h,Option.bind_some,Option.map_some];exact .inl ⟨_,_,a+1,rfl,rfl,Nat.le_refl _,h,trivial⟩
 .simp only[if_neg h,Option.bind_some,Option.map_some];exact .inr ⟨_,_,rfl,rfl,ZvA d,trivial⟩
theorem ZPF(k:Int)(ai:Bool):Lka got (a+1) anyP anyW (ZjQ ⟨got.drop a⟩ k ai) ((Zaj (wk got a) 1 k ai).map fun w=>(w,())):=by
 unfold ZjQ Zaj;rw[ZCm,ZlS _ _ _ hL ha];by_cases h:a<got.length
 .simp only[if_pos h,Option.bind_some,Option.map_some];exact .inl ⟨_,_,a+1,rfl,rfl,Nat.le_refl _,h,trivial⟩
 .simp only[if_neg h,Option.bind_some,Option.map_some];exact .inr ⟨_,_,rfl,rfl,ZvA ZzS,trivial⟩
theorem ZPG(k:Int)(ai:Bool):Lka got (a+1) anyP anyW (ZfS ⟨got.drop a⟩ k ai) ((Zaj (wk got a) 3 k ai).map fun w=>(w,())):=by
 unfold ZfS Zaj;rw[ZCm,ZlS _ _ _ hL ha];by_cases h:a<got.length
 .simp only[if_pos h,Option.bind_some,Option.map_some];exact .inl ⟨_,_,a+1,rfl,rfl,Nat.le_refl _,h,trivial⟩
 .simp only[if_neg h,Option.bind_some,Option.map_some];exact .inr ⟨_,_,rfl,rfl,ZvA ZzS,trivial⟩
end
theorem ZdB(got:List Zae)(q:Zat)(l:Zas):ZaE (wt got q) l=some (wt got q,valZ):=by
 unfold ZaE;rw[Zov];rfl
theorem ZLh(got:List Zae)(q:Zat)(k old ae:Int)(ai:Bool):Zeo (wt got q) k old ae ai=some (wt got q,false):=by
 unfold Zeo;rw[Zov];rfl
theorem Zic(got:List Zae)(q:Zat)(l:Zas)(v:Zae)(ai:Bool):ZaA (wt got q) l v ai=some (wt got q):=by
 unfold ZaA;rw[Zov];rfl
theorem ZaO(got:List Zae)(q:Zat)(k l:Int)(ai:Bool):Zaj (wt got q) k l ai=some (wt got q):=by
 unfold Zaj;rw[Zov];rfl
theorem ZmW{r:Option Zad}{w:Zad}{b:Unit}(h:r.map (fun w=>(w,()))=some (w,b)):r=some w:=by
 cases r with
 |none=>cases h
 |some x=>simp at h;rw[h]
theorem Zeg(got:List Zae)(q:Zat):(wt got q).fWait=true:=rfl
theorem ZgG(got:List Zae)(a:Nat):(wk got a).fWait=false:=rfl
theorem ZLj{got:List Zae}(hL:got.length<=1000000)(part n:Int)(b4:Zad)(b7:Zae)(j:∀i:Nat,(i:Int)<n↔(i:Int)<b7.fN):∀(k a i:Nat)(w:List Zaa)(fu F:Nat),got.length-a=k->a<=got.length->i<=a->w.length=i ->
  (n-(i:Int)).toNat+1<=fu->k+3<=F->Lka got a (fun x y=>x=y/\x.length<=got.length) (fun b=>b.length<=got.length+1) (Zho part fu n i w ⟨got.drop a⟩) (Zcy part F i w b4 (wk got a) b7):=by
 intro k;induction k using Nat.strongRecOn with
 |ind k ih=>
  intro a i w fu F E ha G r hfu H;obtain⟨fu,rfl⟩:=sC fu;obtain⟨F,rfl⟩:=sC F;unfold Zho Zcy;simp only[Zag,ZgG,Bool.not_false,cond_true];by_cases h:(i:Int)<n
  .rw[if_pos h,if_pos ((j i).1 h)];have e:ZkK part i=some ⟨6,part,i⟩:=rfl;simp only[e,Option.bind_some];have hlen:∀p:Zaa,(w++[p]).length * 80<=140737488355328/\(w++[p]).length<=maxLen:=fun p=>by simp only[List.length_append,List.length_singleton,maxLen];omega
   have o:Zau (i:Int) 1=((i+1:Nat):Int):=add1 (n:=i+1) (by omega) (by simp only[maxLen];omega);rcases Zye hL ha ⟨6,part,i⟩ trivial with⟨v,b,a',d,g,I,t,rfl⟩|⟨q,b,d,g,hq,J⟩
   .simp only[d,g,Option.bind_some];rw[Zap (hlen _),Zap (hlen _),o];rcases ih (got.length-a') (by omega) a' (i+1) (w++[v.fPeer]) fu F rfl t (by omega) (by simp[r]) (by omega) (by omega)with⟨x,y,u,A,B,L,C,D⟩|hq
    .exact .inl ⟨x,y,u,A,B,by omega,C,D⟩
    .exact .inr hq
   .simp only[d,g,Option.bind_some];rw[Zap (hlen _),o];obtain⟨F,rfl⟩:=sC F;unfold Zcy;simp only[Zag,Zeg,Bool.not_true,cond_false];refine .inr ⟨q,w++[b.fPeer],rfl,?_,hq,by simp only[List.length_append,List.length_singleton];omega⟩;split<;>rfl
  .rw[if_neg h,if_neg (fun h'=>h ((j i).2 h'))];exact .inl ⟨w,w,a,rfl,rfl,Nat.le_refl _,ha,rfl,by omega⟩
theorem Zsy(got:List Zae)(q:Zat)(part i:Int)(w:List Zaa)(b4:Zad)(b7:Zae)(F:Nat)(d:1<=F):Zcy part F i w b4 (wt got q) b7=some (wt got q,w):=by
 obtain⟨F,rfl⟩:=sC F;unfold Zcy;simp only[Zag,Zeg,Bool.not_true,cond_false];split<;>rfl
theorem ZPC{got:List Zae}(hL:got.length<=900000){a:Nat}(ha:a<=got.length)(part:Int):Lka got a (fun x y=>x=y/\x.length<=got.length) (fun b=>b.length<=got.length+1) (ZoH ⟨got.drop a⟩ part) (ZbR (wk got a) part):=by
 unfold ZoH ZbR;have e:ZkL part=some ⟨5,part,0⟩:=rfl;simp only[e,Zaw];rcases Zye (by omega) ha ⟨5,part,0⟩ trivial with⟨v,b,a',g,d,B,j,rfl⟩|⟨q,b,g,d,hq,C⟩
 .simp only[g,d,Zaw];rcases ZLj (by omega) part (if(0:Int)>v.fN then 0 else v.fN) ⟨[],0,⟨0,0,⟨0,0,0⟩,0,0,⟨0,⟨⟨⟨false,0,0⟩,0⟩,false,0,⟨0,0⟩,0,0⟩,[],[]⟩,false⟩,false⟩ v (fun i=>by split<;>omega) (got.length-a') a' 0 [] _ 1000000 rfl j (by omega) rfl (Nat.le_succ _) (by omega)with⟨x,y,o,r,t,D,u,A⟩|hq
  .exact .inl ⟨x,y,o,r,t,by omega,u,A⟩
  .exact .inr hq
 .simp only[g,d,Zaw];have hb:b=valZ:=by
   unfold ZaE at d;rw[ZlS _ _ _ (by omega) ha]at d;by_cases h:a<got.length
   .simp only[if_pos h,Zaw,Option.some.injEq,Prod.mk.injEq]at d;exact absurd d.1 (by simp[wk,wt])
   .simp only[if_neg h,Zaw,Option.some.injEq,Prod.mk.injEq]at d;exact d.2.symm
  subst hb;exact .inr ⟨q,[],rfl,Zsy got q part 0 [] _ valZ 1000000 (by omega),hq,Nat.zero_le _⟩
theorem Zon(got:List Zae)(q:Zat)(part:Int):ZbR (wt got q) part=some (wt got q,[]):=by
 unfold ZbR;simp only[ZdB,Zaw];exact Zsy got q part 0 [] _ valZ 1000000 (by omega)
theorem ZEM(was ae:List Zaa)(y:ae.length<=1000000):∀(k i:Nat)(w:List Int)(f g:Nat),ae.length-i=k->i<=ae.length->w.length<=i->(∀x∈w,0<=x/\x<(ae.length:Int))->k+1<=f->k+1<=g ->
  ∃l:List Int,Zdd was f ae (ae.length:Int) i w=some l/\Zck was ae g i w=some l/\l.length<=ae.length/\∀x∈l,0<=x/\x<(ae.length:Int):=by
 intro k;induction k with
 |zero=>
  intro i w f g r t u hx v hg;obtain⟨f,rfl⟩:=sC f;obtain⟨g,rfl⟩:=sC g;unfold Zdd Zck;simp only[Zag];rw[iNa,iNa];exact⟨w,rfl,rfl,by omega,hx⟩
 |succ k ih=>
  intro i w f g r t u hx v hg;obtain⟨f,rfl⟩:=sC f;obtain⟨g,rfl⟩:=sC g;unfold Zdd Zck;simp only[Zag];have j:(i:Int)<(ae.length:Int):=by omega
  rw[if_pos j,if_pos j,Zap (by omega)];have e:Zau (i:Int) 1=((i+1:Nat):Int):=add1 (n:=i+1) (by omega) (by simp only[maxLen];omega);have hlen:(w++[(i:Int)]).length * 8<=140737488355328/\(w++[(i:Int)]).length<=maxLen:=by simp only[List.length_append,List.length_singleton,maxLen];omega
  have eh:∀x∈w++[(i:Int)],0<=x/\x<(ae.length:Int):=fun x hm=>by
   rcases List.mem_append.1 hm with hm|hm
   .exact hx x hm
   .simp only[List.mem_singleton]at hm;omega
  have fB:=ih (i+1) (w++[(i:Int)]) f g (by omega) (by omega) (by simp only[List.length_append,List.length_singleton];omega) eh (by omega) (by omega);have dD:=ih (i+1) w f g (by omega) (by omega) (by omega) hx (by omega) (by omega);by_cases h:(i:Int)>=(was.length:Int)
  .rw[if_pos h,if_pos h,Zap hlen,e,Zap hlen];exact fB
  .rw[if_neg h,if_neg h,Zap (show 0<=(i:Int)/\(i:Int)<(was.length:Int)by omega),Zap (show 0<=(i:Int)/\(i:Int)<(was.length:Int)by omega),Zap (show 0<=(i:Int)/\(i:Int)<(ae.length:Int)by omega)];by_cases o:was.getD ((i:Int)).toNat Zaa.d=ae.getD ((i:Int)).toNat Zaa.d
   .simp only[o,decide_true,Bool.not_true,cond_false,e];exact dD
   .simp only[o,decide_false,Bool.not_false,cond_true];rw[Zap hlen,Zap hlen,e];exact fB
theorem ZCq(was ae:List Zaa)(d:ae.length<=1000000):∃l:List Int,Znh was ae=some l/\Zhe was ae=some l/\l.length<=ae.length/\∀x∈l,0<=x/\x<(ae.length:Int):=
 ZEM was ae d ae.length 0 [] _ _ (by omega) (by omega) (by simp) (by simp) (by omega) (by omega)
theorem Zql(got:List Zae)(q:Zat)(part:Int)(was ae:List Zaa)(d:ae.length<=1000000):ZaF (wt got q) part was ae=some (wt got q):=by
 obtain⟨l,-,e,v,g⟩:=ZCq was ae d;unfold ZaF;rw[e];simp only[Option.bind_some];generalize hb:(Zad.mk _ _ _ _)=b8;have au:∀(k i f:Nat),l.length-i=k->i<=l.length->k+1<=f->Zbm part was ae f l i (wt got q) b8=some (wt got q):=by
  intro k;induction k with
  |zero=>
   intro i f j o r;obtain⟨f,rfl⟩:=sC f;unfold Zbm;simp only[Zag,Zic,Option.bind_some];rw[iNa];simp
  |succ k ih=>
   intro i f j o r;obtain⟨f,rfl⟩:=sC f;unfold Zbm;simp only[Zag,Zic,Option.bind_some];have t:Zau (i:Int) 1=((i+1:Nat):Int):=add1 (n:=i+1) (by omega) (by simp only[maxLen];omega);have u:=g _ (ZbU l (0:Int) i (by omega));rw[iNb,Zap (by omega),Zap (by simpa using u),t];exact ih (i+1) f (by omega) (by omega) (by omega)
 exact au l.length 0 _ (by omega) (by omega) (by omega)
theorem ZNs{got:List Zae}(hL:got.length<=1000000){a:Nat}(ha:a<=got.length)(part:Int)(was ae:List Zaa)(E:ae.length<=1000000) :
  Lka got a anyP anyW (ZmZ ⟨got.drop a⟩ part was ae) ((ZaF (wk got a) part was ae).map fun w=>(w,())):=by
 obtain⟨l,F,G,W,D⟩:=ZCq was ae E;unfold ZmZ ZaF;rw[F,G];simp only[Option.bind_some];generalize hb:(Zad.mk _ _ _ _)=b8;have au:∀(k i f g a:Nat),a<=got.length->l.length-i=k->i<=l.length->k+1<=f->k+1<=g ->
   Lka got a anyP anyW (ZfB part was ae f l (l.length:Int) i ⟨got.drop a⟩) ((Zbm part was ae g l i (wk got a) b8).map fun w=>(w,())):=by
  intro k;induction k with
  |zero=>
   intro i f g a ha t u A hg;obtain⟨f,rfl⟩:=sC f;obtain⟨g,rfl⟩:=sC g;unfold ZfB Zbm;simp only[Zag];rw[iNa,iNa];have e:ZkL part=some ⟨5,part,0⟩:=rfl;simp only[e,Option.bind_some];cases Z:(((was.length:Nat):Int) != ((ae.length:Nat):Int))with
   |false=>
    simp only[cond_false];exact .inl ⟨(),(),a,rfl,rfl,Nat.le_refl _,ha,trivial⟩
   |true=>
    simp only[cond_true];rcases ZGA hL ha ⟨5,part,0⟩ ⟨(ae.length:Int),ZkG,[],[]⟩ false ⟨Nat.zero_le _,Nat.zero_le _⟩with⟨v,b,a',o,j,H,B,-⟩|⟨q,b,o,j,hq,I⟩
    .have j:=ZmW j;have lh:Zfo ⟨got.drop a⟩ ⟨5,part,0⟩ ⟨(ae.length:Int),⟨⟨⟨false,0,0⟩,0⟩,false,0,⟨0,0⟩,0,0⟩,[],[]⟩ false=_:=o;have jw:ZaA (wk got a) ⟨5,part,0⟩ ⟨(ae.length:Int),⟨⟨⟨false,0,0⟩,0⟩,false,0,⟨0,0⟩,0,0⟩,[],[]⟩ false=_:=j;simp only[lh,jw,Option.bind_some,Option.map_some];exact .inl ⟨(),(),a',rfl,rfl,by omega,B,trivial⟩
    .have j:=ZmW j;have lh:Zfo ⟨got.drop a⟩ ⟨5,part,0⟩ ⟨(ae.length:Int),⟨⟨⟨false,0,0⟩,0⟩,false,0,⟨0,0⟩,0,0⟩,[],[]⟩ false=_:=o;have jw:ZaA (wk got a) ⟨5,part,0⟩ ⟨(ae.length:Int),⟨⟨⟨false,0,0⟩,0⟩,false,0,⟨0,0⟩,0,0⟩,[],[]⟩ false=_:=j;simp only[lh,jw,Option.bind_some,Option.map_some];exact .inr ⟨q,(),rfl,rfl,hq,trivial⟩
  |succ k ih=>
   intro i f g a ha t u A hg;obtain⟨f,rfl⟩:=sC f;obtain⟨g,rfl⟩:=sC g;unfold ZfB Zbm;simp only[Zag];have r:Zau (i:Int) 1=((i+1:Nat):Int):=add1 (n:=i+1) (by omega) (by simp only[maxLen];omega);have C:=D _ (ZbU l (0:Int) i (by omega));have c9:0<=l.getD ((i:Int)).toNat (0:Int)/\l.getD ((i:Int)).toNat (0:Int)<(ae.length:Int):=by simpa using C
   have e:∀x,ZkK part x=some ⟨6,part,x⟩:=fun _=>rfl;rw[iNb,iNb,Zap (by omega),Zap (by omega)];simp only[e,Option.bind_some];rw[Zap c9,Zap c9];rcases ZGA hL ha ⟨6,part,l.getD ((i:Int)).toNat (0:Int)⟩ ⟨0,ae.getD (l.getD ((i:Int)).toNat (0:Int)).toNat Zaa.d,[],[]⟩ false ⟨Nat.zero_le _,Nat.zero_le _⟩with⟨v,b,a',o,j,H,B,-⟩|⟨q,b,o,j,hq,I⟩
   .have j:=ZmW j;simp only[o,j,Option.bind_some,r];rcases ih (i+1) f g a' B (by omega) (by omega) (by omega) (by omega)with⟨x,y,J,L,M,r3,O,U⟩|hq
    .exact .inl ⟨x,y,J,L,M,by omega,O,U⟩
    .exact .inr hq
   .have j:=ZmW j;simp only[o,j,Option.bind_some,r];have V:∀(k i f:Nat),l.length-i=k->i<=l.length->k+1<=f->Zbm part was ae f l i (wt got q) b8=some (wt got q):=by
     intro k;induction k with
     |zero=>
      intro i f t u A;obtain⟨f,rfl⟩:=sC f;unfold Zbm;simp only[Zag,Zic,Option.bind_some];rw[iNa];simp
     |succ k ih=>
      intro i f t u A;obtain⟨f,rfl⟩:=sC f;unfold Zbm;simp only[Zag,Zic,Option.bind_some];have r:Zau (i:Int) 1=((i+1:Nat):Int):=add1 (n:=i+1) (by omega) (by simp only[maxLen];omega);have C:=D _ (ZbU l (0:Int) i (by omega));rw[iNb,Zap (by omega),Zap (by simpa using C),r];exact ih (i+1) f (by omega) (by omega) (by omega)
    rw[V k (i+1) g (by omega) (by omega) (by omega)];exact .inr ⟨q,(),rfl,rfl,hq,trivial⟩
 exact au l.length 0 _ _ a ha (by omega) (by omega) (by omega) (by omega)
def Zcg(p:Int):Nat:=if p<1 then 1 else if p>8 then 8 else p.toNat
theorem Zja(p:Int):1<=Zcg p/\Zcg p<=8:=by unfold Zcg;split<;>(try split)<;>omega
theorem ZlP(p:Int):Zln p=some (Zcg p:Int):=by
 unfold Zln Zcg;congr 1
 repeat' split
 all_goals omega
theorem Zkb(p:Int):ZcE p=some (Zcg p:Int):=by
 unfold ZcE Zcg;simp only[Zag]
 repeat' split
 all_goals first|rfl | (congr 1;omega)|omega
theorem Zsz{got:List Zae}(hL:got.length<=1000000)(p:Int)(b:Zad):∀(k i a f g:Nat),Zcg p-i=k->i<=Zcg p->a<=got.length->k+1<=f->k+1<=g ->
  Lka got a anyP anyW (Zet f (Zcg p:Int) i ⟨got.drop a⟩) ((ZbI p g i (wk got a) b).map fun w=>(w,()))/\∀q,ZbI p g i (wt got q) b=some (wt got q):=by
 have G:=(Zja p).2;intro k;induction k with
 |zero=>
  intro i a f g r t ha u hg;obtain⟨f,rfl⟩:=sC f;obtain⟨g,rfl⟩:=sC g;have e:¬((i:Int)<(Zcg p:Int)):=by omega
  refine⟨?_,fun q=>?_⟩
  .unfold Zet ZbI;simp only[Zag,Zkb,Zaw,if_neg e];exact .inl ⟨(),(),a,rfl,rfl,Nat.le_refl _,ha,trivial⟩
  .unfold ZbI;simp only[Zag,Zkb,Zaw,if_neg e]
 |succ k ih=>
  intro i a f g r t ha u hg;obtain⟨f,rfl⟩:=sC f;obtain⟨g,rfl⟩:=sC g;have e:(i:Int)<(Zcg p:Int):=by omega
  have o:Zau (i:Int) 1=((i+1:Nat):Int):=add1 (n:=i+1) (by omega) (by simp only[maxLen];omega);refine⟨?_,fun q=>?_⟩
  .unfold Zet ZbI;simp only[Zag,Zkb,Zaw,if_pos e,o];rcases ZPF hL ha (Zau 2 (i:Int)) false with⟨v,b',a',j,d,H,A,-⟩|⟨q,b',j,d,hq,I⟩
   .have d:=ZmW d;simp only[j,d,Zaw];rcases(ih (i+1) a' f g (by omega) (by omega) A (by omega) (by omega)).1 with⟨x,y,B,C,D,J,E,F⟩|hq
    .exact .inl ⟨x,y,B,C,D,by omega,E,F⟩
    .exact .inr hq
   .have d:=ZmW d;simp only[j,d,Zaw];rw[(ih (i+1) a f g (by omega) (by omega) ha (by omega) (by omega)).2 q];exact .inr ⟨q,(),rfl,rfl,hq,trivial⟩
  .unfold ZbI;simp only[Zag,Zkb,Zaw,if_pos e,o,ZaO];exact(ih (i+1) a f g (by omega) (by omega) ha (by omega) (by omega)).2 q
theorem ZHW{got:List Zae}(hL:got.length<=1000000){a:Nat}(ha:a<=got.length)(p:Int):Lka got a anyP anyW (ZkW ⟨got.drop a⟩ p) ((ZbM (wk got a) p).map fun w=>(w,())):=by
 have d:=(Zja p).2;unfold ZkW ZbM;rw[ZlP,Zaw];exact(Zsz hL p _ (Zcg p) 0 a _ 1000000 (by omega) (by omega) ha (by omega) (by omega)).1
theorem Zjh(got:List Zae)(hL:got.length<=1000000)(q:Zat)(p:Int):ZbM (wt got q) p=some (wt got q):=by
 have d:=(Zja p).2;unfold ZbM;exact(Zsz hL p _ (Zcg p) 0 0 (Zcg p+1) 1000000 (by omega) (by omega) (by omega) (by omega) (by omega)).2 q
theorem ZCs{got:List Zae}(hL:got.length<=900000)(most:Int)(ai:Bool)(b6:Zad):∀(k a f g:Nat),got.length-a=k->a<=got.length->k+1<=f->k+2<=g ->
  Lka got a eqP anyW (Zgq most ai f ⟨got.drop a⟩ ⟨1,0,0⟩) (Zce most ai g (wk got a) b6):=by
 intro k;induction k using Nat.strongRecOn with
 |ind k ih=>
  intro a f g B ha C hg;obtain⟨f,rfl⟩:=sC f;obtain⟨g,rfl⟩:=sC g;unfold Zgq Zce;simp only[ZgG,Bool.not_false,cond_true];rcases Zye (by omega) ha ⟨1,0,0⟩ trivial with⟨v,b,a',d,e,D,r,rfl⟩|⟨q,b,d,e,hq,u⟩
  .simp only[d,e,Zaw,ZgG,cond_false,Zag];split
   .exact .inl ⟨false,false,a',rfl,rfl,by omega,r,rfl⟩
   .rcases ZLi (by omega) r 1 v.fN (Zau v.fN 1) ai with⟨v2,b2,i,j,o,E,t,rfl⟩|⟨q,b2,j,o,hq,u⟩
    .simp only[j,o,Zaw];cases v2 with
     |true=>exact .inl ⟨true,true,i,rfl,rfl,by omega,t,rfl⟩
     |false=>
      simp only[cond_false];rcases ih (got.length-i) (by omega) i f g rfl t (by omega) (by omega)with⟨x,y,A,s1,s2,s3,s4,s5⟩|hq
      .exact .inl ⟨x,y,A,s1,s2,by omega,s4,s5⟩
      .exact .inr hq
    .simp only[j,o,Zaw];cases b2 with
     |true=>exact .inr ⟨q,true,rfl,rfl,hq,trivial⟩
     |false=>
      simp only[cond_false];obtain⟨g,rfl⟩:=sC g;unfold Zce;simp only[Zeg,Bool.not_true,cond_false];exact .inr ⟨q,false,rfl,rfl,hq,trivial⟩
  .simp only[d,e,Zaw,Zeg,cond_true];exact .inr ⟨q,false,rfl,rfl,hq,trivial⟩
theorem ZHV{got:List Zae}(hL:got.length<=900000){a:Nat}(ha:a<=got.length)(most:Int)(ai:Bool):Lka got a eqP anyW (ZkV ⟨got.drop a⟩ most ai) (Zbg (wk got a) most ai):=by
 unfold ZkV Zbg;exact ZCs hL most ai _ _ a 1000000 1000000 rfl ha (by omega) (by omega)
theorem ZuH(got:List Zae)(q:Zat)(most:Int)(ai:Bool)(b6:Zad)(g:Nat)(hg:1<=g):Zce most ai g (wt got q) b6=some (wt got q,false):=by
 obtain⟨g,rfl⟩:=sC g;unfold Zce;simp only[Zeg,Bool.not_true,cond_false]
theorem ZpM(got:List Zae)(q:Zat)(most:Int)(ai:Bool):Zbg (wt got q) most ai=some (wt got q,false):=by
 unfold Zbg;exact ZuH got q most ai _ 1000000 (by omega)
theorem ZpN(got:List Zae)(q:Zat)(k cg:Int)(ai:Bool)(b8:Zad)(g:Nat)(hg:1<=g):Zdk k cg ai g (wt got q) b8=some (wt got q):=by
 obtain⟨g,rfl⟩:=sC g;unfold Zdk;simp only[Zeg,Bool.not_true,cond_false]
theorem Zlv(got:List Zae)(q:Zat)(k cg:Int)(ai:Bool):Zbb (wt got q) k cg ai=some (wt got q):=by
 unfold Zbb;exact ZpN got q k cg ai _ 1000000 (by omega)
theorem ZLk{got:List Zae}(hL:got.length<=900000)(cW cg:Int)(ai:Bool)(b8:Zad):∀(k a f g:Nat),got.length-a=k->a<=got.length->k+1<=f->k+2<=g ->
  Lka got a anyP anyW (ZiE cg ai f ⟨got.drop a⟩ ⟨cW,0,0⟩) ((Zdk cW cg ai g (wk got a) b8).map fun w=>(w,())):=by
 intro k;induction k using Nat.strongRecOn with
 |ind k ih=>
  intro a f g B ha C hg;obtain⟨f,rfl⟩:=sC f;obtain⟨g,rfl⟩:=sC g;unfold ZiE Zdk;simp only[ZgG,Bool.not_false,cond_true];rcases Zye (by omega) ha ⟨cW,0,0⟩ trivial with⟨v,b,a',d,e,D,t,rfl⟩|⟨q,b,d,e,hq,u⟩
  .simp only[d,e,Zaw];rcases ZLi (by omega) t cW v.fN (Zau v.fN cg) ai with⟨v2,b2,i,j,o,E,r,rfl⟩|⟨q,b2,j,o,hq,u⟩
   .simp only[j,o,Zaw];cases v2 with
    |true=>exact .inl ⟨(),(),i,rfl,rfl,by omega,r,trivial⟩
    |false=>
     simp only[cond_false];rcases ih (got.length-i) (by omega) i f g rfl r (by omega) (by omega)with⟨x,y,A,s1,s2,s3,s4,s5⟩|hq
     .exact .inl ⟨x,y,A,s1,s2,by omega,s4,s5⟩
     .exact .inr hq
   .simp only[j,o,Zaw];cases b2 with
    |true=>exact .inr ⟨q,(),rfl,rfl,hq,trivial⟩
    |false=>
     simp only[cond_false];rw[ZpN got q cW cg ai b8 g (by omega)];exact .inr ⟨q,(),rfl,rfl,hq,trivial⟩
  .simp only[d,e,Zaw,ZLh,cond_false];rw[ZpN got q cW cg ai b8 g (by omega)];exact .inr ⟨q,(),rfl,rfl,hq,trivial⟩
theorem ZPE{got:List Zae}(hL:got.length<=900000){a:Nat}(ha:a<=got.length)(cW cg:Int)(ai:Bool):Lka got a anyP anyW (ZoI ⟨got.drop a⟩ cW cg ai) ((Zbb (wk got a) cW cg ai).map fun w=>(w,())):=by
 unfold ZoI Zbb;exact ZLk hL cW cg ai _ _ a 1000000 1000000 rfl ha (by omega) (by omega)
theorem Zwt{i:Nat}(h:i<=1000000):Zbl ((i+1:Nat):Int) 1=(i:Int):=by
 unfold Zbl;have:IntKind.i64.wrap (((i+1:Nat):Int)-1)=((i+1:Nat):Int)-1:=Zfn (by omega) (by omega);exact this.trans (by omega)
theorem sub0:Zbl 0 1 = -1:=by decide
theorem ZsA {got : List Zae} (hL : got.length <= 1000000) (p : Int) (ai : Bool) (b6 : Zad) : ∀ (n a f g : Nat) (m : Bool), n <= Zcg p -> a <= got.length -> n + 1 <= f -> n + 1 <= g -> (0 < n -> m = (ai && decide (n = Zcg p))) ->
    Lka got a anyP anyW (ZcH p ai f ((n:Int) - 1) ⟨got.drop a⟩) ((Zbt g m ((n:Int) - 1) (wk got a) b6).map fun w =>(w,()))/\∀ q m,Zbt g m ((n:Int) - 1) (wt got q) b6 = some (wt got q):=by
  have J:=Zja p
  intro n
  induction n with
  | zero =>
    intro a f g m t ha u hg e
    obtain ⟨f,rfl⟩ : ∃ x,f = x + 1:=⟨f - 1,by omega⟩
    obtain ⟨g,rfl⟩ : ∃ x,g = x + 1:=⟨g - 1,by omega⟩
    have i : ¬ (((0:Nat):Int) - 1 >= 0):=by omega
    refine ⟨?_,fun q m =>?_⟩
    . unfold ZcH Zbt
      simp only [Zag,if_neg i]
      exact .inl ⟨(),(),a,rfl,rfl,Nat.le_refl _,ha,trivial⟩
    . unfold Zbt
      simp only [Zag,if_neg i]
  | succ n ih =>
    intro a f g m t ha u hg e
    obtain ⟨f,rfl⟩ : ∃ x,f = x + 1:=⟨f - 1,by omega⟩
    obtain ⟨g,rfl⟩ : ∃ x,g = x + 1:=⟨g - 1,by omega⟩
    have e:=e (by omega)
    have i:(n:Int) >= 0:=by omega
    have A:(((n + 1:Nat):Int) - 1) = (n:Int):=by omega
    have o:Zbl (n:Int) 1 = ((n:Int) - 1):=by
      cases n with
      | zero =>exact sub0
      | succ n =>rw [Zwt (by omega)]; omega
    rw [A]
    refine ⟨?_,fun q m =>?_⟩
    . unfold ZcH Zbt
      simp only [Zag,if_pos i,o]
      have B : ∃ c:Nat,Zcg p = c + 1:=⟨Zcg p - 1,by omega⟩
      obtain ⟨c,hcp⟩:=B
      have r : ∀ (v : Unit) (k : Bool), m = k -> Lka got a anyP anyW
          ((ZfS ⟨got.drop a⟩ (Zau 2 (n:Int)) k).bind fun x3 =>match x3 with
            | .ret x3v x3g =>ZcH p ai f ((n:Int) - 1) x3g
            | .pan x3o =>some (Tout.pan x3o)
            | .bad x3s =>some (Tout.bad x3s))
          (Option.map (fun w =>(w,())) ((Zaj (wk got a) 3 (Zau 2 (n:Int)) m).bind fun x2 =>Zbt g false ((n:Int) - 1) x2 b6)):=by
        rintro v k rfl
        rcases ZPG hL ha (Zau 2 (n:Int)) m with ⟨v,b',a',j,d,L,C,-⟩ | ⟨q,b',j,d,hq,M⟩
        . have d:=ZmW d
          simp only [j,d,Zaw]
          rcases (ih a' f g false (by omega) C (by omega) (by omega) (fun _ =>by simp [show ¬ n = Zcg p by omega])).1 with ⟨x,y,D,E,F,O,G,H⟩ | hq
          . exact .inl ⟨x,y,D,E,F,by omega,G,H⟩
          . exact .inr hq
        . have d:=ZmW d
          simp only [j,d,Zaw]
          rw [(ih a f g false (by omega) ha (by omega) (by omega) (fun _ =>by simp [show ¬ n = Zcg p by omega])).2 q false]
          exact .inr ⟨q,(),rfl,rfl,hq,trivial⟩
      cases ai with
      | true =>
        simp only [cond_true,ZlP,Zaw]
        refine r () _ ?_
        rw [e,hcp,Zwt (by omega)]
        by_cases h:n = c
        . subst h; simp
        . have U : ¬ (n + 1 = c + 1):=by omega
          have I:((n:Int) == (c:Int)) = false:=beq_false_of_ne (by omega)
          simp [h,I]
      | false =>
        simp only [cond_false]
        exact r () _ (by rw [e]; rfl)
    . unfold Zbt
      simp only [Zag,if_pos i,o,ZaO,Zaw]
      exact (ih 0 (n + 1) g (ai && decide (n = Zcg p)) (by omega) (by omega) (by omega) (by omega) (fun _ =>rfl)).2 q false
theorem ZHX{got:List Zae}(hL:got.length<=1000000){a:Nat}(ha:a<=got.length)(p:Int)(ai:Bool):Lka got a anyP anyW (ZkX ⟨got.drop a⟩ p ai) ((ZaP (wk got a) p ai).map fun w=>(w,())):=by
 have g:=Zja p;unfold ZkX ZaP;rw[ZlP,Zkb,Zaw,Zaw];have e:Zbl (Zcg p:Int) 1=(Zcg p:Int)-1:=by
  obtain⟨c,d⟩ : ∃c:Nat,Zcg p=c+1:=⟨Zcg p-1,by omega⟩;rw[d,Zwt (by omega)];omega
 rw[e];exact(ZsA hL p ai _ (Zcg p) a _ _ ai (by omega) ha (by omega) (by omega) (fun _=>by simp)).1
theorem Zki(got:List Zae)(hL:got.length<=1000000)(q:Zat)(p:Int)(ai:Bool):ZaP (wt got q) p ai=some (wt got q):=by
 have g:=Zja p;unfold ZaP;rw[Zkb,Zaw];have e:Zbl (Zcg p:Int) 1=(Zcg p:Int)-1:=by
  obtain⟨c,d⟩ : ∃c:Nat,Zcg p=c+1:=⟨Zcg p-1,by omega⟩;rw[d,Zwt (by omega)];omega
 rw[e];exact(ZsA hL p ai _ (Zcg p) 0 (Zcg p+1) _ ai (by omega) (by omega) (by omega) (by omega) (fun _=>by simp)).2 q ai
structure Cx where
 c:List Zaa
 b:Int
 s:Int
def InR(K:Cx)(x:Int):Prop:=(0<=x/\x<((K.c.length:Nat):Int))/\(K.c.getD x.toNat Zaa.d).fEnd.fAddr.ok
def Rg(K:Cx)(l:List Int):Prop:=∀x∈l,InR K x
theorem Rg.app{K:Cx}{l r:List Int}(h:Rg K l)(d:Rg K r):Rg K (l++r):=fun x hx=>(List.mem_append.1 hx).elim (h x) (d x)
theorem Rg.take{K:Cx}{l:List Int}(h:Rg K l)(k:Nat):Rg K (l.take k):=fun x hx=>h x (List.mem_of_mem_take hx)
theorem Rg.drop{K:Cx}{l:List Int}(h:Rg K l)(k:Nat):Rg K (l.drop k):=fun x hx=>h x (List.mem_of_mem_drop hx)
theorem Rg.get{K:Cx}{l:List Int}(h:Rg K l){i:Nat}(d:i<l.length):InR K (l.getD i 0):=by rw[ZbH l _ i d];exact h _ (List.getElem_mem d)
def keyZ(s:Int)(p:Zaa):Int:=(Zpz s (grp p.fEnd.fAddr)).getD 0
def kv(b s:Int)(p:Zaa):Int:=if b=1 then-keyZ s p else if b=2 then p.fPing else if b=3 then-p.fWork else if b=4 then p.fSince else 0
def ZpE(b s:Int)(p q:Zaa):Int:=orI (cmpI (kv b s p) (kv b s q)) (cmpE p.fEnd q.fEnd)
theorem ZsW{b s:Int}{p q:Zaa}:ZpE b s p q<0↔kv b s p<kv b s q\/(kv b s p=kv b s q/\cmpE p.fEnd q.fEnd<0):=by simp only[ZpE,ZFD,ZxP,Zmg]
theorem ZGl(a b:Int):cmpI b a=cmpI (-a) (-b):=by
 unfold cmpI
 repeat' split
 all_goals omega
theorem ZFy(p:Zaa)(s:Int)(h:p.fEnd.fAddr.ok):Zqe p s=some (keyZ s p):=by
 obtain⟨m,d,_,_⟩:=ZDF s (grp p.fEnd.fAddr);unfold Zqe keyZ;rw[ZsU _ h,Zaw,d,Zaw];rfl
theorem ZzI(p q:Zaa)(b s:Int)(j:p.fEnd.fAddr.ok)(o:q.fEnd.fAddr.ok):Zni p q b s=some (cmpI (kv b s p) (kv b s q)):=by
 unfold Zni kv;simp only[ZFy _ _ j,ZFy _ _ o,ZKI,Zut,Zaw,Zdn];by_cases d:b=1
 .simp only[if_pos d,<-ZGl]
 .simp only[if_neg d];by_cases e:b=2
  .simp only[if_pos e]
  .simp only[if_neg e];by_cases g:b=3
   .simp only[if_pos g,<-ZGl]
   .simp only[if_neg g];by_cases i:b=4
    .simp only[if_pos i]
    .simp only[if_neg i];rfl
theorem ZJg(p q:Zaa)(b s:Int)(d:p.fEnd.fAddr.ok)(e:q.fEnd.fAddr.ok):ZqM p q b s=some (ZpE b s p q):=by
 unfold ZqM ZpE;simp only[ZzI _ _ _ _ d e,ZxM,or2,Zaw]
def cmpJ(K:Cx)(x y:Int):Int:=ZpE K.b K.s (K.c.getD x.toNat Zaa.d) (K.c.getD y.toNat Zaa.d)
def ltJ(K:Cx)(x y:Int):Bool:=decide (cmpJ K x y<0)
theorem ZtO{K:Cx}{x y:Int}:ltJ K x y=true↔cmpJ K x y<0:=by unfold ltJ;simp
theorem ZvG{K:Cx}{x y:Int}:ltJ K x y=false↔¬cmpJ K x y<0:=by unfold ltJ;simp
theorem ZsY{K:Cx}{x y:Int}(hx:InR K x)(d:InR K y):ZiF x y K.c K.b K.s=some (cmpJ K x y):=by
 unfold ZiF cmpJ;rw[Zap hx.1,Zap d.1,ZJg _ _ _ _ hx.2 d.2];rfl
theorem ZDT{b s:Int}{p q r:Zaa}(e:ZpE b s p q<0)(d:ZpE b s q r<0):ZpE b s p r<0:=by
 rw[ZsW]at *
 rcases e with e|⟨e,i⟩
 .rcases d with d|⟨d,g⟩
  .left;omega
  .left;omega
 .rcases d with d|⟨d,g⟩
  .left;omega
  .right;exact⟨by omega,Zol i g⟩
theorem ZKg{b s:Int}{p q r:Zaa}(g:¬ZpE b s p q<0)(d:¬ZpE b s q r<0):¬ZpE b s p r<0:=by
 rw[ZsW]at *
 rintro (h|⟨h,i⟩)
 .by_cases e:kv b s p=kv b s q
  .exact d (.inl (by omega))
  .by_cases j:kv b s p<kv b s q
   .exact g (.inl j)
   .exact d (.inl (by omega))
 .by_cases e:kv b s p=kv b s q
  .have n1:¬cmpE p.fEnd q.fEnd<0:=fun x=>g (.inr ⟨e,x⟩);have n2:¬cmpE q.fEnd r.fEnd<0:=fun x=>d (.inr ⟨by omega,x⟩);have e4:cmpE p.fEnd q.fEnd=0\/0<cmpE p.fEnd q.fEnd:=by omega
   rcases e4 with e4|e4
   .rw[Zls.1 e4]at i;exact n2 i
   .exact n2 (Zol (Zlt.1 e4) i)
  .by_cases j:kv b s p<kv b s q
   .exact g (.inl j)
   .exact d (.inl (by omega))
theorem ZKh(b s:Int)(p:Zaa):¬ZpE b s p p<0:=by
 rw[ZsW];rintro (h|⟨_,h⟩)
 .omega
 .rw[Zls.2 rfl]at h;omega
theorem ZzY{K:Cx}{x y z:Int}(d:ltJ K x y=true)(e:ltJ K y z=true):ltJ K x z=true:=by
 rw[ZtO]at *;exact ZDT d e
theorem ZlU{K:Cx}{x y z:Int}(d:ltJ K x y=false)(e:ltJ K y z=false):ltJ K x z=false:=by
 rw[ZvG]at *;exact ZKg d e
theorem ZJH{K:Cx}(x:Int):ltJ K x x=false:=by rw[ZvG];exact ZKh _ _ _
theorem ZMG{K:Cx}{x y:Int}(h:ltJ K x y=true):ltJ K y x=false:=by
 cases d:ltJ K y x with
 |false=>rfl
 |true=>have:=ZzY h d;rw[ZJH]at this;cases this
theorem ZLS{α:Type}(L R:List α)(x y:α):(L++x :: R).set L.length y=L++y :: R:=by
 induction L with
 |nil=>rfl
 |cons z L ih=>simp[ih]
theorem ZFX{α:Type}(L R:List α)(x d:α):(L++x :: R).getD L.length d=x:=by
 induction L with
 |nil=>rfl
 |cons z L ih=>simp
theorem Zpi{α:Type}{l L R:List α}{x y:α}{k:Nat}(h:l=L++x :: R)(d:k=L.length):l.set k y=L++y :: R:=by rw[h,d,ZLS]
theorem Zng{α:Type}{l L R:List α}{x d:α}{k:Nat}(h:l=L++x :: R)(e:k=L.length):l.getD k d=x:=by rw[h,e,ZFX]
abbrev Ins:=List Int
variable {K:Cx}
theorem ZGK(P B Q:Ins):∀(k:Nat)(A1 A2 C1 C2:Ins)(fu:Nat),A2.length=k->C2.length=k->A1.length=C1.length->k+1<=fu->P.length+B.length+Q.length+2*(A1.length+k)<=1000000 ->
  Zcc (P.length:Int) ((P.length+(A1.length+k)+B.length:Nat):Int) ((A1.length+k:Nat):Int) fu (A1.length:Int) (P++(C1++(A2++(B++(A1++(C2++Q))))))=some (P++(C1++(C2++(B++(A1++(A2++Q)))))):=by
 intro k;induction k with
 |zero=>
  intro A1 A2 C1 C2 fu d e g i hb;obtain⟨fu,rfl⟩:=sC fu;obtain rfl:=List.eq_nil_of_length_eq_zero d;obtain rfl:=List.eq_nil_of_length_eq_zero e;unfold Zcc;rw[Zag,iNa]
 |succ k ih=>
  intro A1 A2 C1 C2 fu d e g i hb;obtain⟨fu,rfl⟩:=sC fu;cases A2 with
  |nil=>cases d
  |cons a A2=>
   cases C2 with
   |nil=>cases e
   |cons c C2=>
    simp only[List.length_cons,Nat.add_right_cancel_iff]at d e;unfold Zcc;have j:Zau (P.length:Int) (A1.length:Int)=((P.length+A1.length:Nat):Int):=by rw[Zbs (by omega) (by omega)];omega
    have o:Zau ((P.length+(A1.length+(k+1))+B.length:Nat):Int) (A1.length:Int)=((P.length+(A1.length+(k+1))+B.length+A1.length:Nat):Int):=by rw[Zbs (by omega) (by omega)];omega
    have r:Zau (A1.length:Int) 1=((A1.length+1:Nat):Int):=by rw[Zbs (by omega) (by omega)];omega
    have hl:(P++(C1++(a :: A2++(B++(A1++(c :: C2++Q)))))).length=P.length+B.length+Q.length+2*(A1.length+(k+1)):=by simp;omega
    rw[Zag,iNb,j,o,r,Zap (by rw[hl];omega),Zap (by rw[hl];omega)];simp only[Int.toNat_natCast];have t:(P++(C1++(a :: A2++(B++(A1++(c :: C2++Q)))))).getD (P.length+(A1.length+(k+1))+B.length+A1.length) 0=c:=
     Zng (L:=P++(C1++(a :: A2++(B++A1)))) (R:=C2++Q) (by simp) (by simp;omega)
    have u:(P++(C1++(a :: A2++(B++(A1++(c :: C2++Q)))))).getD (P.length+A1.length) 0=a:=
     Zng (L:=P++C1) (R:=A2++(B++(A1++(c :: C2++Q)))) (by simp) (by simp;omega)
    have s1:(P++(C1++(a :: A2++(B++(A1++(c :: C2++Q)))))).set (P.length+A1.length) c=P++(C1++(c :: A2++(B++(A1++(c :: C2++Q))))):=by
     rw[Zpi (L:=P++C1) (x:=a) (R:=A2++(B++(A1++(c :: C2++Q)))) (by simp) (by simp;omega)];simp
    have s2:(P++(C1++(c :: A2++(B++(A1++(c :: C2++Q)))))).set (P.length+(A1.length+(k+1))+B.length+A1.length) a=P++(C1++(c :: A2++(B++(A1++(a :: C2++Q))))):=by
     rw[Zpi (L:=P++(C1++(c :: A2++(B++A1)))) (x:=c) (R:=C2++Q) (by simp) (by simp;omega)];simp
    rw[t,u,s1,s2];have:=ih (A1++[a]) A2 (C1++[c]) C2 fu d e (by simp;omega) (by omega) (by simp;omega);simp only[List.length_append,List.length_singleton,List.append_assoc,List.singleton_append,List.cons_append]at this ⊢;have x1:A1.length+1+k=A1.length+(k+1):=by omega
    rw[x1]at this;exact this
theorem Zwv(P A B C Q:Ins)(h:A.length=C.length)(hb:P.length+B.length+Q.length+2*A.length<=1000000)(a b n:Int)(ha:a=(P.length:Int))(i3:b=((P.length+A.length+B.length:Nat):Int))(d:n=(A.length:Int)) :
  Zco (P++(A++(B++(C++Q)))) a b n K.c K.b K.s=some (P++(C++(B++(A++Q)))):=by
 subst ha i3 d;unfold Zco;have:=ZGK P B Q A.length [] A [] C (((A.length:Int)-0).toNat+2) rfl h.symm rfl (by omega) (by simpa using hb);simpa using this
theorem ZIK(m:Nat):∀(s:Nat)(P X Y Q:Ins)(fu:Nat),X.length+Y.length<=s->0<X.length->0<Y.length->m=P.length+X.length->P.length+X.length+Y.length+Q.length<=1000000->s+1<=fu ->
  Zcp (m:Int) K.c K.b K.s fu (X.length:Int) (Y.length:Int) (P++(X++(Y++Q)))=some (P++(Y++(X++Q))):=by
 intro s;induction s with
 |zero=>intro P X Y Q fu r d;omega
 |succ s ih=>
  intro P X Y Q fu r d y t hb A;obtain⟨fu,rfl⟩:=sC fu;unfold Zcp;have i:Zbl (m:Int) (X.length:Int)=(P.length:Int):=by rw[ZcC (by omega) (by omega)];omega
  by_cases j:X.length=Y.length
  .have e:((X.length:Int) != (Y.length:Int))=false:=by rw[j];simp
   rw[e,cond_false,i];have:=Zwv (K:=K) P X [] Y Q j (by simp;omega) (P.length:Int) (m:Int) (X.length:Int) rfl (by simp[t]) rfl;simp only[List.nil_append]at this;rw[this];rfl
  .have e:((X.length:Int) != (Y.length:Int))=true:=by rw[bne_iff_ne];omega
   rw[e,cond_true,Zag,i];by_cases hg:Y.length<X.length
   .obtain⟨X1,X2,rfl,hx⟩ : ∃X1 X2,X=X1++X2/\X1.length=Y.length:=⟨X.take Y.length,X.drop Y.length,(List.take_append_drop ..).symm,by simp;omega⟩;simp only[List.length_append]at *
    have g:Zbl ((X1.length+X2.length:Nat):Int) (Y.length:Int)=(X2.length:Int):=by rw[ZcC (by omega) (by omega)];omega
    rw[iNb,g];have:=Zwv (K:=K) P X1 X2 Y Q hx (by omega) (P.length:Int) (m:Int) (Y.length:Int) rfl (by omega) (by omega);simp only[List.append_assoc]at this ⊢;rw[this,Zaw];have d:=ih (P++Y) X2 X1 Q fu (by omega) (by omega) (by omega) (by simp;omega) (by simp;omega) (by omega);simp only[List.append_assoc,hx]at d;exact d
   .obtain⟨Y1,Y2,rfl,o⟩ : ∃Y1 Y2,Y=Y1++Y2/\Y2.length=X.length:=⟨Y.take (Y.length-X.length),Y.drop (Y.length-X.length),(List.take_append_drop ..).symm,by simp;omega⟩;simp only[List.length_append]at *
    have g:Zbl ((Y1.length+Y2.length:Nat):Int) (X.length:Int)=(Y1.length:Int):=by rw[ZcC (by omega) (by omega)];omega
    have u:Zau (m:Int) ((Y1.length+Y2.length:Nat):Int)=((m+Y1.length+Y2.length:Nat):Int):=by rw[Zbs (by omega) (by omega)];omega
    have v:Zbl ((m+Y1.length+Y2.length:Nat):Int) (X.length:Int)=((P.length+X.length+Y1.length:Nat):Int):=by rw[ZcC (by omega) (by omega)];omega
    rw[iNa,g,u,v];have:=Zwv (K:=K) P X Y1 Y2 Q o.symm (by omega) (P.length:Int) ((P.length+X.length+Y1.length:Nat):Int) (X.length:Int) rfl rfl rfl;simp only[List.append_assoc]at this ⊢;rw[this,Zaw];have d:=ih P Y2 Y1 (X++Q) fu (by omega) (by omega) (by omega) (by omega) (by simp;omega) (by omega);simp only[List.append_assoc,o]at d;exact d
theorem ZOB(P X Y Q:Ins)(d:0<X.length)(e:0<Y.length)(hb:P.length+X.length+Y.length+Q.length<=900000)(a m b:Int)(ha:a=(P.length:Int))(g:m=((P.length+X.length:Nat):Int))(i3:b=((P.length+X.length+Y.length:Nat):Int)) :
  Zea (P++(X++(Y++Q))) a m b K.c K.b K.s=some (P++(Y++(X++Q))):=by
 subst ha g i3;unfold Zea;have i:Zbl ((P.length+X.length:Nat):Int) (P.length:Int)=(X.length:Int):=by rw[ZcC (by omega) (by omega)];omega
 have j:Zbl ((P.length+X.length+Y.length:Nat):Int) ((P.length+X.length:Nat):Int)=(Y.length:Int):=by rw[ZcC (by omega) (by omega)];omega
 rw[i,j];exact ZIK _ (X.length+Y.length) P X Y Q 1000000 (Nat.le_refl _) d e rfl (by omega) (by omega)
theorem ZDI{x y z:Int}(d:ltJ K z x=true)(e:ltJ K y x=false):ltJ K z y=true:=by
 cases h:ltJ K z y with
 |true=>rfl
 |false=>rw[ZlU h e]at d;cases d
def mrgJ(K:Cx):Ins->Ins->Ins | [],ys=>ys|x :: xs,[]=>x :: xs|x :: xs,y :: ys=>if ltJ K y x=true then y :: mrgJ K (x :: xs) ys else x :: mrgJ K xs (y :: ys)
termination_by xs ys=>xs.length+ys.length
theorem Zhw(xs:Ins):mrgJ K xs []=xs:=by cases xs<;>simp[mrgJ]
theorem ZeA(xs:Ins):mrgJ K [] xs=xs:=by simp[mrgJ]
theorem Zii{x y:Int}(xs ys:Ins)(h:ltJ K y x=true):mrgJ K (x :: xs) (y :: ys)=y :: mrgJ K (x :: xs) ys:=by rw[mrgJ,if_pos h]
theorem Zjb{x y:Int}(xs ys:Ins)(h:ltJ K y x=false):mrgJ K (x :: xs) (y :: ys)=x :: mrgJ K xs (y :: ys):=by rw[mrgJ,if_neg (by simp[h])]
theorem ZHl:∀(n:Nat)(a b c:Ins),a.length+b.length+c.length<=n->mrgJ K (mrgJ K a b) c=mrgJ K a (mrgJ K b c):=by
 intro n;induction n with
 |zero=>
  intro a b c h;obtain rfl:=List.eq_nil_of_length_eq_zero (show a.length=0 by omega);rw[ZeA,ZeA]
 |succ n ih=>
  intro a b c h;cases a with
  |nil=>rw[ZeA,ZeA]
  |cons x a=>
   cases b with
   |nil=>rw[Zhw,ZeA]
   |cons y b=>
    cases c with
    |nil=>rw[Zhw,Zhw]
    |cons z c=>
     simp only[List.length_cons]at h;cases e:ltJ K y x with
     |true=>
      rw[Zii _ _ e];cases d:ltJ K z y with
      |true=>
       rw[Zii _ _ d,Zii _ _ d,Zii _ _ (ZzY d e),<-Zii a b e,ih (x :: a) (y :: b) c (by simp only[List.length_cons];omega)]
      |false=>
       rw[Zjb _ _ d,Zjb _ _ d,Zii _ _ e,ih (x :: a) b (z :: c) (by simp only[List.length_cons];omega)]
     |false=>
      rw[Zjb _ _ e];cases g:ltJ K z x with
      |true=>
       have d:=ZDI g e;rw[Zii _ _ g,Zii _ _ d,Zii _ _ g,<-Zjb a b e,ih (x :: a) (y :: b) c (by simp only[List.length_cons];omega)]
      |false=>
       rw[Zjb _ _ g,ih a (y :: b) (z :: c) (by simp only[List.length_cons];omega)];cases d:ltJ K z y with
       |true=>rw[Zii _ _ d,Zjb _ _ g]
       |false=>rw[Zjb _ _ d,Zjb _ _ e]
theorem ZnT:∀(n:Nat)(x1 x2 y1 y2:Ins),x1.length+y1.length<=n->(∀y∈y1,∀x∈x2,ltJ K y x=true)->(∀x∈x1,∀y∈y2,ltJ K y x=false)->mrgJ K (x1++x2) (y1++y2)=mrgJ K x1 y1++mrgJ K x2 y2:=by
 intro n;induction n with
 |zero=>
  intro x1 x2 y1 y2 h _ _;obtain rfl:=List.eq_nil_of_length_eq_zero (show x1.length=0 by omega);obtain rfl:=List.eq_nil_of_length_eq_zero (show y1.length=0 by omega);simp[ZeA]
 |succ n ih=>
  intro x1 x2 y1 y2 h d e;cases x1 with
  |nil=>
   cases y1 with
   |nil=>simp[ZeA]
   |cons y y1=>
    cases x2 with
    |nil=>simp[ZeA]
    |cons x x2=>
     simp only[List.length_cons,List.length_nil]at h;rw[List.nil_append,List.cons_append,Zii _ _ (d y (by simp) x (by simp)),ZeA];have:=ih [] (x :: x2) y1 y2 (by simp only[List.length_nil];omega) (fun y' fJ=>d y' (by simp[fJ])) (by simp);rw[List.nil_append,ZeA]at this;rw[this];rfl
  |cons x x1=>
   cases y1 with
   |nil=>
    cases y2 with
    |nil=>simp[Zhw]
    |cons y y2=>
     simp only[List.length_cons,List.length_nil]at h;rw[List.nil_append,List.cons_append,Zjb _ _ (e x (by simp) y (by simp)),Zhw];have:=ih x1 x2 [] (y :: y2) (by simp only[List.length_nil];omega) (by simp) (fun x' g6=>e x' (by simp[g6]));rw[List.nil_append,Zhw]at this;rw[this];rfl
   |cons y y1=>
    simp only[List.length_cons]at h;rw[List.cons_append,List.cons_append];cases g:ltJ K y x with
    |true=>
     rw[Zii _ _ g,Zii _ _ g,<-List.cons_append,ih (x :: x1) x2 y1 y2 (by simp only[List.length_cons];omega) (fun y' fJ=>d y' (by simp[fJ])) e];rfl
    |false=>
     have:=ih x1 x2 (y :: y1) y2 (by simp only[List.length_cons];omega) d (fun x' g6=>e x' (by simp[g6]));rw[List.cons_append]at this;rw[Zjb _ _ g,Zjb _ _ g,this];rfl
theorem ZFJ:∀(n:Nat)(a b:Ins),a.length+b.length<=n->(mrgJ K a b).length=a.length+b.length:=by
 intro n;induction n with
 |zero=>
  intro a b h;obtain rfl:=List.eq_nil_of_length_eq_zero (show a.length=0 by omega);simp[ZeA]
 |succ n ih=>
  intro a b h;cases a with
  |nil=>simp[ZeA]
  |cons x a=>
   cases b with
   |nil=>simp[Zhw]
   |cons y b=>
    simp only[List.length_cons]at h ⊢;cases d:ltJ K y x with
    |true=>rw[Zii _ _ d,List.length_cons,ih _ _ (by simp only[List.length_cons];omega)];simp only[List.length_cons];omega
    |false=>rw[Zjb _ _ d,List.length_cons,ih _ _ (by simp only[List.length_cons];omega)];simp only[List.length_cons];omega
theorem ZsR:∀(n:Nat)(a b:Ins),a.length+b.length<=n->∀z∈mrgJ K a b,z∈a\/z∈b:=by
 intro n;induction n with
 |zero=>
  intro a b h z hz;obtain rfl:=List.eq_nil_of_length_eq_zero (show a.length=0 by omega);rw[ZeA]at hz;exact .inr hz
 |succ n ih=>
  intro a b h z hz;cases a with
  |nil=>rw[ZeA]at hz;exact .inr hz
  |cons x a=>
   cases b with
   |nil=>rw[Zhw]at hz;exact .inl hz
   |cons y b=>
    simp only[List.length_cons]at h;cases d:ltJ K y x with
    |true=>
     rw[Zii _ _ d]at hz;rcases List.mem_cons.1 hz with hz|hz
     .exact .inr (by simp[hz])
     .rcases ih _ _ (by simp only[List.length_cons];omega) z hz with q|q
      .exact .inl q
      .exact .inr (by simp[q])
    |false=>
     rw[Zjb _ _ d]at hz;rcases List.mem_cons.1 hz with hz|hz
     .exact .inl (by simp[hz])
     .rcases ih _ _ (by simp only[List.length_cons];omega) z hz with q|q
      .exact .inl (by simp[q])
      .exact .inr q
def a5(K:Cx)(l:Ins):Prop:=l.Pairwise fun x y=>ltJ K y x=false
theorem ZMC:∀(n:Nat)(a b:Ins),a.length+b.length<=n->a5 K a->a5 K b->a5 K (mrgJ K a b):=by
 intro n;induction n with
 |zero=>
  intro a b h ha hb;obtain rfl:=List.eq_nil_of_length_eq_zero (show a.length=0 by omega);rw[ZeA];exact hb
 |succ n ih=>
  intro a b h ha hb;cases a with
  |nil=>rw[ZeA];exact hb
  |cons x a=>
   cases b with
   |nil=>rw[Zhw];exact ha
   |cons y b=>
    simp only[List.length_cons]at h;have cr:=List.pairwise_cons.1 ha;have aN:=List.pairwise_cons.1 hb;cases d:ltJ K y x with
    |true=>
     rw[Zii _ _ d];refine List.pairwise_cons.2 ⟨fun z e=>?_,ih _ _ (by simp only[List.length_cons];omega) ha aN.2⟩;rcases ZsR _ _ _ (Nat.le_refl _) z e with q|q
     .have:ltJ K x y=false:=ZMG d;rcases List.mem_cons.1 q with q|q
      .rw[q];exact this
      .exact ZlU (cr.1 z q) this
     .exact aN.1 z q
    |false=>
     rw[Zjb _ _ d];refine List.pairwise_cons.2 ⟨fun z e=>?_,ih _ _ (by simp only[List.length_cons];omega) cr.2 hb⟩;rcases ZsR _ _ _ (Nat.le_refl _) z e with q|q
     .exact cr.1 z q
     .rcases List.mem_cons.1 q with q|q
      .rw[q];exact d
      .exact ZlU (aN.1 z q) d
def ZbA(K:Cx)(l:Ins):Ins:=l.foldl (fun o x=>mrgJ K o [x]) []
theorem ZhU(l:Ins)(x:Int):ZbA K (l++[x])=mrgJ K (ZbA K l) [x]:=by unfold ZbA;rw[List.foldl_append];rfl
theorem Zrv(xs ys:Ins):ZbA K (xs++ys)=mrgJ K (ZbA K xs) (ZbA K ys):=by
 have:∀n,n<=ys.length->ZbA K (xs++ys.take n)=mrgJ K (ZbA K xs) (ZbA K (ys.take n)):=by
  intro n;induction n with
  |zero=>intro _;simp[ZbA,Zhw]
  |succ n ih=>
   intro h;rw[List.take_succ_eq_append_getElem (show n<ys.length by omega),<-List.append_assoc,ZhU,ZhU,ih (by omega),ZHl _ _ _ _ (Nat.le_refl _)]
 have h:=this ys.length (Nat.le_refl _);rwa [List.take_length]at h
theorem ZgM(l:Ins):(ZbA K l).length=l.length:=by
 have:∀n,n<=l.length->(ZbA K (l.take n)).length=n:=by
  intro n;induction n with
  |zero=>intro _;simp[ZbA]
  |succ n ih=>
   intro h;rw[List.take_succ_eq_append_getElem (show n<l.length by omega),ZhU,ZFJ _ _ _ (Nat.le_refl _),ih (by omega)];rfl
 have h:=this l.length (Nat.le_refl _);rwa [List.take_length]at h
theorem Zpv{l:Ins}(h:Rg K l):Rg K (ZbA K l):=by
 have:∀n,n<=l.length->Rg K (ZbA K (l.take n)):=by
  intro n;induction n with
  |zero=>intro _;simp[ZbA,Rg]
  |succ n ih=>
   intro e;rw[List.take_succ_eq_append_getElem (show n<l.length by omega),ZhU];intro x hx;rcases ZsR _ _ _ (Nat.le_refl _) x hx with q|q
   .exact ih (by omega) x q
   .rw[List.mem_singleton.1 q];exact h _ (List.getElem_mem _)
 have d:=this l.length (Nat.le_refl _);rwa [List.take_length]at d
theorem ZnV(l:Ins):a5 K (ZbA K l):=by
 have:∀n,n<=l.length->a5 K (ZbA K (l.take n)):=by
  intro n;induction n with
  |zero=>intro _;simp[ZbA,a5]
  |succ n ih=>
   intro h;rw[List.take_succ_eq_append_getElem (show n<l.length by omega),ZhU];exact ZMC _ _ _ (Nat.le_refl _) (ih (by omega)) (by simp[a5])
 have h:=this l.length (Nat.le_refl _);rwa [List.take_length]at h
theorem Zxd{o1 d:Ins}{x:Int}(i:∀y∈o1,ltJ K x y=false)(j:∀y∈d,ltJ K x y=true):mrgJ K (o1++d) [x]=o1++x :: d:=by
 have a:=ZnT _ o1 d [x] [] (Nat.le_refl _) (fun y e z g=>by rw[List.mem_singleton.1 e];exact j z g) (by simp);have b:=ZnT _ o1 [] [] [x] (Nat.le_refl _) (by simp) (fun z g y e=>by rw[List.mem_singleton.1 e];exact i z g);simp only[List.append_nil,List.nil_append,Zhw,ZeA]at a b;rw[a,b];simp
theorem ZMv{o1 d:Ins}{x:Int}(i:∀y∈o1,ltJ K y x=true)(j:∀y∈d,ltJ K y x=false):mrgJ K [x] (o1++d)=o1++x :: d:=by
 have a:=ZnT _ [] [x] o1 d (Nat.le_refl _) (fun y e z g=>by rw[List.mem_singleton.1 g];exact i y e) (by simp);have b:=ZnT _ [x] [] [] d (Nat.le_refl _) (by simp) (fun z g y e=>by rw[List.mem_singleton.1 g];exact j y e);simp only[List.append_nil,List.nil_append,Zhw,ZeA]at a b;rw[a,b];simp
theorem ZOk{α:Type}:∀(l:List α),l.length≠0->∃T s,l=T++[s]
 | [x],_=>⟨[],x,rfl⟩
 |x :: y :: l,_=>by
  obtain⟨T,s,h⟩:=ZOk (y :: l) (by simp)
  exact⟨x :: T,s,by rw[h];rfl⟩
theorem ZIr{K:Cx}{T:Ins}{s x:Int}(h:a5 K (T++[s]))(hx:ltJ K x s=false):∀y∈T++[s],ltJ K x y=false:=by
 intro y d;rcases List.mem_append.1 d with q|q
 .exact ZlU hx ((List.pairwise_append.1 h).2.2 y q s (by simp))
 .rw[List.mem_singleton.1 q];exact hx
theorem ZHt{K:Cx}(P:Ins)(x:Int)(hx:InR K x)(R:Ins)(o v8:Int)(k:Int->Ins->Option Ins):∀(n:Nat)(S1 S2:Ins)(fu:Nat),S1.length=n->a5 K S1->Rg K S1->(∀y∈S2,ltJ K x y=true)->n+1<=fu->P.length+S1.length+S2.length+R.length<=900000 ->
  ZbG (P.length:Int) o K.c K.b K.s v8 k fu ((P.length+n:Nat):Int) (P++(S1++(x :: (S2++R))))=k (Zau v8 1) (P++(mrgJ K (S1++S2) [x]++R)):=by
 intro n;induction n with
 |zero=>
  intro S1 S2 fu g hs i d r hb;obtain⟨fu,rfl⟩:=sC fu;obtain rfl:=List.eq_nil_of_length_eq_zero g;unfold ZbG;rw[Zag,iNa,Zxd (o1:=[]) (by simp) d];simp
 |succ n ih=>
  intro S1 S2 fu g hs i d r hb;obtain⟨fu,rfl⟩:=sC fu;obtain⟨T,s,rfl⟩:=ZOk S1 (by omega);have t:T.length=n:=by simpa using g
  have u:Zbl ((P.length+(n+1):Nat):Int) 1=((P.length+n:Nat):Int):=by rw[ZcC (by omega) (by omega)];omega
  have hl:(P++(T++[s]++(x :: (S2++R)))).length=P.length+(n+1)+1+S2.length+R.length:=by simp;omega
  unfold ZbG;rw[Zag,iNb,u,Zap (by rw[hl];omega),Zap (by rw[hl];omega)];simp only[Int.toNat_natCast];have v:(P++(T++[s]++(x :: (S2++R)))).getD (P.length+(n+1)) 0=x:=Zng (L:=P++(T++[s])) (R:=S2++R) (by simp) (by simp;omega);have A:(P++(T++[s]++(x :: (S2++R)))).getD (P.length+n) 0=s:=Zng (L:=P++T) (R:=x :: (S2++R)) (by simp) (by simp;omega);rw[v,A,ZsY hx (i s (by simp)),Zaw,Zag];by_cases e:cmpJ K x s<0
  .have eV:ltJ K x s=true:=ZtO.2 e;have s1:(P++(T++[s]++(x :: (S2++R)))).set (P.length+(n+1)) s=P++(T++(s :: (s :: (S2++R)))):=by
    rw[Zpi (L:=P++(T++[s])) (x:=x) (R:=S2++R) (by simp) (by simp;omega)];simp
   have s2:(P++(T++(s :: (s :: (S2++R))))).set (P.length+n) x=P++(T++(x :: (s :: S2++R))):=by
    rw[Zpi (L:=P++T) (x:=s) (R:=s :: (S2++R)) (by simp) (by simp;omega)];simp
   rw[if_pos e,s1,s2];have:=ih T (s :: S2) fu t (List.pairwise_append.1 hs).1 (fun y j=>i y (by simp[j])) (fun y j=>by
    rcases List.mem_cons.1 j with q|q
    .rw[q];exact eV
    .exact d y q) (by omega) (by simp only[List.length_append,List.length_singleton,List.length_cons]at hb ⊢;omega)
   rw[this];simp
  .rw[if_neg e,Zxd (ZIr hs (ZvG.2 e)) d];simp
theorem ZJR{K:Cx}(P L Q:Ins)(e:Rg K L)(hb:P.length+L.length+Q.length<=900000)(a b:Int)(ha:a=(P.length:Int))(i3:b=((P.length+L.length:Nat):Int)) :
  ZcD (P++(L++Q)) a b K.c K.b K.s=some (P++(ZbA K L++Q)):=by
 subst ha i3;have i:Zau (P.length:Int) 1=((P.length+1:Nat):Int):=by rw[Zbs (by omega) (by omega)];omega
 unfold ZcD;rw[i];cases hL:L with
 |nil=>
  unfold ZaY;rw[Zag,if_neg (by simp;omega)];simp[ZbA]
 |cons z Z=>
  rw[<-hL];have kF:1<=L.length:=by rw[hL];simp
  have au:∀(j k fu:Nat),L.length-k=j->1<=k->k<=L.length->j+1<=fu->ZaY (P.length:Int) ((P.length+L.length:Nat):Int) K.c K.b K.s fu ((P.length+k:Nat):Int) (P++(ZbA K (L.take k)++(L.drop k++Q)))=some (P++(ZbA K L++Q)):=by
   intro j;induction j with
   |zero=>
    intro k fu o d g r;obtain⟨fu,rfl⟩:=sC fu;unfold ZaY;rw[Zag,iNa,List.take_of_length_le (by omega),List.drop_eq_nil_of_le (by omega)];rfl
   |succ j ih=>
    intro k fu o d g r;obtain⟨fu,rfl⟩:=sC fu;unfold ZaY;have il:=ZgM (K:=K) (L.take k);rw[List.length_take,Nat.min_eq_left g]at il;have t:Zau ((P.length+k:Nat):Int) 1=((P.length+(k+1):Nat):Int):=by rw[Zbs (by omega) (by omega)];omega
    rw[Zag,iNb,Zez L 0 k (by omega)];have:=ZHt (K:=K) P (L.getD k 0) (e.get (by omega)) (L.drop (k+1)++Q) ((P.length+L.length:Nat):Int) ((P.length+k:Nat):Int) (ZaY (P.length:Int) ((P.length+L.length:Nat):Int) K.c K.b K.s fu) k (ZbA K (L.take k)) [] ((((P.length+k:Nat):Int)-(P.length:Int)).toNat+2) il (ZnV _) (Zpv (e.take k)) (by simp) (by omega) (by simp[il];omega);simp only[List.nil_append,List.append_nil,List.cons_append]at this ⊢;rw[this,t,<-ZhU,ZbH L _ k (by omega),<-List.take_succ_eq_append_getElem (by omega)];exact ih (k+1) fu (by omega) (by omega) (by omega) (by omega)
  have d:ZbA K (L.take 1)=L.take 1:=by rw[hL];simp[ZbA,ZeA]
  have:=au (L.length-1) 1 ((((P.length+L.length:Nat):Int)-((P.length+1:Nat):Int)).toNat+2) rfl (Nat.le_refl _) kF (by omega);rw[d,<-List.append_assoc (L.take 1),List.take_append_drop]at this;exact this
theorem ZsT(i j:Nat)(h:i+j<=10000000):IntKind.wrap .i64 (Int.fdiv (IntKind.wrap .u64 (Zau (i:Int) (j:Int))) (2 ^ (min (1:Int).toNat (IntKind.bits .u64))))=(((i+j) / 2:Nat):Int):=by
 have d:Zau (i:Int) (j:Int)=((i+j:Nat):Int):=by rw[Zbs (by omega) (by omega)];omega
 have e:IntKind.wrap .u64 ((i+j:Nat):Int)=((i+j:Nat):Int):=by
  simp only[IntKind.wrap,IntKind.bits,IntKind.signed];simp;omega
 have g:(2:Int) ^ (min (1:Int).toNat (IntKind.bits .u64))=2:=rfl;rw[d,e,g,Int.fdiv_eq_ediv_of_nonneg _ (by omega),Zfn (by omega) (by omega)];omega
theorem ZFK{K:Cx}{x y z:Int}(d:ltJ K z x=true)(e:ltJ K z y=false):ltJ K y x=true:=by
 cases h:ltJ K y x with
 |true=>rfl
 |false=>rw[ZlU e h]at d;cases d
theorem ZkQ{K:Cx}{Y:Ins}(h:a5 K Y){i j:Nat}(g:i<=j)(d:j<Y.length):ltJ K (Y.getD j 0) (Y.getD i 0)=false:=by
 by_cases e:i=j
 .rw[e];exact ZJH _
 .rw[ZbH Y _ j d,ZbH Y _ i (by omega)];exact List.pairwise_iff_getElem.1 h i j (by omega) d (by omega)
theorem ZqX{Y:Ins}{k:Nat}{y:Int}(h:y∈Y.take k):∃i,i<k/\i<Y.length/\y=Y.getD i 0:=by
 obtain⟨i,d,rfl⟩:=List.getElem_of_mem h;rw[List.length_take]at d;exact⟨i,by omega,by omega,by rw[ZbH Y _ i (by omega),List.getElem_take]⟩
theorem ZrJ{Y:Ins}{k:Nat}{y:Int}(h:y∈Y.drop k):∃i,k<=i/\i<Y.length/\y=Y.getD i 0:=by
 obtain⟨i,d,rfl⟩:=List.getElem_of_mem h;rw[List.length_drop]at d;exact⟨k+i,by omega,by omega,by rw[ZbH Y _ (k+i) (by omega),List.getElem_drop]⟩
theorem Zxz{P Y Q:Ins}{i k:Nat}(g:k=P.length+i)(d:i<Y.length):(P++(Y++Q)).getD k 0=Y.getD i 0:=by
 have:=Zez Y 0 i d;have e:P++(Y++Q)=(P++Y.take i)++Y.getD i 0 :: (Y.drop (i+1)++Q):=by
  rw[List.append_assoc,<-List.cons_append,<-this,<-List.append_assoc (Y.take i),List.take_append_drop]
 exact Zng e (by simp;omega)
theorem mv1J{K:Cx}(P R:Ins)(x k8:Int)(k:Int->Int->Ins->Option Ins):∀(Y2 Y1:Ins)(fu:Nat),Y2.length+1<=fu->P.length+Y1.length+Y2.length+R.length<=900000 ->
  Zci (P.length:Int) K.c K.b K.s ((P.length+Y1.length+Y2.length+1:Nat):Int) k8 k fu ((P.length+Y1.length:Nat):Int) (P++(Y1++(x :: (Y2++R))))=some (P++(Y1++(Y2++(x :: R)))):=by
 intro Y2;induction Y2 with
 |nil=>
  intro Y1 fu d hb;obtain⟨fu,rfl⟩:=sC fu;unfold Zci;simp only[List.length_nil,Nat.add_zero];rw[Zag,if_neg (by rw[ZcC (by omega) (by omega)];omega)];rfl
 |cons y Y2 ih=>
  intro Y1 fu d hb;obtain⟨fu,rfl⟩:=sC fu;simp only[List.length_cons]at d hb ⊢;have e:Zau ((P.length+Y1.length:Nat):Int) 1=((P.length+Y1.length+1:Nat):Int):=by rw[Zbs (by omega) (by omega)];omega
  have hl:(P++(Y1++(x :: (y :: Y2++R)))).length=P.length+Y1.length+Y2.length+R.length+2:=by simp;omega
  unfold Zci;rw[Zag,if_pos (by rw[ZcC (by omega) (by omega)];omega),e,Zap (by rw[hl];omega),Zap (by rw[hl];omega)];simp only[Int.toNat_natCast];have g:(P++(Y1++(x :: (y :: Y2++R)))).getD (P.length+Y1.length+1) 0=y:=Zng (L:=P++(Y1++[x])) (R:=Y2++R) (by simp) (by simp;omega);have i:(P++(Y1++(x :: (y :: Y2++R)))).getD (P.length+Y1.length) 0=x:=Zng (L:=P++Y1) (R:=y :: (Y2++R)) (by simp) (by simp);have s1:(P++(Y1++(x :: (y :: Y2++R)))).set (P.length+Y1.length) y=P++(Y1++(y :: (y :: Y2++R))):=by
   rw[Zpi (L:=P++Y1) (x:=x) (R:=y :: (Y2++R)) (by simp) (by simp)];simp
  have s2:(P++(Y1++(y :: (y :: Y2++R)))).set (P.length+Y1.length+1) x=P++(Y1++(y :: (x :: (Y2++R)))):=by
   rw[Zpi (L:=P++(Y1++[y])) (x:=y) (R:=Y2++R) (by simp) (by simp;omega)];simp
  rw[g,i,s1,s2];have:=ih (Y1++[y]) fu (by omega) (by simp only[List.length_append,List.length_singleton];omega);simp only[List.length_append,List.length_singleton,List.append_assoc,List.singleton_append]at this;have x1:P.length+(Y1.length+1)+Y2.length+1=P.length+Y1.length+(Y2.length+1)+1:=by omega
  have x2:P.length+(Y1.length+1)=P.length+Y1.length+1:=by omega
  rw[x1,x2]at this;exact this
theorem bs1J{K:Cx}(P Y Q:Ins)(x:Int)(hs:a5 K Y)(hxR:InR K x)(A:Rg K Y)(hb:P.length+Y.length+Q.length<=800000):∀(s lo d fu:Nat),d-lo<=s->lo<=d->d<=Y.length->s+1<=fu->(∀y∈Y.take lo,ltJ K y x=true)->(∀y∈Y.drop d,ltJ K y x=false) ->
  ZaU (P.length:Int) K.c K.b K.s fu ((P.length+1+lo:Nat):Int) ((P.length+1+d:Nat):Int) (P++(x :: (Y++Q)))=some (P++(mrgJ K [x] Y++Q)):=by
 intro s;have bm:∀(lo d fu:Nat),lo=d->d<=Y.length->(∀y∈Y.take lo,ltJ K y x=true)->(∀y∈Y.drop d,ltJ K y x=false) ->
   ZaU (P.length:Int) K.c K.b K.s (fu+1) ((P.length+1+lo:Nat):Int) ((P.length+1+d:Nat):Int) (P++(x :: (Y++Q)))=some (P++(mrgJ K [x] Y++Q)):=by
  intro lo d fu e B t g;subst e;unfold ZaU;rw[Zag,iNa];have ho:=ZMv t g;rw[List.take_append_drop]at ho;have:=mv1J (K:=K) P (Y.drop lo++Q) x ((P.length+1+lo:Nat):Int) (ZaU (P.length:Int) K.c K.b K.s fu) (Y.take lo) [] 1000000 (by simp;omega) (by simp;omega);simp only[List.length_take,Nat.min_eq_left B,List.length_nil,Nat.add_zero,List.nil_append]at this;rw[<-List.append_assoc (Y.take lo),List.take_append_drop,show P.length+lo+1=P.length+1+lo by omega]at this;rw[this,ho];simp
 induction s with
 |zero=>
  intro lo d fu h0 t g C j o;obtain⟨fu,rfl⟩:=sC fu;exact bm lo d fu (by omega) g j o
 |succ s ih=>
  intro lo d fu h0 t g C j o;obtain⟨fu,rfl⟩:=sC fu;by_cases e:lo=d
  .exact bm lo d fu e g j o
  .have D:(P.length+1+lo+(P.length+1+d)) / 2=P.length+1+(lo+d) / 2:=by omega
   have u:(lo+d) / 2<Y.length:=by omega
   have hl:(P++(x :: (Y++Q))).length=P.length+1+Y.length+Q.length:=by simp;omega
   unfold ZaU;rw[Zag,iNb,ZsT _ _ (by omega),D,Zap (by rw[hl];omega),Zap (by rw[hl];omega)];simp only[Int.toNat_natCast];have E:(P++(x :: (Y++Q))).getD (P.length+1+(lo+d) / 2) 0=Y.getD ((lo+d) / 2) 0:=by
    have:=Zxz (P:=P++[x]) (Y:=Y) (Q:=Q) (i:=(lo+d) / 2) (k:=P.length+1+(lo+d) / 2) (by simp) u;simpa using this
   rw[E,ZFX,ZsY (A.get u) hxR,Zaw,Zag];have F:Zau ((P.length+1+(lo+d) / 2:Nat):Int) 1=((P.length+1+((lo+d) / 2+1):Nat):Int):=by rw[Zbs (by omega) (by omega)];omega
   by_cases r:cmpJ K (Y.getD ((lo+d) / 2) 0) x<0
   .rw[if_pos r,F];refine ih _ _ fu (by omega) (by omega) g (by omega) (fun y v=>?_) o;obtain⟨i,i1,i2,rfl⟩:=ZqX v;exact ZFK (ZtO.2 r) (ZkQ hs (by omega) u)
   .rw[if_neg r];refine ih _ _ fu (by omega) (by omega) (by omega) (by omega) j (fun y v=>?_);obtain⟨i,i1,i2,rfl⟩:=ZrJ v;exact ZlU (ZkQ hs i1 i2) (ZvG.2 r)
theorem mv2J{K:Cx}(P Q:Ins)(y e v15:Int)(k:Int->Int->Ins->Option Ins):∀(n:Nat)(T U:Ins)(fu:Nat),T.length=n->n+1<=fu->P.length+T.length+U.length+Q.length<=900000 ->
  Zch e K.c K.b K.s (P.length:Int) v15 k fu ((P.length+n:Nat):Int) (P++(T++(y :: (U++Q))))=some (P++(y :: (T++(U++Q)))):=by
 intro n;induction n with
 |zero=>
  intro T U fu d g hb;obtain⟨fu,rfl⟩:=sC fu;obtain rfl:=List.eq_nil_of_length_eq_zero d;unfold Zch;rw[Zag,iNa];rfl
 |succ n ih=>
  intro T U fu d g hb;obtain⟨fu,rfl⟩:=sC fu;obtain⟨T,s,rfl⟩:=ZOk T (by omega);have i:T.length=n:=by simpa using d
  simp only[List.length_append,List.length_singleton]at hb;have j:Zbl ((P.length+(n+1):Nat):Int) 1=((P.length+n:Nat):Int):=by rw[ZcC (by omega) (by omega)];omega
  have hl:(P++(T++[s]++(y :: (U++Q)))).length=P.length+(n+1)+1+U.length+Q.length:=by simp;omega
  unfold Zch;rw[Zag,iNb,j,Zap (by rw[hl];omega),Zap (by rw[hl];omega)];simp only[Int.toNat_natCast];have o:(P++(T++[s]++(y :: (U++Q)))).getD (P.length+(n+1)) 0=y:=Zng (L:=P++(T++[s])) (R:=U++Q) (by simp) (by simp;omega);have r:(P++(T++[s]++(y :: (U++Q)))).getD (P.length+n) 0=s:=Zng (L:=P++T) (R:=y :: (U++Q)) (by simp) (by simp;omega);have s1:(P++(T++[s]++(y :: (U++Q)))).set (P.length+(n+1)) s=P++(T++(s :: (s :: (U++Q)))):=by
   rw[Zpi (L:=P++(T++[s])) (x:=y) (R:=U++Q) (by simp) (by simp;omega)];simp
  have s2:(P++(T++(s :: (s :: (U++Q))))).set (P.length+n) y=P++(T++(y :: (s :: U++Q))):=by
   rw[Zpi (L:=P++T) (x:=s) (R:=s :: (U++Q)) (by simp) (by simp;omega)];simp
  rw[o,r,s1,s2,ih T (s :: U) fu i (by omega) (by simp only[List.length_cons];omega)];simp
theorem bs2J{K:Cx}(P X Q:Ins)(y:Int)(hs:a5 K X)(hyR:InR K y)(v:Rg K X)(hb:P.length+X.length+Q.length<=800000):∀(s lo d fu:Nat),d-lo<=s->lo<=d->d<=X.length->s+1<=fu->(∀x∈X.take lo,ltJ K y x=false)->(∀x∈X.drop d,ltJ K y x=true) ->
  ZaT ((P.length+X.length:Nat):Int) K.c K.b K.s fu ((P.length+lo:Nat):Int) ((P.length+d:Nat):Int) (P++(X++(y :: Q)))=some (P++(mrgJ K X [y]++Q)):=by
 intro s;have bm:∀(lo d fu:Nat),lo=d->d<=X.length->(∀x∈X.take lo,ltJ K y x=false)->(∀x∈X.drop d,ltJ K y x=true) ->
   ZaT ((P.length+X.length:Nat):Int) K.c K.b K.s (fu+1) ((P.length+lo:Nat):Int) ((P.length+d:Nat):Int) (P++(X++(y :: Q)))=some (P++(mrgJ K X [y]++Q)):=by
  intro lo d fu e A t g;subst e;unfold ZaT;rw[Zag,iNa];have ho:=Zxd t g;rw[List.take_append_drop]at ho;have:=mv2J (K:=K) (P++X.take lo) Q y ((P.length+X.length:Nat):Int) ((P.length+lo:Nat):Int) (ZaT ((P.length+X.length:Nat):Int) K.c K.b K.s fu) (X.length-lo) (X.drop lo) [] ((((P.length+X.length:Nat):Int)-((P.length+lo:Nat):Int)).toNat+2) (by simp) (by omega) (by simp;omega);simp only[List.length_append,List.length_take,Nat.min_eq_left A,List.nil_append,List.append_assoc]at this;rw[<-List.append_assoc (X.take lo) (X.drop lo),List.take_append_drop,show P.length+lo+(X.length-lo)=P.length+X.length by omega]at this;rw[this,ho];simp
 induction s with
 |zero=>
  intro lo d fu h0 t g B j o;obtain⟨fu,rfl⟩:=sC fu;exact bm lo d fu (by omega) g j o
 |succ s ih=>
  intro lo d fu h0 t g B j o;obtain⟨fu,rfl⟩:=sC fu;by_cases e:lo=d
  .exact bm lo d fu e g j o
  .have C:(P.length+lo+(P.length+d)) / 2=P.length+(lo+d) / 2:=by omega
   have u:(lo+d) / 2<X.length:=by omega
   have hl:(P++(X++(y :: Q))).length=P.length+X.length+1+Q.length:=by simp;omega
   unfold ZaT;rw[Zag,iNb,ZsT _ _ (by omega),C,Zap (by rw[hl];omega),Zap (by rw[hl];omega)];simp only[Int.toNat_natCast];have D:(P++(X++(y :: Q))).getD (P.length+(lo+d) / 2) 0=X.getD ((lo+d) / 2) 0:=Zxz rfl u;have E:(P++(X++(y :: Q))).getD (P.length+X.length) 0=y:=Zng (L:=P++X) (R:=Q) (by simp) (by simp);rw[D,E,ZsY hyR (v.get u),Zaw];have F:Zau ((P.length+(lo+d) / 2:Nat):Int) 1=((P.length+((lo+d) / 2+1):Nat):Int):=by rw[Zbs (by omega) (by omega)];omega
   by_cases r:cmpJ K y (X.getD ((lo+d) / 2) 0)<0
   .rw[decide_eq_true r,Bool.not_true,cond_false];refine ih _ _ fu (by omega) (by omega) (by omega) (by omega) j (fun x hx=>?_);obtain⟨i,i1,i2,rfl⟩:=ZrJ hx;exact ZDI (ZtO.2 r) (ZkQ hs i1 i2)
   .rw[decide_eq_false r,Bool.not_false,cond_true,F];refine ih _ _ fu (by omega) (by omega) g (by omega) (fun x hx=>?_) o;obtain⟨i,i1,i2,rfl⟩:=ZqX hx;exact ZlU (ZvG.2 r) (ZkQ hs (by omega) u)
def g8(K:Cx)(gr:Ins->Int->Int->Int->List Zaa->Int->Int->Option Ins)(N:Nat):Prop:=∀(P X Y Q:Ins),0<X.length->0<Y.length->a5 K X->a5 K Y->Rg K X->Rg K Y->X.length+Y.length<=N->P.length+X.length+Y.length+Q.length<=700000->gr (P++(X++(Y++Q))) (P.length:Int) ((P.length+X.length:Nat):Int) ((P.length+X.length+Y.length:Nat):Int) K.c K.b K.s=some (P++(mrgJ K X Y++Q))
theorem ZQp{K:Cx}{gr:Ins->Int->Int->Int->List Zaa->Int->Int->Option Ins}{N:Nat}(cN:g8 K gr N)(P X Y Q:Ins)(hX:a5 K X)(hY:a5 K Y)(d9:Rg K X)(ec:Rg K Y)(hN:X.length+Y.length<=N)(hb:P.length+X.length+Y.length+Q.length<=700000)(d e i4 v20 fQ fR:Int)(k:Int->Int->Int->Ins->Option Ins) :
  ZbB d e ((P.length+X.length+Y.length:Nat):Int) K.c K.b K.s gr (P.length:Int) i4 v20 fQ fR ((P.length+X.length:Nat):Int) k (P++(X++(Y++Q)))=some (P++(mrgJ K X Y++Q)):=by
 unfold ZbB;rw[Zag,Zag];by_cases g:X.length=0
 .rw[iNa];obtain rfl:=List.eq_nil_of_length_eq_zero g;rw[ZeA];rfl
 .rw[iNb];by_cases i:Y.length=0
  .rw[iNa];obtain rfl:=List.eq_nil_of_length_eq_zero i;rw[Zhw];rfl
  .rw[iNb,cN P X Y Q (by omega) (by omega) hX hY d9 ec hN hb];rfl
theorem ZQq{K:Cx}{gr:Ins->Int->Int->Int->List Zaa->Int->Int->Option Ins}{N:Nat}(cN:g8 K gr N)(P X1 Y1 X2 Y2 Q:Ins)(hX1:a5 K X1)(hY1:a5 K Y1)(d7:a5 K X2)(d8:a5 K Y2)(hR1:Rg K X1)(hR2:Rg K Y1)(hR3:Rg K X2)(hR4:Rg K Y2)(hN1:X1.length+Y1.length<=N)(hN2:X2.length+Y2.length<=N)
  (hb:P.length+X1.length+Y1.length+X2.length+Y2.length+Q.length<=700000) (d i4 fQ fR:Int) (k:Int->Int->Int->Ins->Option Ins) :
  ZaZ (P.length:Int) d ((P.length+X1.length+Y1.length+X2.length+Y2.length:Nat):Int) K.c K.b K.s gr ((P.length+X1.length+Y1.length:Nat):Int) i4 ((P.length+X1.length:Nat):Int) fQ fR k ((P.length+X1.length+Y1.length+X2.length:Nat):Int) (P++(X1++(Y1++(X2++(Y2++Q))))) =
   some (P++(mrgJ K X1 Y1++(mrgJ K X2 Y2++Q))):=by
 have e:=ZFJ (K:=K) _ X1 Y1 (Nat.le_refl _);have next:ZbB (P.length:Int) d ((P.length+X1.length+Y1.length+X2.length+Y2.length:Nat):Int) K.c K.b K.s gr ((P.length+X1.length+Y1.length:Nat):Int) i4 ((P.length+X1.length:Nat):Int) fQ fR ((P.length+X1.length+Y1.length+X2.length:Nat):Int) k (P++(mrgJ K X1 Y1++(X2++(Y2++Q)))) =
   some (P++(mrgJ K X1 Y1++(mrgJ K X2 Y2++Q))):=by
  have:=ZQp cN (P++mrgJ K X1 Y1) X2 Y2 Q d7 d8 hR3 hR4 hN2 (by simp only[List.length_append,e];omega) (P.length:Int) d i4 ((P.length+X1.length:Nat):Int) fQ fR k;simp only[List.length_append,e,List.append_assoc]at this;rw[show P.length+(X1.length+Y1.length)=P.length+X1.length+Y1.length by omega]at this;exact this
 unfold ZaZ;rw[Zag,Zag];by_cases g:X1.length=0
 .rw[iNa];obtain rfl:=List.eq_nil_of_length_eq_zero g;rw[ZeA]at next ⊢
  exact next
 .rw[iNb];by_cases i:Y1.length=0
  .rw[iNa];obtain rfl:=List.eq_nil_of_length_eq_zero i;rw[Zhw]at next ⊢
   exact next
  .rw[iNb,cN P X1 Y1 (X2++(Y2++Q)) (by omega) (by omega) hX1 hY1 hR1 hR2 hN1 (by simp only[List.length_append];omega),Zaw];exact next
theorem a5.take{K:Cx}{l:Ins}(h:a5 K l)(k:Nat):a5 K (l.take k):=List.Pairwise.sublist (List.take_sublist k l) h
theorem a5.drop{K:Cx}{l:Ins}(h:a5 K l)(k:Nat):a5 K (l.drop k):=List.Pairwise.sublist (List.drop_sublist k l) h
section
variable {K:Cx} {gr:Ins->Int->Int->Int->List Zaa->Int->Int->Option Ins} {N:Nat} (cN:g8 K gr N) (P X Y Q:Ins) (hX:a5 K X) (hY:a5 K Y) (d9:Rg K X) (ec:Rg K Y) (d7:0 < X.length) (d8:0 < Y.length) (hN:X.length + Y.length<=N + 1) (hb:P.length + X.length + Y.length + Q.length<=700000)
 (mid s0 r0:Nat) (hmid:mid=(P.length+(P.length+X.length+Y.length)) / 2)
 (h0:(mid<P.length+X.length/\s0+(P.length+X.length+Y.length)=mid+(P.length+X.length)/\r0=mid)\/(P.length+X.length<=mid/\s0=P.length/\r0=P.length+X.length))
include cN hX hY d9 ec d7 d8 hN hb hmid h0
def Zrm(K:Cx)(P X Y:Ins)(mid c:Nat):Bool:=ltJ K (Y.getD (mid-1-c) 0) (X.getD (c-P.length) 0)
theorem ZPx(st:Nat)(A:s0<=st)(B:st<=r0)(hlo:∀c,s0<=c->c<st->Zrm K P X Y mid c=false)(hhi:∀c,st<=c->c<r0->Zrm K P X Y mid c=true)(fQ fR:Int)(k:Int->Int->Int->Ins->Option Ins) :
  (bif(decide ((st:Int)<((P.length+X.length:Nat):Int)))then
    bif(decide (((P.length+X.length:Nat):Int)<(Zbl ((mid+(P.length+X.length):Nat):Int) (st:Int))))then
     (Zea (P++(X++(Y++Q))) (st:Int) ((P.length+X.length:Nat):Int) (Zbl ((mid+(P.length+X.length):Nat):Int) (st:Int)) K.c K.b K.s).bind fun x2=>
     ZaZ (P.length:Int) ((P.length+X.length:Nat):Int) ((P.length+X.length+Y.length:Nat):Int) K.c K.b K.s gr (mid:Int) ((mid+(P.length+X.length):Nat):Int) (st:Int) fQ fR k (Zbl ((mid+(P.length+X.length):Nat):Int) (st:Int)) x2
    else
     ZaZ (P.length:Int) ((P.length+X.length:Nat):Int) ((P.length+X.length+Y.length:Nat):Int) K.c K.b K.s gr (mid:Int) ((mid+(P.length+X.length):Nat):Int) (st:Int) fQ fR k (Zbl ((mid+(P.length+X.length):Nat):Int) (st:Int)) (P++(X++(Y++Q)))
   else
    ZaZ (P.length:Int) ((P.length+X.length:Nat):Int) ((P.length+X.length+Y.length:Nat):Int) K.c K.b K.s gr (mid:Int) ((mid+(P.length+X.length):Nat):Int) (st:Int) fQ fR k (Zbl ((mid+(P.length+X.length):Nat):Int) (st:Int)) (P++(X++(Y++Q))))=some (P++(mrgJ K X Y++Q)):=by
 have ha:P.length<=st:=by omega
 have jt:st<=mid:=by omega
 have b9:st-P.length<=X.length:=by omega
 have hk2:mid-st<=Y.length:=by omega
 obtain⟨d,r⟩ : ∃d,st=P.length+d:=⟨st-P.length,by omega⟩;obtain⟨e,C⟩ : ∃e,mid=st+e:=⟨mid-st,by omega⟩;have ee:Zbl ((mid+(P.length+X.length):Nat):Int) (st:Int)=((P.length+X.length+e:Nat):Int):=by rw[ZcC (by omega) (by omega)];omega
 have hA:∀y∈Y.take e,∀x∈X.drop d,ltJ K y x=true:=by
  intro y g x hx;obtain⟨i,i1,i2,rfl⟩:=ZqX g;obtain⟨j,j1,j2,rfl⟩:=ZrJ hx;have h:=hhi st (Nat.le_refl _) (by omega);unfold Zrm at h;rw[show mid-1-st=e-1 by omega,show st-P.length=d by omega]at h;exact ZDI (ZFK h (ZkQ hY (by omega) (by omega))) (ZkQ hX j1 j2)
 have t:∀x∈X.take d,∀y∈Y.drop e,ltJ K y x=false:=by
  intro x hx y g;obtain⟨i,i1,i2,rfl⟩:=ZqX hx;obtain⟨j,j1,j2,rfl⟩:=ZrJ g;have h:=hlo (st-1) (by omega) (by omega);unfold Zrm at h;rw[show mid-1-(st-1)=e by omega,show st-1-P.length=d-1 by omega]at h;exact ZlU (ZlU (ZkQ hY j1 j2) h) (ZkQ hX (by omega) (by omega))
 have u:mrgJ K X Y=mrgJ K (X.take d) (Y.take e)++mrgJ K (X.drop d) (Y.drop e):=by
  have:=ZnT (K:=K) _ (X.take d) (X.drop d) (Y.take e) (Y.drop e) (Nat.le_refl _) hA t;rwa [List.take_append_drop,List.take_append_drop]at this
 have l1:(X.take d).length=d:=by simp;omega
 have l2:(Y.take e).length=e:=by simp;omega
 have l3:(X.drop d).length=X.length-d:=by simp
 have l4:(Y.drop e).length=Y.length-e:=by simp
 have last:=ZQq cN P (X.take d) (Y.take e) (X.drop d) (Y.drop e) Q (hX.take _) (hY.take _) (hX.drop _) (hY.drop _) (d9.take _) (ec.take _) (d9.drop _) (ec.drop _) (by omega) (by omega) (by omega) ((P.length+X.length:Nat):Int) ((mid+(P.length+X.length):Nat):Int) fQ fR k;rw[l1,l2,l3,l4,show P.length+d+e+(X.length-d)+(Y.length-e)=P.length+X.length+Y.length by omega,show P.length+d+e+(X.length-d)=P.length+X.length+e by omega,show P.length+d+e=mid by omega,<-r]at last;have o:P++(X++(Y++Q))=P++X.take d++(X.drop d++(Y.take e++(Y.drop e++Q))):=by
  rw[<-List.append_assoc (Y.take e),List.take_append_drop,List.append_assoc,<-List.append_assoc (X.take d),List.take_append_drop]
 have v:some (P++(mrgJ K (X.take d) (Y.take e)++(mrgJ K (X.drop d) (Y.drop e)++Q)))=some (P++(mrgJ K X Y++Q)):=by rw[u,List.append_assoc]
 rw[v]at last;rw[ee,Zag,Zag];by_cases D:d<X.length
 .rw[iNb];by_cases E:0<e
  .rw[iNb,o,ZOB (P++X.take d) (X.drop d) (Y.take e) (Y.drop e++Q) (by omega) (by omega) (by simp only[List.length_append];omega) _ _ _ (by simp only[List.length_append];omega) (by simp only[List.length_append];omega) (by simp only[List.length_append];omega),Zaw];simp only[List.append_assoc]at last ⊢;exact last
  .obtain rfl:e=0:=by omega
   rw[iNa,o];simp only[List.append_assoc,List.take_zero,List.nil_append]at last ⊢;exact last
 .rw[iNa,o,show d=X.length by omega];rw[show d=X.length by omega]at last;simp only[List.append_assoc,List.drop_length,List.nil_append]at last ⊢;exact last
end
section
variable {K:Cx} {gr:Ins->Int->Int->Int->List Zaa->Int->Int->Option Ins} {N:Nat} (cN:g8 K gr N) (P X Y Q:Ins) (hX:a5 K X) (hY:a5 K Y) (d9:Rg K X) (ec:Rg K Y) (d7:0 < X.length) (d8:0 < Y.length) (hN:X.length + Y.length<=N + 1) (hb:P.length + X.length + Y.length + Q.length<=700000)
 (mid s0 r0:Nat) (hmid:mid=(P.length+(P.length+X.length+Y.length)) / 2)
 (h0:(mid<P.length+X.length/\s0+(P.length+X.length+Y.length)=mid+(P.length+X.length)/\r0=mid)\/(P.length+X.length<=mid/\s0=P.length/\r0=P.length+X.length))
include cN hX hY d9 ec d7 d8 hN hb hmid h0
omit cN hN hb d9 ec in
theorem ZvB{c c':Nat}(d:s0<=c')(e:c'<=c)(g:c<r0)(h:Zrm K P X Y mid c=false):Zrm K P X Y mid c'=false:=by
 unfold Zrm at *
 exact ZlU (ZlU (ZkQ hY (by omega) (by omega)) h) (ZkQ hX (by omega) (by omega))
theorem ZGo:∀(s lo d fu:Nat),d-lo<=s->s0<=lo->lo<=d->d<=r0->s+1<=fu->(∀c,s0<=c->c<lo->Zrm K P X Y mid c=false)->(∀c,d<=c->c<r0->Zrm K P X Y mid c=true) ->
  ZaM (P.length:Int) ((P.length+X.length:Nat):Int) ((P.length+X.length+Y.length:Nat):Int) K.c K.b K.s gr (mid:Int) ((mid+(P.length+X.length):Nat):Int) fu (lo:Int) (d:Int) ((mid+(P.length+X.length)-1:Nat):Int) (P++(X++(Y++Q)))=some (P++(mrgJ K X Y++Q)):=by
 intro s;have bm:∀(lo fu:Nat),s0<=lo->lo<=r0->(∀c,s0<=c->c<lo->Zrm K P X Y mid c=false)->(∀c,lo<=c->c<r0->Zrm K P X Y mid c=true) ->
   ZaM (P.length:Int) ((P.length+X.length:Nat):Int) ((P.length+X.length+Y.length:Nat):Int) K.c K.b K.s gr (mid:Int) ((mid+(P.length+X.length):Nat):Int) (fu+1) (lo:Int) (lo:Int) ((mid+(P.length+X.length)-1:Nat):Int) (P++(X++(Y++Q)))=some (P++(mrgJ K X Y++Q)):=by
  intro lo fu g j y A;unfold ZaM;rw[Zag,iNa];exact ZPx cN P X Y Q hX hY d9 ec d7 d8 hN hb mid s0 r0 hmid h0 lo g j y A _ _ _
 induction s with
 |zero=>
  intro lo d fu B o C r D g j;obtain⟨fu,rfl⟩:=sC fu;obtain rfl:lo=d:=by omega
  exact bm lo fu o r g j
 |succ s ih=>
  intro lo d fu B o C r D g j;obtain⟨fu,rfl⟩:=sC fu;by_cases e:lo=d
  .subst e;exact bm lo fu o r g j
  .have t1:(lo+d) / 2<r0:=by omega
   have t2:s0<=(lo+d) / 2:=by omega
   have ep:Zbl ((mid+(P.length+X.length)-1:Nat):Int) (((lo+d) / 2:Nat):Int)=((P.length+X.length+(mid-1-(lo+d) / 2):Nat):Int):=by rw[ZcC (by omega) (by omega)];omega
   have hl:(P++(X++(Y++Q))).length=P.length+X.length+Y.length+Q.length:=by simp;omega
   have e1':Zau (((lo+d) / 2:Nat):Int) 1=(((lo+d) / 2+1:Nat):Int):=by rw[Zbs (by omega) (by omega)];omega
   unfold ZaM;rw[Zag,iNb,ZsT _ _ (by omega),ep,Zap (by rw[hl];omega),Zap (by rw[hl];omega)];simp only[Int.toNat_natCast];have E:(P++(X++(Y++Q))).getD (P.length+X.length+(mid-1-(lo+d) / 2)) 0=Y.getD (mid-1-(lo+d) / 2) 0:=by
    have:=Zxz (P:=P++X) (Y:=Y) (Q:=Q) (i:=mid-1-(lo+d) / 2) (k:=P.length+X.length+(mid-1-(lo+d) / 2)) (by simp) (by omega);simpa using this
   have F:(P++(X++(Y++Q))).getD ((lo+d) / 2) 0=X.getD ((lo+d) / 2-P.length) 0:=Zxz (by omega) (by omega);rw[E,F,ZsY (ec.get (by omega)) (d9.get (by omega)),Zaw,e1'];by_cases t:cmpJ K (Y.getD (mid-1-(lo+d) / 2) 0) (X.getD ((lo+d) / 2-P.length) 0)<0
   .have ok:Zrm K P X Y mid ((lo+d) / 2)=true:=ZtO.2 t;rw[decide_eq_true t,Bool.not_true,cond_false];refine ih lo _ fu (by omega) o (by omega) (by omega) (by omega) g (fun c u v=>?_);cases q:Zrm K P X Y mid c with
    |true=>rfl
    |false=>
     have:=ZvB P X Y hX hY d7 d8 mid s0 r0 hmid h0 t2 u v q;rw[ok]at this;cases this
   .have ok:Zrm K P X Y mid ((lo+d) / 2)=false:=ZvG.2 t;rw[decide_eq_false t,Bool.not_false,cond_true];exact ih _ d fu (by omega) (by omega) (by omega) r (by omega) (fun c u v=>ZvB P X Y hX hY d7 d8 mid s0 r0 hmid h0 u (by omega) t1 ok) j
end
theorem ZNy{K:Cx}{gr:Ins->Int->Int->Int->List Zaa->Int->Int->Option Ins}{N:Nat}(cN:g8 K gr N):g8 K (ZeB gr) (N+1):=by
 intro P X Y Q d7 d8 hX hY d9 ec hN hb;unfold ZeB;have j:Zbl ((P.length+X.length:Nat):Int) (P.length:Int)=(X.length:Int):=by rw[ZcC (by omega) (by omega)];omega
 have o:Zbl ((P.length+X.length+Y.length:Nat):Int) ((P.length+X.length:Nat):Int)=(Y.length:Int):=by rw[ZcC (by omega) (by omega)];omega
 rw[j,o,Zdn,Zdn];by_cases g:X.length=1
 .rw[iNb];obtain⟨x,rfl⟩ : ∃x,X=[x]:=by
   cases X with
   |nil=>cases g
   |cons x X=>exact⟨x,by rw[List.eq_nil_of_length_eq_zero (show X.length=0 by simpa using g)]⟩
  have:=bs1J P Y Q x hY (d9 x (by simp)) ec (by omega) Y.length 0 Y.length ((((P.length+[x].length+Y.length:Nat):Int)-((P.length+[x].length:Nat):Int)).toNat+2) (by omega) (by omega) (Nat.le_refl _) (by simp only[List.length_singleton];omega) (by simp) (by simp);exact this
 .rw[iNa];by_cases i:Y.length=1
  .rw[iNb];obtain⟨y,rfl⟩ : ∃y,Y=[y]:=by
    cases Y with
    |nil=>cases i
    |cons y Y=>exact⟨y,by rw[List.eq_nil_of_length_eq_zero (show Y.length=0 by simpa using i)]⟩
   have:=bs2J P X Q y hX (ec y (by simp)) d9 (by omega) X.length 0 X.length ((((P.length+X.length:Nat):Int)-(P.length:Int)).toNat+2) (by omega) (by omega) (Nat.le_refl _) (by omega) (by simp) (by simp);exact this
  .rw[iNa];rw[ZsT _ _ (by omega)];obtain⟨mid,hmid⟩ : ∃mid,mid=(P.length+(P.length+X.length+Y.length)) / 2:=⟨_,rfl⟩;rw[<-hmid];have en:Zau (mid:Int) ((P.length+X.length:Nat):Int)=((mid+(P.length+X.length):Nat):Int):=by rw[Zbs (by omega) (by omega)];omega
   have ep:Zbl ((mid+(P.length+X.length):Nat):Int) 1=((mid+(P.length+X.length)-1:Nat):Int):=by rw[ZcC (by omega) (by omega)];omega
   rw[en,Zag];by_cases r:mid<P.length+X.length
   .have es:Zbl ((mid+(P.length+X.length):Nat):Int) ((P.length+X.length+Y.length:Nat):Int)=((mid+(P.length+X.length)-(P.length+X.length+Y.length):Nat):Int):=by rw[ZcC (by omega) (by omega)];omega
    rw[iNb,es];unfold ZcO;rw[ep];exact ZGo cN P X Y Q hX hY d9 ec d7 d8 hN hb mid (mid+(P.length+X.length)-(P.length+X.length+Y.length)) mid hmid (.inl ⟨r,by omega,rfl⟩) _ _ _ _ (Nat.le_refl _) (Nat.le_refl _) (by omega) (Nat.le_refl _) (by omega) (fun c d e=>by omega) (fun c d e=>by omega)
   .rw[iNa];unfold ZcO;rw[ep];exact ZGo cN P X Y Q hX hY d9 ec d7 d8 hN hb mid P.length (P.length+X.length) hmid (.inr ⟨by omega,rfl,rfl⟩) _ _ _ _ (Nat.le_refl _) (Nat.le_refl _) (by omega) (Nat.le_refl _) (by omega) (fun c d e=>by omega) (fun c d e=>by omega)
theorem ZEP{K:Cx}:∀fu,g8 K (Zcv fu) fu
 | 0=>fun P X Y Q d e _ _ _ _ g=>by omega
 |fu+1=>fun P X Y Q d e g i j o r t=>by
  unfold Zcv
  exact ZNy (ZEP fu) P X Y Q d e g i j o r t
inductive BlkJ (K:Cx) (B:Nat):Ins->Ins->Prop
 |last (L:Ins) (h:L.length<=B):BlkJ K B L (ZbA K L)
 |more (L D:Ins) (h:B<=L.length) (r:BlkJ K B (L.drop B) D):BlkJ K B L (ZbA K (L.take B)++D)
theorem BlkJ.len{K:Cx}{B:Nat}{L D:Ins}(h:BlkJ K B L D):D.length=L.length:=by
 induction h with
 |last L h=>exact ZgM L
 |more L D h r ih=>rw[List.length_append,ZgM,ih];simp;omega
theorem BlkJ.one{K:Cx}{B:Nat}(g:0<B){L D:Ins}(h:BlkJ K B L D)(hl:L.length<=B):D=ZbA K L:=by
 cases h with
 |last _ h=>rfl
 |more _ D h r=>
  have:L.length=B:=by omega
  have e:L.drop B=[]:=List.drop_eq_nil_of_le (by omega);have d:=r.len;rw[e]at d;rw[List.eq_nil_of_length_eq_zero d,List.take_of_length_le (by omega),List.append_nil]
theorem BlkJ.split{K:Cx}{B:Nat}{L D:Ins}(h:BlkJ K B L D)(hl:B<=L.length):∃D1,D=ZbA K (L.take B)++D1/\BlkJ K B (L.drop B) D1:=by
 cases h with
 |last _ h=>
  have e:L.length=B:=by omega
  refine⟨[],by rw[List.take_of_length_le (by omega),List.append_nil],?_⟩;rw[List.drop_eq_nil_of_le (by omega)];exact BlkJ.last [] (by simp)
 |more _ D h r=>exact⟨D,rfl,r⟩
theorem ZPP{K:Cx}(B:Nat)(r:0<B)(hB2:B<=800)(v:Int->Int->Int->Ins->Option Ins)(t:Int->Ins->Option Ins):∀(s:Nat)(L P D:Ins)(fu:Nat),L.length<2*B*(s+1)->s+1<=fu->P.length+L.length<=900->Rg K L->BlkJ K B L D ->
  ∃D',BlkJ K (2*B) L D'/\ZbJ ((P.length+L.length:Nat):Int) K.c K.b K.s (B:Int) v t fu (P.length:Int) ((P.length+2*B:Nat):Int) (P++D)=t ((2*B:Nat):Int) (P++D'):=by
 intro s;induction s with
 |zero=>
  intro L P D fu u y hb d h;obtain⟨fu,rfl⟩:=sC fu;have i:Zau (P.length:Int) (B:Int)=((P.length+B:Nat):Int):=by rw[Zbs (by omega) (by omega)];omega
  have A:Zml (B:Int) 2=((2*B:Nat):Int):=by rw[ZsQ (by omega) (by omega)];omega
  unfold ZbJ;rw[Zag,iNa,i,A,Zag];refine⟨ZbA K L,BlkJ.last L (by omega),?_⟩;by_cases H:B<L.length
  .obtain⟨D1,rfl,j⟩:=h.split (by omega);have e:=j.one r (by simp;omega);subst e;have l1:(ZbA K (L.take B)).length=B:=by rw[ZgM];simp;omega
   have l2:(ZbA K (L.drop B)).length=L.length-B:=by rw[ZgM];simp
   have g:=ZEP (K:=K) 1000 P (ZbA K (L.take B)) (ZbA K (L.drop B)) [] (by omega) (by omega) (ZnV _) (ZnV _) (Zpv (d.take _)) (Zpv (d.drop _)) (by omega) (by simp;omega);rw[l1,l2,show P.length+B+(L.length-B)=P.length+L.length by omega,<-Zrv,List.take_append_drop,List.append_nil,List.append_nil]at g;rw[iNb,g,Zaw]
  .rw[iNa,h.one r (by omega)]
 |succ s ih=>
  intro L P D fu u y hb d h;rw[Nat.mul_succ]at u;by_cases C:2*B<=L.length
  .obtain⟨fu,rfl⟩:=sC fu;have i:Zau (P.length:Int) (B:Int)=((P.length+B:Nat):Int):=by rw[Zbs (by omega) (by omega)];omega
   have E:Zml (2:Int) (B:Int)=((2*B:Nat):Int):=by rw[ZsQ (by omega) (by omega)];omega
   have F:Zau ((P.length+2*B:Nat):Int) ((2*B:Nat):Int)=((P.length+2*B+2*B:Nat):Int):=by rw[Zbs (by omega) (by omega)];omega
   unfold ZbJ;rw[Zag,i,E,F];obtain⟨D1,rfl,j⟩:=h.split (by omega);obtain⟨D2,rfl,o⟩:=j.split (by simp;omega);have l1:(ZbA K (L.take B)).length=B:=by rw[ZgM];simp;omega
   have l2:(ZbA K ((L.drop B).take B)).length=B:=by rw[ZgM];simp;omega
   have lD:=o.len;simp only[List.length_drop]at lD;have g:=ZEP (K:=K) 1000 P (ZbA K (L.take B)) (ZbA K ((L.drop B).take B)) D2 (by omega) (by omega) (ZnV _) (ZnV _) (Zpv (d.take _)) (Zpv ((d.drop _).take _)) (by omega) (by omega);rw[l1,l2,show P.length+B+B=P.length+2*B by omega,<-Zrv]at g;have et:L.take B++(L.drop B).take B=L.take (2*B):=by rw[show 2*B=B+B by omega,List.take_add]
   have ed:(L.drop B).drop B=L.drop (2*B):=by rw[List.drop_drop];congr 1;omega
   rw[et]at g;rw[ed]at o;rw[iNb,g,Zaw];have lt:(ZbA K (L.take (2*B))).length=2*B:=by rw[ZgM];simp;omega
   obtain⟨D',d1,d2⟩:=ih (L.drop (2*B)) (P++ZbA K (L.take (2*B))) D2 fu (by rw[List.length_drop];omega) (by omega) (by simp only[List.length_append,lt,List.length_drop];omega) (d.drop _) o;refine⟨ZbA K (L.take (2*B))++D',BlkJ.more L D' C d1,?_⟩;simp only[List.length_append,lt,List.length_drop,List.append_assoc]at d2;rw[show P.length+2*B+(L.length-2*B)=P.length+L.length by omega]at d2;exact d2
  .obtain⟨fu,rfl⟩:=sC fu;have G:L.length<2*B*(s+1):=by
    have:2*B<=2*B*(s+1):=Nat.le_mul_of_pos_right _ (by omega);omega
   exact ih L P D (fu+1) G (by omega) hb d h
theorem ZPQ{K:Cx}(v7 v8:Int)(d:Int->Int->Int->Ins->Option Ins)(L:Ins)(hL:L.length<=800)(g:Rg K L):∀(s B:Nat)(D:Ins)(fu:Nat),L.length-B<=s->0<B->B<=1600->s+1<=fu->BlkJ K B L D ->
  Zbu (L.length:Int) K.c K.b K.s v7 v8 d fu (B:Int) D=some (ZbA K L):=by
 intro s;induction s with
 |zero=>
  intro B D fu i e hB2 j h;obtain⟨fu,rfl⟩:=sC fu;unfold Zbu;rw[Zag,iNa,h.one e (by omega)]
 |succ s ih=>
  intro B D fu i e hB2 j h;obtain⟨fu,rfl⟩:=sC fu;unfold Zbu;rw[Zag];by_cases u:B<L.length
  .have o:Zml (2:Int) (B:Int)=((2*B:Nat):Int):=by rw[ZsQ (by omega) (by omega)];omega
   rw[iNb,o];have r:L.length / (2*B)+1<=(((L.length:Nat):Int)-((2*B:Nat):Int)).toNat+2:=by
    by_cases t:L.length<2*B
    .rw[Nat.div_eq_of_lt t];omega
    .rw[Nat.div_eq_sub_div (by omega) (by omega)];have:=Nat.div_le_self (L.length-2*B) (2*B);omega
   obtain⟨D',d1,d2⟩:=ZPP B e (by omega) d (Zbu (L.length:Int) K.c K.b K.s v7 v8 d fu) (L.length / (2*B)) L [] D _ (Nat.lt_mul_div_succ _ (by omega)) r (by simp;omega) g h;simp only[List.length_nil,Nat.zero_add,List.nil_append]at d2;have d2':ZbJ (L.length:Int) K.c K.b K.s (B:Int) d (Zbu (L.length:Int) K.c K.b K.s v7 v8 d fu) ((((L.length:Nat):Int)-((2*B:Nat):Int)).toNat+2) 0 ((2*B:Nat):Int) D=_:=d2;rw[d2'];exact ih (2*B) D' fu (by omega) (by omega) (by omega) (by omega) d1
  .rw[iNa,h.one e (by omega)]
theorem ZPR{K:Cx}(A:Ins)(hA:A.length<=800)(i:Rg K A):∀(s:Nat)(L P:Ins)(fu:Nat),L.length<20*(s+1)->s+1<=fu->P.length+L.length=A.length->Rg K L->(∀D,BlkJ K 20 L D->BlkJ K 20 A (P++D)) ->
  Zbe (A.length:Int) K.c K.b K.s fu 20 (P.length:Int) ((P.length+20:Nat):Int) (P++L)=some (ZbA K A):=by
 intro s;have bm:∀(L P:Ins)(fu:Nat),L.length<20->P.length+L.length=A.length->Rg K L->(∀D,BlkJ K 20 L D->BlkJ K 20 A (P++D)) ->
   Zbe (A.length:Int) K.c K.b K.s (fu+1) 20 (P.length:Int) ((P.length+20:Nat):Int) (P++L)=some (ZbA K A):=by
  intro L P fu g hl g9 d;unfold Zbe;have e:=ZJR (K:=K) P L [] g9 (by simp;omega) (P.length:Int) (A.length:Int) rfl (by omega);simp only[List.append_nil]at e;rw[Zag,iNa,e,Zaw];exact ZPQ _ _ _ A hA i (A.length-20) 20 _ _ (Nat.le_refl _) (by omega) (by omega) (by omega) (d _ (BlkJ.last L (by omega)))
 induction s with
 |zero=>
  intro L P fu g j hl g9 d;obtain⟨fu,rfl⟩:=sC fu;exact bm L P fu (by omega) hl g9 d
 |succ s ih=>
  intro L P fu g j hl g9 d;obtain⟨fu,rfl⟩:=sC fu;by_cases o:L.length<20
  .exact bm L P fu o hl g9 d
  .unfold Zbe;have lt:(L.take 20).length=20:=by simp;omega
   have e:=ZJR (K:=K) P (L.take 20) (L.drop 20) (g9.take _) (by simp;omega) (P.length:Int) ((P.length+20:Nat):Int) rfl (by rw[lt]);rw[List.take_append_drop]at e;have r:Zau ((P.length+20:Nat):Int) 20=((P.length+20+20:Nat):Int):=by rw[Zbs (by omega) (by omega)];omega
   rw[Zag,iNb,e,Zaw,r];have li:(ZbA K (L.take 20)).length=20:=by rw[ZgM,lt]
   have:=ih (L.drop 20) (P++ZbA K (L.take 20)) fu (by rw[List.length_drop];omega) (by omega) (by simp only[List.length_append,li,List.length_drop];omega) (g9.drop _) (fun D t=>by
    have:=d _ (BlkJ.more L D (by omega) t);rwa [<-List.append_assoc]at this)
   simp only[List.length_append,li,List.append_assoc]at this;exact this
theorem Zzp{K:Cx}(A:Ins)(hA:A.length<=800)(d:Rg K A):Zek A K.c K.b K.s=some (ZbA K A):=by
 unfold Zek Zie;have e:A.length / 20+1<=(((A.length:Nat):Int)-(20:Int)).toNat+2:=by omega
 have:=ZPR (K:=K) A hA d (A.length / 20) A [] ((((A.length:Nat):Int)-(20:Int)).toNat+2) (by omega) e (by simp) d (fun D h=>h);simp only[List.length_nil,Nat.zero_add,List.nil_append]at this;have fA:Zbe (A.length:Int) K.c K.b K.s ((((A.length:Nat):Int)-(20:Int)).toNat+2) 20 0 20 A=some (ZbA K A):=this;rw[fA];rfl
def bstJ(K:Cx):Int->Ins->Int|b,[]=>b|b,y :: r=>if ltJ K y b=true then bstJ K y r else bstJ K b r
theorem ZxS{K:Cx}(y:Int):∀(l:Ins)(b:Int),bstJ K b (l++[y])=if ltJ K y (bstJ K b l)=true then y else bstJ K b l
 | [],b=>rfl
 |x :: r,b=>by
  simp only[List.cons_append,bstJ]
  split
  .exact ZxS y r x
  .exact ZxS y r b
theorem ZxR{K:Cx}:∀(l:Ins)(b:Int),bstJ K b l∈b :: l
 | [],b=>by simp[bstJ]
 |x :: r,b=>by
  simp only[bstJ]
  split
  .exact List.mem_cons_of_mem _ (ZxR r x)
  .rcases List.mem_cons.1 (ZxR (K:=K) r b)with h|h
   .rw[h];simp
   .exact List.mem_cons_of_mem _ (List.mem_cons_of_mem _ h)
theorem ZPl{l:Ins}{y:Int}(h:y ∉ l):l.filter (fun x=>x != y)=l:=List.filter_eq_self.2 fun x hx=>by
 rw[bne_iff_ne];rintro rfl;exact h hx
theorem ZHs{K:Cx}(b:Int)(l:Ins)(i:(b :: l).Nodup):ZbA K (b :: l)=bstJ K b l :: ZbA K ((b :: l).filter fun x=>x != bstJ K b l):=by
 have au:∀n,n<=l.length->ZbA K (b :: l.take n)=bstJ K b (l.take n) :: ZbA K ((b :: l.take n).filter fun x=>x != bstJ K b (l.take n)):=by
  intro n;induction n with
  |zero=>intro _;simp[ZbA,bstJ,ZeA]
  |succ n ih=>
   intro h;have d:l.take (n+1)=l.take n++[l[n]]:=List.take_succ_eq_append_getElem (show n<l.length by omega);have hn2:(b :: l.take n++[l[n]]).Nodup:=by
    have:(b :: l.take (n+1)).Nodup:=i.sublist (List.Sublist.cons_cons _ (List.take_sublist _ _));rw[d]at this;exact this
   have bI:l[n] ∉ b :: l.take n:=fun g=>(List.nodup_append.1 hn2).2.2 _ g _ (by simp) rfl;have e:b :: l.take (n+1)=(b :: l.take n)++[l[n]]:=by rw[d];rfl
   have g:=ZxR (K:=K) (l.take n) b;rw[e,ZhU,ih (by omega),d,ZxS];cases hlt:ltJ K l[n] (bstJ K b (l.take n))with
   |true=>
    rw[if_pos rfl,Zii _ _ hlt,Zhw,<-ih (by omega),List.filter_append,ZPl bI];simp
   |false=>
    have hne:l[n]≠bstJ K b (l.take n):=fun h=>bI (h ▸ g);rw[if_neg (by decide),Zjb _ _ hlt,List.filter_append,<-ZhU];congr 2;simp[hne]
 have:=au l.length (Nat.le_refl _);rwa [List.take_length]at this
def selN(K:Cx):Nat->Ins->Ins|0,_=>[]|_+1,[]=>[]|n+1,b :: l=>bstJ K b l :: selN K n ((b :: l).filter fun x=>x != bstJ K b l)
theorem ZFm{K:Cx}:∀(n:Nat)(L:Ins),L.Nodup->selN K n L=(ZbA K L).take n
 | 0,_,_=>by simp[selN]
 |n+1,[],_=>by simp[selN,ZbA]
 |n+1,b :: l,h=>by
  rw[selN,ZHs b l h,List.take_succ_cons,ZFm n _ (h.sublist List.filter_sublist)]
theorem ZOX{K K':Cx}(f:Int->Int):∀(n:Nat)(a b:Ins),a.length+b.length<=n->(∀x∈a,∀y∈b,ltJ K' (f y) (f x)=ltJ K y x)->mrgJ K' (a.map f) (b.map f)=(mrgJ K a b).map f:=by
 intro n;induction n with
 |zero=>
  intro a b h _;obtain rfl:=List.eq_nil_of_length_eq_zero (show a.length=0 by omega);simp[ZeA]
 |succ n ih=>
  intro a b h g;cases a with
  |nil=>simp[ZeA]
  |cons x a=>
   cases b with
   |nil=>simp[Zhw]
   |cons y b=>
    simp only[List.length_cons]at h;have e:=g x (by simp) y (by simp);simp only[List.map_cons];cases d:ltJ K y x with
    |true=>
     rw[d]at e;have:=ih (x :: a) b (by simp only[List.length_cons];omega) fun x' hx y' i=>g x' hx y' (by simp[i]);simp only[List.map_cons]at this;rw[Zii _ _ e,Zii _ _ d,List.map_cons,this]
    |false=>
     rw[d]at e;have:=ih a (y :: b) (by simp only[List.length_cons];omega) fun x' hx y' i=>g x' (by simp[hx]) y' i;simp only[List.map_cons]at this;rw[Zjb _ _ e,Zjb _ _ d,List.map_cons,this]
theorem ZAf{K:Cx}(l:Ins):∀x∈ZbA K l,x∈l:=by
 have:∀n,n<=l.length->∀x∈ZbA K (l.take n),x∈l.take n:=by
  intro n;induction n with
  |zero=>intro _;simp[ZbA]
  |succ n ih=>
   intro h;rw[List.take_succ_eq_append_getElem (show n<l.length by omega),ZhU];intro x hx;rcases ZsR _ _ _ (Nat.le_refl _) x hx with q|q
   .exact List.mem_append.2 (.inl (ih (by omega) x q))
   .exact List.mem_append.2 (.inr q)
 have h:=this l.length (Nat.le_refl _);rwa [List.take_length]at h
theorem ZJP{K K':Cx}(f:Int->Int)(C:Ins)(d:∀x∈C,∀y∈C,ltJ K' (f y) (f x)=ltJ K y x):ZbA K' (C.map f)=(ZbA K C).map f:=by
 have:∀n,n<=C.length->ZbA K' ((C.take n).map f)=(ZbA K (C.take n)).map f:=by
  intro n;induction n with
  |zero=>intro _;simp[ZbA]
  |succ n ih=>
   intro h;rw[List.take_succ_eq_append_getElem (show n<C.length by omega),ZhU,List.map_append,List.map_singleton,ZhU,ih (by omega)];have:=ZOX (K:=K) (K':=K') f _ (ZbA K (C.take n)) [C[n]] (Nat.le_refl _) fun x hx y e=>d x (List.mem_of_mem_take (ZAf _ x hx)) y (by rw[List.mem_singleton.1 e];exact List.getElem_mem _);simpa using this
 have h:=this C.length (Nat.le_refl _);rwa [List.take_length]at h
end Go.Proofs.YtnigiacmmedkhaaGreat
