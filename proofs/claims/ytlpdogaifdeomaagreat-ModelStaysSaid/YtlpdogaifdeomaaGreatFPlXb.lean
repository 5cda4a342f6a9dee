import Derived.Test.YtlpdogaifdeomaaGreatFPlY
import Derived.Test.YtlpdogaifdeomaaGreatFMstA2
import Derived.Test.YtlpdogaifdeomaaGreatFPlA
namespace Go.Proofs.YtlpdogaifdeomaaGreat
set_option linter.unusedSectionVars false
set_option linter.unusedVariables false
set_option linter.unusedSimpArgs false
def u64r(x:Int):Prop:=0<=x/\x<=18446744073709551615
theorem ZqQ(a:Int):u64r (IntKind.wrap .u64 a):=by
 unfold u64r;simp only[IntKind.wrap,IntKind.bits,IntKind.signed];simp;omega
theorem ZRq{a:Int}(h:u64r a):IntKind.wrap .u64 a=a:=ZhT h.1 h.2
theorem ZwY{a:Int}(h:u64r a)(k:Int)(b:0<k):IntKind.wrap .u64 (Int.tdiv a k)=Int.fdiv a k:=by
 obtain⟨n,rfl⟩ : ∃n:Nat,a=n:=⟨a.toNat,by have:=h.1;omega⟩;obtain⟨m,rfl⟩ : ∃m:Nat,k=m:=⟨k.toNat,by omega⟩;have d:=h.2;rw[Int.fdiv_eq_tdiv_of_nonneg (by omega) (by omega)];refine ZRq ⟨Int.tdiv_nonneg (by omega) (by omega),?_⟩;have:Int.tdiv (n:Int) (m:Int)<=(n:Int):=by
  rw[<-Int.ofNat_tdiv];have:=Nat.div_le_self n m;omega
 omega
theorem pw30:(2:Int) ^ (min (30:Int).toNat (IntKind.bits .u64))=1073741824:=by decide
theorem pw27:(2:Int) ^ (min (27:Int).toNat (IntKind.bits .u64))=134217728:=by decide
theorem pw31:(2:Int) ^ (min (31:Int).toNat (IntKind.bits .u64))=2147483648:=by decide
theorem pw57:(2:Int) ^ (min (57:Int).toNat (IntKind.bits .u64))=144115188075855872:=by decide
theorem pw7:(2:Int) ^ (min (7:Int).toNat (IntKind.bits .u64))=128:=by decide
theorem ZEz(x:Int)(h:u64r x):∃y,ZoS x=some y/\ZfK x=some y/\u64r y:=by
 unfold ZoS ZfK;simp only[pw30,pw27,pw31,ZwY h 1073741824 (by omega),ZwY (ZqQ _) 134217728 (by omega),ZwY (ZqQ _) 2147483648 (by omega)];exact⟨_,rfl,rfl,ZqQ _⟩
theorem ZRD(a b:Nat)(d:a<2 ^ 64)(hb:b<2 ^ 64):IntKind.u64.wrap (((BitVec.ofInt (IntKind.bits .u64) (a:Int)) ||| (BitVec.ofInt (IntKind.bits .u64) (b:Int))).toNat:Int)=((a |||b:Nat):Int):=by
 have e:∀c:Nat,c<2 ^ 64->(BitVec.ofInt 64 (c:Int)).toNat=c:=fun c f=>by
  rw[BitVec.ofInt_natCast,BitVec.toNat_ofNat];exact Nat.mod_eq_of_lt f
 have g:((BitVec.ofInt (IntKind.bits .u64) (a:Int)) ||| (BitVec.ofInt (IntKind.bits .u64) (b:Int))).toNat=a |||b:=by
  show (BitVec.ofInt 64 (a:Int) |||BitVec.ofInt 64 (b:Int)).toNat=a |||b;rw[BitVec.toNat_or,e a d,e b hb]
 rw[g];have:=Nat.or_lt_two_pow d hb;exact ZhT (by omega) (by omega)
theorem rot7(x:Int)(h:u64r x):ZfH x 7=some (IntKind.wrap .u64 (IntKind.wrap .u64 (x * 128)+IntKind.wrap .u64 (Int.tdiv x 144115188075855872))):=by
 unfold ZfH;have b:IntKind.wrap .u64 (((BitVec.ofInt (IntKind.bits .u64) (IntKind.wrap .u64 (7:Int))) &&& (BitVec.ofInt (IntKind.bits .u64) (63:Int))).toNat:Int)=7:=by decide
 have e57:IntKind.wrap .u64 ((64:Int)-7)=57:=by decide
 simp only[b,e57,pw57,pw7];rw[Zaj (by omega),Zaj (by omega),ZwY h 144115188075855872 (by omega)];obtain⟨n,rfl⟩ : ∃n:Nat,x=n:=⟨x.toNat,by have:=h.1;omega⟩;have g:=h.2;have d:IntKind.wrap .u64 ((n:Int) * 128)=((n % 2 ^ 57 * 128:Nat):Int):=by
  simp only[IntKind.wrap,IntKind.bits,IntKind.signed];simp;omega
 have e:Int.fdiv (n:Int) 144115188075855872=((n / 2 ^ 57:Nat):Int):=by
  rw[Int.fdiv_eq_tdiv_of_nonneg (by omega) (by omega)];exact(Int.ofNat_tdiv n 144115188075855872).symm
 have hlt:n % 2 ^ 57 * 128<2 ^ 64:=by omega
 have hlt2:n / 2 ^ 57<2 ^ 7:=by omega
 rw[d,e,ZRD _ _ hlt (by omega)];have f:n % 2 ^ 57 * 128 |||n / 2 ^ 57=n % 2 ^ 57 * 128+n / 2 ^ 57:=by
  have:=Nat.shiftLeft_add_eq_or_of_lt hlt2 (n % 2 ^ 57);rw[Nat.shiftLeft_eq]at this;exact this.symm
 rw[f];congr 1;rw[ZhT (by omega) (by omega)];omega
theorem ZPx(k:Int)(l:List Int)(hl:l.length<=1000):∃h,ZsK k l=some h/\Zil k l=some h/\u64r h:=by
 have hL:l.length<=maxLen:=by unfold maxLen;omega
 have aK:∀fu (i:Nat) (v:Int),u64r v->i<=l.length->l.length-i<fu->∃h,Znl fu v l (l.length:Int) (i:Int)=some h/\Zgi l fu v (i:Int)=some h/\u64r h:=by
  intro fu;induction fu with
  |zero=>intro i v _ _ h;omega
  |succ fu ih=>
   intro i v e o p;unfold Znl Zgi;simp only[Zad];by_cases h:i<l.length
   .rw[iNb,iNb,Zaj ⟨by omega,by omega⟩,Zaj ⟨by omega,by omega⟩,rot7 v e];obtain⟨y,b,d,f⟩:=ZEz _ (ZqQ ((l.getD ((i:Int)).toNat (0:Int))+(11400714819323198485:Int)));simp only[b,d,Option.bind_some];obtain⟨z,g,j,n⟩:=ZEz _ (ZqQ (((BitVec.ofInt (IntKind.bits .u64) (IntKind.wrap .u64 (IntKind.wrap .u64 (v * 128)+IntKind.wrap .u64 (Int.tdiv v 144115188075855872)))) ^^^ (BitVec.ofInt (IntKind.bits .u64) y)).toNat:Int));simp only[g,j,Option.bind_some,add1 h hL];exact ih (i+1) z n (by omega) (by omega)
   .rw[iNa,iNa];exact⟨v,rfl,rfl,e⟩
 unfold ZsK Zil;obtain⟨y,b,d,f⟩:=ZEz _ (ZqQ (k+(11400714819323198485:Int)));simp only[b,d,Option.bind_some];exact aK _ 0 y f (by omega) (by omega)
theorem ZKD(k:Int)(n:Zae):∃h,Zqy k n=some h/\ZfL k n=some h/\u64r h:=by
 unfold Zqy ZfL;cases n.fAddr.fV6
 .obtain⟨h,b,d,e⟩:=ZPx k [(4:Int),n.fAddr.fHi,n.fAddr.fLo,(IntKind.wrap .u64 n.fBits)] (by simp);simp only[cond_false,b,d,Option.bind_some];exact⟨h,rfl,rfl,e⟩
 .obtain⟨h,b,d,e⟩:=ZPx k [(6:Int),n.fAddr.fHi,n.fAddr.fLo,(IntKind.wrap .u64 n.fBits)] (by simp);simp only[cond_true,b,d,Option.bind_some];exact⟨h,rfl,rfl,e⟩
theorem ZIa{a:Zaf}(h:Fits a):ZkR a (wid a)=a:=by
 refine Ztk (Zld h _) h (ZjV a _) fun i b=>?_;have d:wid (ZkR a (wid a))=wid a:=by unfold wid;rw[ZjV]
 rw[d]at b;rw[Zmb h (wid a) i (Nat.le_refl _) b,decide_eq_true b,Bool.true_and]
def Zqc(a:Zaf):Zae:=if ZcN a=true then⟨a,(wid a:Int)⟩else⟨⟨false,0,0⟩,0⟩
theorem ZMC(a:Zaf)(h:a.ok):ZpL a=some (Zqc a):=by
 unfold ZpL Zqc;simp only[ZFQ,Option.bind_some,ZEB a h];by_cases b:ZcN a=true
 .rw[if_pos ⟨b,by omega,by omega⟩,if_pos b];simp only[Int.toNat_natCast,ZIa (ZpQ h b)]
 .rw[if_neg (fun x=>b x.1),if_neg b]
theorem ZPf(b lo:Nat)(g:b<2 ^ 64)(j:lo<2 ^ 64):∀fu (i:Nat) (z:Int),i<=64->64-i<fu->(i<64->z=((2 ^ (63-i):Nat):Int)) ->
  ZcP (b:Int) (lo:Int) 128 fu ((b-b % 2 ^ (64-i):Nat):Int) ((lo-lo % 2 ^ (64-i):Nat):Int) z (i:Int)=some ((b:Int),(lo:Int)):=by
 intro fu;induction fu with
 |zero=>intro i z _ h;omega
 |succ fu ih=>
  intro i z hi64 y f;unfold ZcP;simp only[Zad];by_cases h:i<64
  .have t:Zam (i:Int) 64=((i+64:Nat):Int):=by rw[Zbb (by omega) (by omega)];omega
   have u:Zam (i:Int) 1=((i+1:Nat):Int):=by rw[Zbb (by omega) (by omega)];omega
   have f:=f h;obtain⟨p,d⟩ : ∃p:Nat,p=2 ^ (63-i):=⟨_,rfl⟩;have hQ:0<p:=by rw[d];exact Nat.two_pow_pos _
   have bg:2 ^ (64-i)=2*p:=by rw[d,show 64-i=(63-i)+1 by omega,Nat.pow_succ];omega
   have hp3:p<=2 ^ 63:=by rw[d];exact Nat.pow_le_pow_right (by omega) (by omega)
   have bp:p<2 ^ 64:=by omega
   rw[<-d]at f;subst f;have km:IntKind.wrap .u64 (Int.tdiv (p:Int) 2)=((p / 2:Nat):Int):=by
    rw[ZwY ⟨by omega,by omega⟩ 2 (by omega),Int.fdiv_eq_tdiv_of_nonneg (by omega) (by omega)];exact(Int.ofNat_tdiv p 2).symm
   have cC:i+1<64->((p / 2:Nat):Int)=((2 ^ (63-(i+1)):Nat):Int):=fun o=>by
    have:p=2 * 2 ^ (63-(i+1)):=by rw[d,show 63-i=(63-(i+1))+1 by omega,Nat.pow_succ];omega
    rw[this];congr 1;omega
   have bit:∀n:Nat,n<2 ^ 64->IntKind.wrap .u64 (Int.tdiv (n:Int) (p:Int))=((n / p:Nat):Int):=fun n v=>by
    rw[ZwY ⟨by omega,by omega⟩ _ (by omega),Int.fdiv_eq_tdiv_of_nonneg (by omega) (by omega)];exact(Int.ofNat_tdiv n p).symm
   have step:∀n:Nat,n<2 ^ 64->(n / p % 2=1->IntKind.wrap .u64 (((n-n % 2 ^ (64-i):Nat):Int)+(p:Int))=((n-n % 2 ^ (64-(i+1)):Nat):Int))/\(n / p % 2≠1->((n-n % 2 ^ (64-i):Nat):Int)=((n-n % 2 ^ (64-(i+1)):Nat):Int)):=fun n v=>by
    have e:2 ^ (64-(i+1))=p:=by rw[d];congr 1;omega
    rw[e,bg];have r:n % (2*p)=n % p+p*(n / p % 2):=by rw[Nat.mul_comm 2 p];exact Nat.mod_mul
    have hm2:n % p<p:=Nat.mod_lt _ hQ;have hm3:n % (2*p)<=n:=Nat.mod_le _ _;refine⟨fun hb=>?_,fun hb=>?_⟩
    .rw[hb,Nat.mul_one]at r;rw[ZhT (by omega) (by omega)];omega
    .have bD:n / p % 2=0:=by omega
     rw[bD,Nat.mul_zero]at r;rw[r];congr 1
   have tm:∀n:Nat,((Int.tmod ((n:Nat):Int) 2)==(1:Int))=decide (n % 2=1):=fun n=>by
    have:Int.tmod ((n:Nat):Int) 2=((n % 2:Nat):Int):=(Int.ofNat_tmod n 2).symm;rw[this];by_cases o:n % 2=1
    .rw[o];rfl
    .rw[decide_eq_false o];exact beq_false_of_ne (by omega)
   have cH:∀v8:Int,v8=((b-b % 2 ^ (64-(i+1)):Nat):Int)->Zen (b:Int) (lo:Int) 128 ((lo-lo % 2 ^ (64-i):Nat):Int) (p:Int) (i:Int) (ZcP (b:Int) (lo:Int) 128 fu) v8=some ((b:Int),(lo:Int)):=by
    rintro v8 rfl;unfold Zen;simp only[Zad,t,u,km,bit lo j,tm];rw[iNb,Zaj (by omega)];by_cases hb:lo / p % 2=1
    .rw[if_pos hb,(step lo j).1 hb];exact ih (i+1) _ (by omega) (by omega) cC
    .rw[if_neg hb,(step lo j).2 hb];exact ih (i+1) _ (by omega) (by omega) cC
   rw[iNb,iNb,Zaj (by omega)];simp only[bit b g,tm,Zad];by_cases hb:b / p % 2=1
   .rw[if_pos hb];exact cH _ ((step b g).1 hb)
   .rw[if_neg hb];exact cH _ ((step b g).2 hb)
  .have:i=64:=by omega
   subst this;rw[iNa];simp[Nat.mod_one]
theorem ZKd(b lo:Nat)(d:b<2 ^ 64)(e:lo<2 ^ 64):Zex (b:Int) (lo:Int) 128=some ((b:Int),(lo:Int)):=by
 unfold Zex;have:=ZPf b lo d e 66 0 9223372036854775808 (by omega) (by omega) (fun _=>by decide);have f:b-b % 2 ^ (64-0)=0:=by rw[Nat.sub_zero,Nat.mod_eq_of_lt d];omega
 have g:lo-lo % 2 ^ (64-0)=0:=by rw[Nat.sub_zero,Nat.mod_eq_of_lt e];omega
 rw[f,g]at this;exact this
theorem ZGj(a:Zaf)(h:a.ok):ZiV a=some (Zqc a):=by
 unfold ZiV ZkV Zqc;simp only[Zuz,Option.bind_some,Zkq a h,Zad];by_cases d:ZcN a=true
 .rw[d,Bool.not_true,cond_false,iNa,iNa,if_pos rfl];unfold ZkU ZgZ ZgY;simp only[Zkq a h,d,Bool.not_true,cond_false,Option.bind_some,Zad,Zuz];rw[iNa,iNa];have b:=ZpQ h d;obtain⟨v6,g,lo⟩:=a;have j:=b.hi0;have n:=b.hi1;have o:=b.lo0;have p:=b.lo1;simp only at j n o p;obtain⟨x,rfl⟩ : ∃x:Nat,g=x:=⟨g.toNat,by omega⟩;obtain⟨y,rfl⟩ : ∃y:Nat,lo=y:=⟨lo.toNat,by omega⟩;cases v6
  .have i:=b.v4 rfl;have e:wid ⟨false,(x:Int),(y:Int)⟩=32:=rfl;have r:Zam (96:Int) ((32:Nat):Int)=128:=by decide
   simp only[e,r,cond_false];have:=ZKd 0 y (by omega) (by omega);have f:Zex (0:Int) (y:Int) 128=some (((0:Nat):Int),(y:Int)):=this;rw[f,Option.bind_some];simp only at i;simp[i.1]
  .have e:wid ⟨true,(x:Int),(y:Int)⟩=128:=rfl;simp only[e,cond_true];have:=ZKd x y (by omega) (by omega);have f:Zex (x:Int) (y:Int) ((128:Nat):Int)=some ((x:Int),(y:Int)):=this;rw[f,Option.bind_some];rfl
 .simp[d]
def grp(a:Zaf):Zae:=if ZcN a then(if a.fV6 then⟨⟨true,a.fHi-a.fHi % 4294967296,0⟩,32⟩else⟨⟨false,0,a.fLo-a.fLo % 65536⟩,16⟩)else⟨⟨false,0,0⟩,0⟩
theorem top16:ZfM 16=some 18446462598732840960:=by decide +kernel
theorem top32:ZfM 32=some 18446744069414584320:=by decide +kernel
theorem topm:ZfM (Zay 32 64)=some 0:=by decide +kernel
theorem ZHn(n k:Nat)(f:k<=64)(h:n<2 ^ 64):n &&& (2 ^ 64-2 ^ k)=n-n % 2 ^ k:=by
 have d:n-n % 2 ^ k=2 ^ k*(n / 2 ^ k):=by have:=Nat.div_add_mod n (2 ^ k);omega
 rw[d];apply Nat.eq_of_testBit_eq;intro i;have e:2 ^ 64-2 ^ k=2 ^ k*(2 ^ (64-k)-1):=by
  rw[Nat.mul_sub,<-Nat.pow_add,Nat.mul_one];congr 2;omega
 rw[Nat.testBit_and,e,Nat.testBit_two_pow_mul,Nat.testBit_two_pow_mul,Nat.testBit_two_pow_sub_one,Nat.testBit_div_two_pow];by_cases b:k<=i
 .by_cases g:i<64
  .simp[b,show i-k<64-k by omega,show i-k+k=i by omega]
  .have:n.testBit i=false:=Nat.testBit_lt_two_pow (Nat.lt_of_lt_of_le h (Nat.pow_le_pow_right (by omega) (by omega)));simp[b,this,show i-k+k=i by omega]
 .simp[b]
theorem ZRU(n:Nat)(h:n<4294967296):n &&& 4294901760=n-n % 65536:=by
 have b:=ZHn n 16 (by omega) (by omega);have d:n &&& 4294901760=n &&& (2 ^ 64-2 ^ 16):=by
  apply Nat.eq_of_testBit_eq;intro i;rw[Nat.testBit_and,Nat.testBit_and];by_cases e:i<32
  .congr 1;have:∀i:Fin 32,Nat.testBit 4294901760 i.val=Nat.testBit (2 ^ 64-2 ^ 16) i.val:=by decide
   exact this ⟨i,e⟩
  .have:n.testBit i=false:=Nat.testBit_lt_two_pow (Nat.lt_of_lt_of_le h (Nat.pow_le_pow_right (n:=2) (by omega) (show 32<=i by omega)));rw[this];rfl
 rw[d,b]
theorem ZzH(a b:Nat)(d:a<2 ^ 64)(hb:b<2 ^ 64):IntKind.u64.wrap (((BitVec.ofInt (IntKind.bits .u64) (a:Int)) &&& (BitVec.ofInt (IntKind.bits .u64) (b:Int))).toNat:Int)=((a &&& b:Nat):Int):=by
 rw[ZFR a b d hb];have:a &&& b<2 ^ 64:=Nat.and_lt_two_pow _ hb;exact ZhT (by omega) (by omega)
theorem Zpy(a:Zaf)(h:a.ok):Zhm a=some (grp a):=by
 have j:=Zlg a h;obtain⟨v,t,lo⟩:=a;obtain⟨_,d,e,_⟩:=h;have d:=Zkn d;have e:=Zkn e;simp only at d e;obtain⟨n,o⟩:=Zks d.1;obtain⟨m,p⟩:=Zks e.1;subst o p;cases f:ZcN ⟨v,n,m⟩with
 |false=>
  cases v<;>simp[Zhm,Zmm,ZgO,j,f,grp]
 |true=>
  cases v with
  |false=>
   have r:(n:Int)=0/\(m:Int)<4294967296:=by simpa[ZcN]using f
   have g:(m &&& 4294901760:Nat)=m-m % 65536:=ZRU m (by omega);have b:=ZzH m 4294901760 (by omega) (by omega);rw[g]at b;have i:Int.fdiv (18446462598732840960:Int) (2 ^ (min (32:Int).toNat (IntKind.bits .u64)))=((4294901760:Nat):Int):=by decide +kernel
   simp only[Zhm,Zmm,ZgO,j,f,Option.bind_some,cond_false,Bool.not_true,Zed,ZjN,Bool.not_false,cond_true,grp,if_true,Bool.false_eq_true,if_false];simp only[show (decide ((16:Int)<0))=false from rfl,show decide ((16:Int)>32)=false from rfl,cond_false,Option.bind_some];rw[show (if(32:Int)<(if(0:Int)>16 then(0:Int)else 16)then(32:Int)else(if(0:Int)>16 then(0:Int)else 16))=16 from rfl,top16];simp only[Option.bind_some,i,b,r.1];congr 4;omega
  |true=>
   have b:=ZzH n 18446744069414584320 (by omega) (by omega);have g:=ZHn n 32 (by omega) (by omega);rw[show (2:Nat) ^ 64-2 ^ 32=18446744069414584320 from rfl,show (2:Nat) ^ 32=4294967296 from rfl]at g;rw[g]at b;have i:=ZzH m 0 (by omega) (by omega);rw[Nat.and_zero]at i;simp only[Zhm,Zmm,ZgO,j,f,Option.bind_some,cond_false,Bool.not_true,Zed,ZjN,Bool.not_false,cond_true,grp,if_true,Bool.false_eq_true,if_false];simp only[show (decide ((32:Int)<0))=false from rfl,show decide ((32:Int)>128)=false from rfl,cond_false,Option.bind_some];rw[show (if(128:Int)<(if(0:Int)>32 then(0:Int)else 32)then(128:Int)else(if(0:Int)>32 then(0:Int)else 32))=32 from rfl];simp only[ZmS,top32,topm,Option.bind_some];simp only[show ((18446744069414584320:Int))=((18446744069414584320:Nat):Int)from rfl,show (0:Int)=((0:Nat):Int)from rfl,b,i];congr 4;omega
theorem ZGi(a:Zaf)(h:a.ok):ZdE a=some (grp a):=by
 have e:=Zkq a h;obtain⟨v,f,lo⟩:=a;obtain⟨_,b,d,_⟩:=h;have b:=Zkn b;have d:=Zkn d;simp only at b d;have t1:Int.tmod f 4294967296=f % 4294967296:=Int.tmod_eq_emod_of_nonneg b.1;have t2:Int.tmod lo 65536=lo % 65536:=Int.tmod_eq_emod_of_nonneg d.1;cases g:ZcN ⟨v,f,lo⟩with
 |false=>simp[ZdE,e,g,grp]
 |true=>
  cases v with
  |false=>
   simp only[ZdE,e,g,Option.bind_some,cond_false,Bool.not_true,grp,if_true,Bool.false_eq_true,if_false,t2];rw[ZhT (by omega) (by omega)]
  |true=>
   simp only[ZdE,e,g,Option.bind_some,cond_false,Bool.not_true,grp,if_true,cond_true,t1];rw[ZhT (by omega) (by omega)]
def Srt(l:List Zae):Prop:=l.Pairwise fun a b=>cmpN a b<0
theorem Srt.nodup{l:List Zae}(h:Srt l):l.Nodup:=List.Pairwise.imp (fun{a b} hab e=>by subst e;have:=(ZjR (a:=a) (b:=a)).2 rfl;omega) h
def ddN(l:List Zae):Nat->List Zae|0=>[]|m+1=>if 0<m/\l.getD m Zae.d=l.getD (m-1) Zae.d then ddN l m else ddN l m++[l.getD m Zae.d]
theorem ZuS(l:List Zae):∀m,m<=l.length->(∀i,0<i->i<m->l.getD i Zae.d≠l.getD (i-1) Zae.d)->ddN l m=l.take m
 | 0,_,_=>by simp[ddN]
 |m+1,h,b=>by
  rw[ddN,if_neg (fun e=>b m e.1 (by omega) e.2),ZuS l m (by omega) (fun i f g=>b i f (by omega)),List.take_succ_eq_append_getElem (by omega),ZbA l _ m (by omega)]
theorem ZMr(l:List Zae):∀m,m<=l.length->∀x,x∈ddN l m↔x∈l.take m
 | 0,_,x=>by simp[ddN]
 |m+1,h,x=>by
  have ih:=ZMr l m (by omega)
  rw[List.take_succ_eq_append_getElem (by omega),List.mem_append,ddN]
  have e:=ZbA l Zae.d m (by omega)
  split
  .rename_i b
   rw[ih x]
   constructor
   .exact .inl
   .rintro (h1|h1)
    .exact h1
    .rw[List.mem_singleton]at h1
     rw[h1,<-e,b.2,ZbA l Zae.d (m-1) (by omega)]
     exact List.mem_take_iff_getElem.2 ⟨m-1,by omega,rfl⟩
  .rw[List.mem_append,ih x,e]
theorem ZMq(l:List Zae)(g:l.Pairwise fun a b=>cmpN a b<=0):∀m,m<=l.length->Srt (ddN l m)/\∀x∈ddN l m,cmpN x (l.getD (m-1) Zae.d)<=0
 | 0,_=>by simp[ddN,Srt]
 |m+1,h=>by
  obtain⟨i,j⟩:=ZMq l g m (by omega)
  rw[ddN]
  by_cases o:m=0
  .subst o
   rw[if_neg (by simp)]
   simp only[ddN,List.nil_append]
   exact⟨List.pairwise_singleton _ _,fun x hx=>by rw[List.mem_singleton]at hx;rw[hx];have:=(ZjR (a:=l.getD 0 Zae.d) (b:=l.getD 0 Zae.d)).2 rfl;simp at this ⊢;omega⟩
  .split
   .rename_i f
    refine⟨i,fun x hx=>?_⟩
    rw[Nat.add_sub_cancel,f.2]
    exact j x hx
   .rename_i f
    have hne:l.getD m Zae.d≠l.getD (m-1) Zae.d:=fun e=>f ⟨by omega,e⟩
    have hle:cmpN (l.getD (m-1) Zae.d) (l.getD m Zae.d)<=0:=by
     rw[ZbA l _ m (by omega),ZbA l _ (m-1) (by omega)];exact List.pairwise_iff_getElem.1 g (m-1) m (by omega) (by omega) (by omega)
    have hlt:cmpN (l.getD (m-1) Zae.d) (l.getD m Zae.d)<0:=by
     have:cmpN (l.getD (m-1) Zae.d) (l.getD m Zae.d)≠0:=fun e=>hne (ZjR.1 e).symm;omega
    have dr:∀x∈ddN l m,cmpN x (l.getD m Zae.d)<0:=fun x hx=>by
     have r:=j x hx;by_cases p:cmpN x (l.getD (m-1) Zae.d)=0
     .rw[ZjR.1 p];exact hlt
     .exact Znb (by omega) hlt
    refine⟨List.pairwise_append.2 ⟨i,List.pairwise_singleton _ _,fun x hx y n=>by rw[List.mem_singleton]at n;rw[n];exact dr x hx⟩,fun x hx=>?_⟩;rw[Nat.add_sub_cancel];rcases List.mem_append.1 hx with hx|hx
    .have:=dr x hx;omega
    .rw[List.mem_singleton]at hx;rw[hx];have:=(ZjR (a:=l.getD m Zae.d) (b:=l.getD m Zae.d)).2 rfl;omega
theorem sub1{i:Nat}(h:0<i)(b:i<=maxLen):Zay (i:Int) 1=((i-1:Nat):Int):=by
 unfold maxLen at b;rw[Zbi (by omega) (by omega)];omega
theorem ZIP(l:List Zae)(hl:l.length<=maxLen)(b:Nat)(hk0:0<b)(hk0l:b<l.length)(k:Int->List Zae->Option (List Zae)):∀fu (j kk:Nat) (w:List Zae),0<j->b+j<=l.length->l.length-(b+j)<fu ->
  w.length=l.length->(∀i,b+j-1<=i->w.getD i Zae.d=l.getD i Zae.d)->kk<b+j->w.take kk=ddN l (b+j)->kk<=w.length ->
  ZbT k fu (kk:Int) b (l.length-b) l.length (j:Int) w=some (ddN l l.length):=by
 intro fu;induction fu with
 |zero=>intro _ _ _ _ _ h;omega
 |succ fu ih=>
  intro j kk w p hjl u g cr g9 fi hkl;simp only[ZbT,Zad];by_cases h:b+j<l.length
  .rw[iNb,Zaj ⟨by omega,by omega⟩,Zaj (by simp;omega),sub1 p (by omega),Zaj ⟨by omega,by omega⟩,Zaj (by simp;omega)];simp only[Int.toNat_natCast];simp only[show b+(j-1)=b+j-1 by omega,cr (b+j) (by omega),cr (b+j-1) (by omega)];have o:Zam (j:Int) 1=((j+1:Nat):Int):=add1 (n:=l.length) (by omega) hl;have k7:ddN l (b+(j+1))=if 0<b+j/\l.getD (b+j) Zae.d=l.getD (b+j-1) Zae.d then ddN l (b+j)else ddN l (b+j)++[l.getD (b+j) Zae.d]:=rfl;by_cases f:l.getD (b+j) Zae.d=l.getD (b+j-1) Zae.d
   .rw[if_pos ⟨by omega,f⟩]at k7;rw[decide_eq_true f];simp only[Bool.not_true,cond_false];rw[o];exact ih (j+1) kk w (by omega) (by omega) (by omega) g (fun i r=>cr i (by omega)) (by omega) (by rw[k7];exact fi) hkl
   .rw[if_neg (fun t=>f t.2)]at k7;rw[decide_eq_false f];simp only[Bool.not_false,cond_true];rw[Zaj ⟨by omega,by omega⟩,o,show Zam (kk:Int) 1=((kk+1:Nat):Int)from add1 (n:=l.length) (by omega) hl];have hkw:kk<w.length:=by omega
    refine ih (j+1) (kk+1) _ (by omega) (by omega) (by omega) (by simp[g]) (fun i r=>?_) (by omega) ?_ (by simp;omega)
    .rw[<-cr i (by omega)];simp only[List.getD_eq_getElem?_getD,Int.toNat_natCast];rw[List.getElem?_set_ne (by omega)]
    .rw[k7,<-fi]
     (try simp only[Int.toNat_natCast])
     rw[List.take_succ_eq_append_getElem (by simp;omega),List.take_set_of_le (by omega)];simp
  .have e:b+j=l.length:=by omega
   rw[iNa,Zaj ⟨by omega,by omega,by omega⟩,Zaj (by simp;omega),Zaj ⟨by omega,by omega,by omega⟩];simp only[Int.toNat_natCast];rw[Zaj (by rw[Zph _ _ _ _ (by omega)];exact hkl)];rw[<-e,<-fi];congr 1;simp only[ZdI,List.append_assoc];rw[List.take_append_of_le_length (by simp;omega),List.take_take,Nat.min_self]
theorem ZFK(l:List Zae)(hl:l.length<999999):∀fu (i:Nat),0<i->i<=l.length->l.length-i<fu->(∀q,0<q->q<i->l.getD q Zae.d≠l.getD (q-1) Zae.d) ->
  ZbU fu (i:Int) l=some (ddN l l.length):=by
 have n:l.length<=maxLen:=by unfold maxLen;omega
 intro fu;induction fu with
 |zero=>intro _ _ _ h;omega
 |succ fu ih=>
  intro i f l9 r g;simp only[ZbU,Zad];by_cases h:i<l.length
  .rw[iNb,Zaj ⟨by omega,by omega⟩,sub1 f (by omega),Zaj ⟨by omega,by omega⟩];simp only[Int.toNat_natCast];by_cases b:l.getD i Zae.d=l.getD (i-1) Zae.d
   .rw[if_pos b,Zaj ⟨by omega,by omega,by omega⟩];refine ZIP l n i f h _ 1000000 1 i l (by omega) (by omega) (by omega) rfl (fun _ _=>rfl) (by omega) ?_ (by omega);rw[ddN,if_pos ⟨f,b⟩,ZuS l i (by omega) g]
   .rw[if_neg b,add1 h n];refine ih (i+1) (by omega) (by omega) (by omega) fun q j o=>?_;by_cases p:q=i
    .subst p;exact b
    .exact g q j (by omega)
  .have e:i=l.length:=by omega
   rw[iNa];congr 1;rw[ZuS l l.length (Nat.le_refl _) (fun q j o=>g q j (by omega)),List.take_length]
theorem ZIQ(l:List Zae)(hl:l.length<999999):ZbN l=some (ddN l l.length):=by
 simp only[ZbN,Zad];split
 .rename_i h;congr 1;rw[ZuS l l.length (Nat.le_refl _) (fun i b d=>by omega),List.take_length]
 .rename_i h;exact ZFK l hl _ 1 (by omega) (by omega) (by omega) (fun q b d=>by omega)
theorem ZNJ(l:List Zae)(h:l.length<999999):∃L,(Zhp l).bind ZbN=some L/\Srt L/\∀x,x∈L↔x∈l:=by
 unfold Zhp;rw[Zaj (by omega)];simp only[Option.bind_some];have e:=List.mergeSort_perm l (fun x y=>!(Go.Proofs.ltOf cmpN) y x);have g:=List.pairwise_mergeSort (le:=fun x y=>!(Go.Proofs.ltOf cmpN) y x) (fun a b c d f=>by
   have:=ZHf.ntrans c b a (by simpa using f) (by simpa using d);simpa using this) (fun a b=>by
   rw[ltN,ltN,Bool.or_eq_true,Bool.not_eq_true',Bool.not_eq_true',decide_eq_false_iff_not,decide_eq_false_iff_not];by_cases d:cmpN b a<0
   .refine .inr fun f=>?_;have:=Znb d f;have:=(ZjR (a:=b) (b:=b)).2 rfl;omega
   .exact .inl d) l
 generalize l.mergeSort (fun x y=>!(Go.Proofs.ltOf cmpN) y x)=m at e g;rw[ZIQ m (by rw[e.length_eq];exact h)];refine⟨_,rfl,(ZMq m (g.imp fun{a b} hab=>?_) m.length (Nat.le_refl _)).1,fun x=>?_⟩
 .rw[ltN,Bool.not_eq_true',decide_eq_false_iff_not]at hab;have:¬0<cmpN a b:=fun h=>hab (Zpf.1 h);omega
 .rw[ZMr m m.length (Nat.le_refl _),List.take_length];exact e.mem_iff
def endZ:Zag:=⟨⟨false,0,0⟩,0⟩
def repZ:Zal:=⟨0,endZ,0,0,[]⟩
theorem Zdp(a b:Int){α:Type}(x y:α):(bif a==b then x else y)=if a=b then x else y:=by
 by_cases h:a=b
 .subst h;simp
 .rw[if_neg h,beq_false_of_ne h];rfl
theorem Zan{α β:Type}(x:α)(f:α->Option β):(some x).bind f=f x:=by simp
section
end
theorem ZRu{i:Nat}(h:i<=1000000):Zay ((i+1:Nat):Int) 1=(i:Int):=by
 unfold Zay;have:IntKind.i64.wrap (((i+1:Nat):Int)-1)=((i+1:Nat):Int)-1:=Zgs (by omega) (by omega);exact this.trans (by omega)
theorem Zyt(l:List Zac)(h:l.length<=1000000):Zjs l l=some true:=by
 have aK:∀(k i f:Nat),l.length-i=k->i<=l.length->k+1<=f->Zej l l f i=some true:=by
  intro k;induction k with
  |zero=>
   intro i f d e g;obtain⟨f,rfl⟩:=sC f;have b:¬((i:Int)<(l.length:Int)):=by omega
   unfold Zej;simp only[Zad,if_neg b]
  |succ k ih=>
   intro i f d e g;obtain⟨f,rfl⟩:=sC f;have b:(i:Int)<(l.length:Int):=by omega
   have j:Zam (i:Int) 1=((i+1:Nat):Int):=add1 (n:=i+1) (by omega) (by simp only[maxLen];omega);unfold Zej;simp only[Zad,if_pos b,j,decide_true,Bool.not_true,cond_false];rw[Zaj (by omega),Zaj (by omega)];exact ih (i+1) f (by omega) (by omega) (by omega)
 unfold Zjs;simp only[bne_self_eq_false,cond_false];exact aK l.length 0 _ (by omega) (by omega) (by omega)
theorem Zys(l:List Zab)(h:l.length<=1000000):Zjr l l=some true:=by
 have aK:∀(k i f:Nat),l.length-i=k->i<=l.length->k+1<=f->Zei l l f i=some true:=by
  intro k;induction k with
  |zero=>
   intro i f d e g;obtain⟨f,rfl⟩:=sC f;have b:¬((i:Int)<(l.length:Int)):=by omega
   unfold Zei;simp only[Zad,if_neg b]
  |succ k ih=>
   intro i f d e g;obtain⟨f,rfl⟩:=sC f;have b:(i:Int)<(l.length:Int):=by omega
   have j:Zam (i:Int) 1=((i+1:Nat):Int):=add1 (n:=i+1) (by omega) (by simp only[maxLen];omega);unfold Zei;simp only[Zad,if_pos b,j,decide_true,Bool.not_true,cond_false];rw[Zaj (by omega),Zaj (by omega)];exact ih (i+1) f (by omega) (by omega) (by omega)
 unfold Zjr;simp only[bne_self_eq_false,cond_false];exact aK l.length 0 _ (by omega) (by omega) (by omega)
theorem Zru(l:List Zaa)(h:l.length<=1000000):ZgJ l l=some true:=by
 have aK:∀(k i f:Nat),l.length-i=k->i<=l.length->k+1<=f->ZdO l l f i=some true:=by
  intro k;induction k with
  |zero=>
   intro i f d e g;obtain⟨f,rfl⟩:=sC f;have b:¬((i:Int)<(l.length:Int)):=by omega
   unfold ZdO;simp only[Zad,if_neg b]
  |succ k ih=>
   intro i f d e g;obtain⟨f,rfl⟩:=sC f;have b:(i:Int)<(l.length:Int):=by omega
   have j:Zam (i:Int) 1=((i+1:Nat):Int):=add1 (n:=i+1) (by omega) (by simp only[maxLen];omega);unfold ZdO;simp only[Zad,if_pos b,j,decide_true,Bool.not_true,cond_false];rw[Zaj (by omega),Zaj (by omega)];exact ih (i+1) f (by omega) (by omega) (by omega)
 unfold ZgJ;simp only[bne_self_eq_false,cond_false];exact aK l.length 0 _ (by omega) (by omega) (by omega)
theorem ZwK(r:Zal)(h:r.fPeers.length<=1000000):ZiO r r=some true:=by
 unfold ZiO;simp only[beq_self_eq_true,decide_true,cond_true,Zru _ h,Zan]
structure Cx where
 c:List Zaa
 b:Int
 s:Int
def InR(K:Cx)(x:Int):Prop:=(0<=x/\x<((K.c.length:Nat):Int))/\(K.c.getD x.toNat Zaa.d).fEnd.fAddr.ok
def Rg(K:Cx)(l:List Int):Prop:=∀x∈l,InR K x
theorem Rg.app{K:Cx}{l r:List Int}(h:Rg K l)(b:Rg K r):Rg K (l++r):=fun x hx=>(List.mem_append.1 hx).elim (h x) (b x)
theorem Rg.take{K:Cx}{l:List Int}(h:Rg K l)(k:Nat):Rg K (l.take k):=fun x hx=>h x (List.mem_of_mem_take hx)
theorem Rg.drop{K:Cx}{l:List Int}(h:Rg K l)(k:Nat):Rg K (l.drop k):=fun x hx=>h x (List.mem_of_mem_drop hx)
theorem Rg.get{K:Cx}{l:List Int}(h:Rg K l){i:Nat}(b:i<l.length):InR K (l.getD i 0):=by rw[ZbA l _ i b];exact h _ (List.getElem_mem b)
def keyZ(s:Int)(p:Zaa):Int:=(Zqy s (grp p.fEnd.fAddr)).getD 0
def kv(b s:Int)(p:Zaa):Int:=if b=1 then-keyZ s p else if b=2 then p.fPing else if b=3 then-p.fWork else if b=4 then p.fSince else 0
def ZqF(b s:Int)(p q:Zaa):Int:=orI (cmpI (kv b s p) (kv b s q)) (cmpE p.fEnd q.fEnd)
theorem ZuL{b s:Int}{p q:Zaa}:ZqF b s p q<0↔kv b s p<kv b s q\/(kv b s p=kv b s q/\cmpE p.fEnd q.fEnd<0):=by simp only[ZqF,Zxq,ZtR,ZjS]
theorem ZHg(a b:Int):cmpI b a=cmpI (-a) (-b):=by
 unfold cmpI
 repeat' split
 all_goals omega
theorem ZGm(p:Zaa)(s:Int)(h:p.fEnd.fAddr.ok):ZoR p s=some (keyZ s p):=by
 obtain⟨m,b,_,_⟩:=ZKD s (grp p.fEnd.fAddr);unfold ZoR keyZ;rw[Zpy _ h,Zan,b,Zan];rfl
theorem ZAX(p q:Zaa)(b s:Int)(h:p.fEnd.fAddr.ok)(i:q.fEnd.fAddr.ok):ZlX p q b s=some (cmpI (kv b s p) (kv b s q)):=by
 unfold ZlX kv;simp only[ZGm _ _ h,ZGm _ _ i,ZMw,Zsg,Zan,Zdp];by_cases d:b=1
 .simp only[if_pos d,<-ZHg]
 .simp only[if_neg d];by_cases e:b=2
  .simp only[if_pos e]
  .simp only[if_neg e];by_cases f:b=3
   .simp only[if_pos f,<-ZHg]
   .simp only[if_neg f];by_cases g:b=4
    .simp only[if_pos g]
    .simp only[if_neg g];rfl
theorem ZKj(p q:Zaa)(b s:Int)(d:p.fEnd.fAddr.ok)(e:q.fEnd.fAddr.ok):ZpD p q b s=some (ZqF b s p q):=by
 unfold ZpD ZqF;simp only[ZAX _ _ _ _ d e,Zog,or2,Zan]
def cmpJ(K:Cx)(x y:Int):Int:=ZqF K.b K.s (K.c.getD x.toNat Zaa.d) (K.c.getD y.toNat Zaa.d)
def ltJ(K:Cx)(x y:Int):Bool:=decide (cmpJ K x y<0)
theorem ZvE{K:Cx}{x y:Int}:ltJ K x y=true↔cmpJ K x y<0:=by unfold ltJ;simp
theorem Zxw{K:Cx}{x y:Int}:ltJ K x y=false↔¬cmpJ K x y<0:=by unfold ltJ;simp
theorem ZuN{K:Cx}{x y:Int}(hx:InR K x)(d:InR K y):ZhJ x y K.c K.b K.s=some (cmpJ K x y):=by
 unfold ZhJ cmpJ;rw[Zaj hx.1,Zaj d.1,ZKj _ _ _ _ hx.2 d.2];rfl
theorem ZFa{b s:Int}{p q r:Zaa}(e:ZqF b s p q<0)(d:ZqF b s q r<0):ZqF b s p r<0:=by
 rw[ZuL]at *
 rcases e with e|⟨e,g⟩
 .rcases d with d|⟨d,f⟩
  .left;omega
  .left;omega
 .rcases d with d|⟨d,f⟩
  .left;omega
  .right;exact⟨by omega,ZlS g f⟩
theorem ZLK{b s:Int}{p q r:Zaa}(f:¬ZqF b s p q<0)(d:¬ZqF b s q r<0):¬ZqF b s p r<0:=by
 rw[ZuL]at *
 rintro (h|⟨h,g⟩)
 .by_cases e:kv b s p=kv b s q
  .exact d (.inl (by omega))
  .by_cases i:kv b s p<kv b s q
   .exact f (.inl i)
   .exact d (.inl (by omega))
 .by_cases e:kv b s p=kv b s q
  .have n1:¬cmpE p.fEnd q.fEnd<0:=fun x=>f (.inr ⟨e,x⟩);have n2:¬cmpE q.fEnd r.fEnd<0:=fun x=>d (.inr ⟨by omega,x⟩);have e4:cmpE p.fEnd q.fEnd=0\/0<cmpE p.fEnd q.fEnd:=by omega
   rcases e4 with e4|e4
   .rw[ZgT.1 e4]at g;exact n2 g
   .exact n2 (ZlS (Zgl.1 e4) g)
  .by_cases i:kv b s p<kv b s q
   .exact f (.inl i)
   .exact d (.inl (by omega))
theorem ZLL(b s:Int)(p:Zaa):¬ZqF b s p p<0:=by
 rw[ZuL];rintro (h|⟨_,h⟩)
 .omega
 .rw[ZgT.2 rfl]at h;omega
theorem ZBp{K:Cx}{x y z:Int}(b:ltJ K x y=true)(d:ltJ K y z=true):ltJ K x z=true:=by
 rw[ZvE]at *;exact ZFa b d
theorem Zng{K:Cx}{x y z:Int}(b:ltJ K x y=false)(d:ltJ K y z=false):ltJ K x z=false:=by
 rw[Zxw]at *;exact ZLK b d
theorem ZKJ{K:Cx}(x:Int):ltJ K x x=false:=by rw[Zxw];exact ZLL _ _ _
theorem ZOj{K:Cx}{x y:Int}(h:ltJ K x y=true):ltJ K y x=false:=by
 cases b:ltJ K y x with
 |false=>rfl
 |true=>have:=ZBp h b;rw[ZKJ]at this;cases this
theorem ZNK{α:Type}(L R:List α)(x y:α):(L++x :: R).set L.length y=L++y :: R:=by
 induction L with
 |nil=>rfl
 |cons z L ih=>simp[ih]
theorem ZGP{α:Type}(L R:List α)(x d:α):(L++x :: R).getD L.length d=x:=by
 induction L with
 |nil=>rfl
 |cons z L ih=>simp
theorem Zql{α:Type}{l L R:List α}{x y:α}{k:Nat}(h:l=L++x :: R)(b:k=L.length):l.set k y=L++y :: R:=by rw[h,b,ZNK]
theorem Zon{α:Type}{l L R:List α}{x d:α}{k:Nat}(h:l=L++x :: R)(b:k=L.length):l.getD k d=x:=by rw[h,b,ZGP]
abbrev Ins:=List Int
variable {K:Cx}
theorem ZHB(P B Q:Ins):∀(k:Nat)(A1 A2 C1 C2:Ins)(fu:Nat),A2.length=k->C2.length=k->A1.length=C1.length->k+1<=fu->P.length+B.length+Q.length+2*(A1.length+k)<=1000000 ->
  ZbO (P.length:Int) ((P.length+(A1.length+k)+B.length:Nat):Int) ((A1.length+k:Nat):Int) fu (A1.length:Int) (P++(C1++(A2++(B++(A1++(C2++Q))))))=some (P++(C1++(C2++(B++(A1++(A2++Q)))))):=by
 intro k;induction k with
 |zero=>
  intro A1 A2 C1 C2 fu b d e f hb;obtain⟨fu,rfl⟩:=sC fu;obtain rfl:=List.eq_nil_of_length_eq_zero b;obtain rfl:=List.eq_nil_of_length_eq_zero d;unfold ZbO;rw[Zad,iNa]
 |succ k ih=>
  intro A1 A2 C1 C2 fu b d e f hb;obtain⟨fu,rfl⟩:=sC fu;cases A2 with
  |nil=>cases b
  |cons a A2=>
   cases C2 with
   |nil=>cases d
   |cons c C2=>
    simp only[List.length_cons,Nat.add_right_cancel_iff]at b d;unfold ZbO;have g:Zam (P.length:Int) (A1.length:Int)=((P.length+A1.length:Nat):Int):=by rw[Zbb (by omega) (by omega)];omega
    have h:Zam ((P.length+(A1.length+(k+1))+B.length:Nat):Int) (A1.length:Int)=((P.length+(A1.length+(k+1))+B.length+A1.length:Nat):Int):=by rw[Zbb (by omega) (by omega)];omega
    have i:Zam (A1.length:Int) 1=((A1.length+1:Nat):Int):=by rw[Zbb (by omega) (by omega)];omega
    have hl:(P++(C1++(a :: A2++(B++(A1++(c :: C2++Q)))))).length=P.length+B.length+Q.length+2*(A1.length+(k+1)):=by simp;omega
    rw[Zad,iNb,g,h,i,Zaj (by rw[hl];omega),Zaj (by rw[hl];omega)];simp only[Int.toNat_natCast];have j:(P++(C1++(a :: A2++(B++(A1++(c :: C2++Q)))))).getD (P.length+(A1.length+(k+1))+B.length+A1.length) 0=c:=
     Zon (L:=P++(C1++(a :: A2++(B++A1)))) (R:=C2++Q) (by simp) (by simp;omega)
    have n:(P++(C1++(a :: A2++(B++(A1++(c :: C2++Q)))))).getD (P.length+A1.length) 0=a:=
     Zon (L:=P++C1) (R:=A2++(B++(A1++(c :: C2++Q)))) (by simp) (by simp;omega)
    have s1:(P++(C1++(a :: A2++(B++(A1++(c :: C2++Q)))))).set (P.length+A1.length) c=P++(C1++(c :: A2++(B++(A1++(c :: C2++Q))))):=by
     rw[Zql (L:=P++C1) (x:=a) (R:=A2++(B++(A1++(c :: C2++Q)))) (by simp) (by simp;omega)];simp
    have s2:(P++(C1++(c :: A2++(B++(A1++(c :: C2++Q)))))).set (P.length+(A1.length+(k+1))+B.length+A1.length) a=P++(C1++(c :: A2++(B++(A1++(a :: C2++Q))))):=by
     rw[Zql (L:=P++(C1++(c :: A2++(B++A1)))) (x:=c) (R:=C2++Q) (by simp) (by simp;omega)];simp
    rw[j,n,s1,s2];have:=ih (A1++[a]) A2 (C1++[c]) C2 fu b d (by simp;omega) (by omega) (by simp;omega);simp only[List.length_append,List.length_singleton,List.append_assoc,List.singleton_append,List.cons_append]at this ⊢;have x1:A1.length+1+k=A1.length+(k+1):=by omega
    rw[x1]at this;exact this
theorem Zym(P A B C Q:Ins)(h:A.length=C.length)(hb:P.length+B.length+Q.length+2*A.length<=1000000)(a b n:Int)(d:a=(P.length:Int))(gC:b=((P.length+A.length+B.length:Nat):Int))(e:n=(A.length:Int)) :
  ZbZ (P++(A++(B++(C++Q)))) a b n K.c K.b K.s=some (P++(C++(B++(A++Q)))):=by
 subst d gC e;unfold ZbZ;have:=ZHB P B Q A.length [] A [] C (((A.length:Int)-0).toNat+2) rfl h.symm rfl (by omega) (by simpa using hb);simpa using this
theorem ZJS(m:Nat):∀(s:Nat)(P X Y Q:Ins)(fu:Nat),X.length+Y.length<=s->0<X.length->0<Y.length->m=P.length+X.length->P.length+X.length+Y.length+Q.length<=1000000->s+1<=fu ->
  Zca (m:Int) K.c K.b K.s fu (X.length:Int) (Y.length:Int) (P++(X++(Y++Q)))=some (P++(Y++(X++Q))):=by
 intro s;induction s with
 |zero=>intro P X Y Q fu j d;omega
 |succ s ih=>
  intro P X Y Q fu j d r n hb t;obtain⟨fu,rfl⟩:=sC fu;unfold Zca;have g:Zay (m:Int) (X.length:Int)=(P.length:Int):=by rw[Zbi (by omega) (by omega)];omega
  by_cases h:X.length=Y.length
  .have e:((X.length:Int) != (Y.length:Int))=false:=by rw[h];simp
   rw[e,cond_false,g];have:=Zym (K:=K) P X [] Y Q h (by simp;omega) (P.length:Int) (m:Int) (X.length:Int) rfl (by simp[n]) rfl;simp only[List.nil_append]at this;rw[this];rfl
  .have e:((X.length:Int) != (Y.length:Int))=true:=by rw[bne_iff_ne];omega
   rw[e,cond_true,Zad,g];by_cases u:Y.length<X.length
   .obtain⟨X1,X2,rfl,hx⟩ : ∃X1 X2,X=X1++X2/\X1.length=Y.length:=⟨X.take Y.length,X.drop Y.length,(List.take_append_drop ..).symm,by simp;omega⟩;simp only[List.length_append]at *
    have f:Zay ((X1.length+X2.length:Nat):Int) (Y.length:Int)=(X2.length:Int):=by rw[Zbi (by omega) (by omega)];omega
    rw[iNb,f];have:=Zym (K:=K) P X1 X2 Y Q hx (by omega) (P.length:Int) (m:Int) (Y.length:Int) rfl (by omega) (by omega);simp only[List.append_assoc]at this ⊢;rw[this,Zan];have d:=ih (P++Y) X2 X1 Q fu (by omega) (by omega) (by omega) (by simp;omega) (by simp;omega) (by omega);simp only[List.append_assoc,hx]at d;exact d
   .obtain⟨Y1,Y2,rfl,i⟩ : ∃Y1 Y2,Y=Y1++Y2/\Y2.length=X.length:=⟨Y.take (Y.length-X.length),Y.drop (Y.length-X.length),(List.take_append_drop ..).symm,by simp;omega⟩;simp only[List.length_append]at *
    have f:Zay ((Y1.length+Y2.length:Nat):Int) (X.length:Int)=(Y1.length:Int):=by rw[Zbi (by omega) (by omega)];omega
    have o:Zam (m:Int) ((Y1.length+Y2.length:Nat):Int)=((m+Y1.length+Y2.length:Nat):Int):=by rw[Zbb (by omega) (by omega)];omega
    have p:Zay ((m+Y1.length+Y2.length:Nat):Int) (X.length:Int)=((P.length+X.length+Y1.length:Nat):Int):=by rw[Zbi (by omega) (by omega)];omega
    rw[iNa,f,o,p];have:=Zym (K:=K) P X Y1 Y2 Q i.symm (by omega) (P.length:Int) ((P.length+X.length+Y1.length:Nat):Int) (X.length:Int) rfl rfl rfl;simp only[List.append_assoc]at this ⊢;rw[this,Zan];have d:=ih P Y2 Y1 (X++Q) fu (by omega) (by omega) (by omega) (by omega) (by simp;omega) (by omega);simp only[List.append_assoc,i]at d;exact d
theorem ZQn(P X Y Q:Ins)(d:0<X.length)(e:0<Y.length)(hb:P.length+X.length+Y.length+Q.length<=900000)(a m b:Int)(f:a=(P.length:Int))(g:m=((P.length+X.length:Nat):Int))(gC:b=((P.length+X.length+Y.length:Nat):Int)) :
  ZcO (P++(X++(Y++Q))) a m b K.c K.b K.s=some (P++(Y++(X++Q))):=by
 subst f g gC;unfold ZcO;have h:Zay ((P.length+X.length:Nat):Int) (P.length:Int)=(X.length:Int):=by rw[Zbi (by omega) (by omega)];omega
 have i:Zay ((P.length+X.length+Y.length:Nat):Int) ((P.length+X.length:Nat):Int)=(Y.length:Int):=by rw[Zbi (by omega) (by omega)];omega
 rw[h,i];exact ZJS _ (X.length+Y.length) P X Y Q 1000000 (Nat.le_refl _) d e rfl (by omega) (by omega)
theorem ZEC{x y z:Int}(b:ltJ K z x=true)(d:ltJ K y x=false):ltJ K z y=true:=by
 cases h:ltJ K z y with
 |true=>rfl
 |false=>rw[Zng h d]at b;cases b
def mrgJ(K:Cx):Ins->Ins->Ins | [],ys=>ys|x :: xs,[]=>x :: xs|x :: xs,y :: ys=>if ltJ K y x=true then y :: mrgJ K (x :: xs) ys else x :: mrgJ K xs (y :: ys)
termination_by xs ys=>xs.length+ys.length
theorem ZhU(xs:Ins):mrgJ K xs []=xs:=by cases xs<;>simp[mrgJ]
theorem Zeq(xs:Ins):mrgJ K [] xs=xs:=by simp[mrgJ]
theorem ZiB{x y:Int}(xs ys:Ins)(h:ltJ K y x=true):mrgJ K (x :: xs) (y :: ys)=y :: mrgJ K (x :: xs) ys:=by rw[mrgJ,if_pos h]
theorem ZjF{x y:Int}(xs ys:Ins)(h:ltJ K y x=false):mrgJ K (x :: xs) (y :: ys)=x :: mrgJ K xs (y :: ys):=by rw[mrgJ,if_neg (by simp[h])]
theorem ZHY:∀(n:Nat)(a b c:Ins),a.length+b.length+c.length<=n->mrgJ K (mrgJ K a b) c=mrgJ K a (mrgJ K b c):=by
 intro n;induction n with
 |zero=>
  intro a b c h;obtain rfl:=List.eq_nil_of_length_eq_zero (show a.length=0 by omega);rw[Zeq,Zeq]
 |succ n ih=>
  intro a b c h;cases a with
  |nil=>rw[Zeq,Zeq]
  |cons x a=>
   cases b with
   |nil=>rw[ZhU,Zeq]
   |cons y b=>
    cases c with
    |nil=>rw[ZhU,ZhU]
    |cons z c=>
     simp only[List.length_cons]at h;cases e:ltJ K y x with
     |true=>
      rw[ZiB _ _ e];cases d:ltJ K z y with
      |true=>
       rw[ZiB _ _ d,ZiB _ _ d,ZiB _ _ (ZBp d e),<-ZiB a b e,ih (x :: a) (y :: b) c (by simp only[List.length_cons];omega)]
      |false=>
       rw[ZjF _ _ d,ZjF _ _ d,ZiB _ _ e,ih (x :: a) b (z :: c) (by simp only[List.length_cons];omega)]
     |false=>
      rw[ZjF _ _ e];cases f:ltJ K z x with
      |true=>
       have d:=ZEC f e;rw[ZiB _ _ f,ZiB _ _ d,ZiB _ _ f,<-ZjF a b e,ih (x :: a) (y :: b) c (by simp only[List.length_cons];omega)]
      |false=>
       rw[ZjF _ _ f,ih a (y :: b) (z :: c) (by simp only[List.length_cons];omega)];cases d:ltJ K z y with
       |true=>rw[ZiB _ _ d,ZjF _ _ f]
       |false=>rw[ZjF _ _ d,ZjF _ _ e]
theorem ZoM:∀(n:Nat)(x1 x2 y1 y2:Ins),x1.length+y1.length<=n->(∀y∈y1,∀x∈x2,ltJ K y x=true)->(∀x∈x1,∀y∈y2,ltJ K y x=false)->mrgJ K (x1++x2) (y1++y2)=mrgJ K x1 y1++mrgJ K x2 y2:=by
 intro n;induction n with
 |zero=>
  intro x1 x2 y1 y2 h _ _;obtain rfl:=List.eq_nil_of_length_eq_zero (show x1.length=0 by omega);obtain rfl:=List.eq_nil_of_length_eq_zero (show y1.length=0 by omega);simp[Zeq]
 |succ n ih=>
  intro x1 x2 y1 y2 h b d;cases x1 with
  |nil=>
   cases y1 with
   |nil=>simp[Zeq]
   |cons y y1=>
    cases x2 with
    |nil=>simp[Zeq]
    |cons x x2=>
     simp only[List.length_cons,List.length_nil]at h;rw[List.nil_append,List.cons_append,ZiB _ _ (b y (by simp) x (by simp)),Zeq];have:=ih [] (x :: x2) y1 y2 (by simp only[List.length_nil];omega) (fun y' fC=>b y' (by simp[fC])) (by simp);rw[List.nil_append,Zeq]at this;rw[this];rfl
  |cons x x1=>
   cases y1 with
   |nil=>
    cases y2 with
    |nil=>simp[ZhU]
    |cons y y2=>
     simp only[List.length_cons,List.length_nil]at h;rw[List.nil_append,List.cons_append,ZjF _ _ (d x (by simp) y (by simp)),ZhU];have:=ih x1 x2 [] (y :: y2) (by simp only[List.length_nil];omega) (by simp) (fun x' ji=>d x' (by simp[ji]));rw[List.nil_append,ZhU]at this;rw[this];rfl
   |cons y y1=>
    simp only[List.length_cons]at h;rw[List.cons_append,List.cons_append];cases e:ltJ K y x with
    |true=>
     rw[ZiB _ _ e,ZiB _ _ e,<-List.cons_append,ih (x :: x1) x2 y1 y2 (by simp only[List.length_cons];omega) (fun y' fC=>b y' (by simp[fC])) d];rfl
    |false=>
     have:=ih x1 x2 (y :: y1) y2 (by simp only[List.length_cons];omega) b (fun x' ji=>d x' (by simp[ji]));rw[List.cons_append]at this;rw[ZjF _ _ e,ZjF _ _ e,this];rfl
theorem ZGs:∀(n:Nat)(a b:Ins),a.length+b.length<=n->(mrgJ K a b).length=a.length+b.length:=by
 intro n;induction n with
 |zero=>
  intro a b h;obtain rfl:=List.eq_nil_of_length_eq_zero (show a.length=0 by omega);simp[Zeq]
 |succ n ih=>
  intro a b h;cases a with
  |nil=>simp[Zeq]
  |cons x a=>
   cases b with
   |nil=>simp[ZhU]
   |cons y b=>
    simp only[List.length_cons]at h ⊢;cases d:ltJ K y x with
    |true=>rw[ZiB _ _ d,List.length_cons,ih _ _ (by simp only[List.length_cons];omega)];simp only[List.length_cons];omega
    |false=>rw[ZjF _ _ d,List.length_cons,ih _ _ (by simp only[List.length_cons];omega)];simp only[List.length_cons];omega
theorem ZuF:∀(n:Nat)(a b:Ins),a.length+b.length<=n->∀z∈mrgJ K a b,z∈a\/z∈b:=by
 intro n;induction n with
 |zero=>
  intro a b h z hz;obtain rfl:=List.eq_nil_of_length_eq_zero (show a.length=0 by omega);rw[Zeq]at hz;exact .inr hz
 |succ n ih=>
  intro a b h z hz;cases a with
  |nil=>rw[Zeq]at hz;exact .inr hz
  |cons x a=>
   cases b with
   |nil=>rw[ZhU]at hz;exact .inl hz
   |cons y b=>
    simp only[List.length_cons]at h;cases d:ltJ K y x with
    |true=>
     rw[ZiB _ _ d]at hz;rcases List.mem_cons.1 hz with hz|hz
     .exact .inr (by simp[hz])
     .rcases ih _ _ (by simp only[List.length_cons];omega) z hz with q|q
      .exact .inl q
      .exact .inr (by simp[q])
    |false=>
     rw[ZjF _ _ d]at hz;rcases List.mem_cons.1 hz with hz|hz
     .exact .inl (by simp[hz])
     .rcases ih _ _ (by simp only[List.length_cons];omega) z hz with q|q
      .exact .inl (by simp[q])
      .exact .inr q
def bn(K:Cx)(l:Ins):Prop:=l.Pairwise fun x y=>ltJ K y x=false
theorem ZOh:∀(n:Nat)(a b:Ins),a.length+b.length<=n->bn K a->bn K b->bn K (mrgJ K a b):=by
 intro n;induction n with
 |zero=>
  intro a b h e hb;obtain rfl:=List.eq_nil_of_length_eq_zero (show a.length=0 by omega);rw[Zeq];exact hb
 |succ n ih=>
  intro a b h e hb;cases a with
  |nil=>rw[Zeq];exact hb
  |cons x a=>
   cases b with
   |nil=>rw[ZhU];exact e
   |cons y b=>
    simp only[List.length_cons]at h;have cT:=List.pairwise_cons.1 e;have aQ:=List.pairwise_cons.1 hb;cases d:ltJ K y x with
    |true=>
     rw[ZiB _ _ d];refine List.pairwise_cons.2 ⟨fun z f=>?_,ih _ _ (by simp only[List.length_cons];omega) e aQ.2⟩;rcases ZuF _ _ _ (Nat.le_refl _) z f with q|q
     .have:ltJ K x y=false:=ZOj d;rcases List.mem_cons.1 q with q|q
      .rw[q];exact this
      .exact Zng (cT.1 z q) this
     .exact aQ.1 z q
    |false=>
     rw[ZjF _ _ d];refine List.pairwise_cons.2 ⟨fun z f=>?_,ih _ _ (by simp only[List.length_cons];omega) cT.2 hb⟩;rcases ZuF _ _ _ (Nat.le_refl _) z f with q|q
     .exact cT.1 z q
     .rcases List.mem_cons.1 q with q|q
      .rw[q];exact d
      .exact Zng (aQ.1 z q) d
def ZbQ(K:Cx)(l:Ins):Ins:=l.foldl (fun o x=>mrgJ K o [x]) []
theorem Zig(l:Ins)(x:Int):ZbQ K (l++[x])=mrgJ K (ZbQ K l) [x]:=by unfold ZbQ;rw[List.foldl_append];rfl
theorem ZsG(xs ys:Ins):ZbQ K (xs++ys)=mrgJ K (ZbQ K xs) (ZbQ K ys):=by
 have:∀n,n<=ys.length->ZbQ K (xs++ys.take n)=mrgJ K (ZbQ K xs) (ZbQ K (ys.take n)):=by
  intro n;induction n with
  |zero=>intro _;simp[ZbQ,ZhU]
  |succ n ih=>
   intro h;rw[List.take_succ_eq_append_getElem (show n<ys.length by omega),<-List.append_assoc,Zig,Zig,ih (by omega),ZHY _ _ _ _ (Nat.le_refl _)]
 have h:=this ys.length (Nat.le_refl _);rwa [List.take_length]at h
theorem Zhh(l:Ins):(ZbQ K l).length=l.length:=by
 have:∀n,n<=l.length->(ZbQ K (l.take n)).length=n:=by
  intro n;induction n with
  |zero=>intro _;simp[ZbQ]
  |succ n ih=>
   intro h;rw[List.take_succ_eq_append_getElem (show n<l.length by omega),Zig,ZGs _ _ _ (Nat.le_refl _),ih (by omega)];rfl
 have h:=this l.length (Nat.le_refl _);rwa [List.take_length]at h
theorem Zqu{l:Ins}(h:Rg K l):Rg K (ZbQ K l):=by
 have:∀n,n<=l.length->Rg K (ZbQ K (l.take n)):=by
  intro n;induction n with
  |zero=>intro _;simp[ZbQ,Rg]
  |succ n ih=>
   intro d;rw[List.take_succ_eq_append_getElem (show n<l.length by omega),Zig];intro x hx;rcases ZuF _ _ _ (Nat.le_refl _) x hx with q|q
   .exact ih (by omega) x q
   .rw[List.mem_singleton.1 q];exact h _ (List.getElem_mem _)
 have b:=this l.length (Nat.le_refl _);rwa [List.take_length]at b
theorem ZoP(l:Ins):bn K (ZbQ K l):=by
 have:∀n,n<=l.length->bn K (ZbQ K (l.take n)):=by
  intro n;induction n with
  |zero=>intro _;simp[ZbQ,bn]
  |succ n ih=>
   intro h;rw[List.take_succ_eq_append_getElem (show n<l.length by omega),Zig];exact ZOh _ _ _ (Nat.le_refl _) (ih (by omega)) (by simp[bn])
 have h:=this l.length (Nat.le_refl _);rwa [List.take_length]at h
theorem ZyM{o1 d:Ins}{x:Int}(g:∀y∈o1,ltJ K x y=false)(h:∀y∈d,ltJ K x y=true):mrgJ K (o1++d) [x]=o1++x :: d:=by
 have a:=ZoM _ o1 d [x] [] (Nat.le_refl _) (fun y e z f=>by rw[List.mem_singleton.1 e];exact h z f) (by simp);have b:=ZoM _ o1 [] [] [x] (Nat.le_refl _) (by simp) (fun z f y e=>by rw[List.mem_singleton.1 e];exact g z f);simp only[List.append_nil,List.nil_append,ZhU,Zeq]at a b;rw[a,b];simp
theorem ZOe{o1 d:Ins}{x:Int}(g:∀y∈o1,ltJ K y x=true)(h:∀y∈d,ltJ K y x=false):mrgJ K [x] (o1++d)=o1++x :: d:=by
 have a:=ZoM _ [] [x] o1 d (Nat.le_refl _) (fun y e z f=>by rw[List.mem_singleton.1 f];exact g y e) (by simp);have b:=ZoM _ [x] [] [] d (Nat.le_refl _) (by simp) (fun z f y e=>by rw[List.mem_singleton.1 f];exact h y e);simp only[List.append_nil,List.nil_append,ZhU,Zeq]at a b;rw[a,b];simp
theorem ZQi{α:Type}:∀(l:List α),l.length≠0->∃T s,l=T++[s]
 | [x],_=>⟨[],x,rfl⟩
 |x :: y :: l,_=>by
  obtain⟨T,s,h⟩:=ZQi (y :: l) (by simp)
  exact⟨x :: T,s,by rw[h];rfl⟩
theorem ZJJ{K:Cx}{T:Ins}{s x:Int}(h:bn K (T++[s]))(hx:ltJ K x s=false):∀y∈T++[s],ltJ K x y=false:=by
 intro y b;rcases List.mem_append.1 b with q|q
 .exact Zng hx ((List.pairwise_append.1 h).2.2 y q s (by simp))
 .rw[List.mem_singleton.1 q];exact hx
theorem ZIg{K:Cx}(P:Ins)(x:Int)(hx:InR K x)(R:Ins)(j v8:Int)(k:Int->Ins->Option Ins):∀(n:Nat)(S1 S2:Ins)(fu:Nat),S1.length=n->bn K S1->Rg K S1->(∀y∈S2,ltJ K x y=true)->n+1<=fu->P.length+S1.length+S2.length+R.length<=900000 ->
  Zbv (P.length:Int) j K.c K.b K.s v8 k fu ((P.length+n:Nat):Int) (P++(S1++(x :: (S2++R))))=k (Zam v8 1) (P++(mrgJ K (S1++S2) [x]++R)):=by
 intro n;induction n with
 |zero=>
  intro S1 S2 fu f g h d o hb;obtain⟨fu,rfl⟩:=sC fu;obtain rfl:=List.eq_nil_of_length_eq_zero f;unfold Zbv;rw[Zad,iNa,ZyM (o1:=[]) (by simp) d];simp
 |succ n ih=>
  intro S1 S2 fu f g h d o hb;obtain⟨fu,rfl⟩:=sC fu;obtain⟨T,s,rfl⟩:=ZQi S1 (by omega);have p:T.length=n:=by simpa using f
  have r:Zay ((P.length+(n+1):Nat):Int) 1=((P.length+n:Nat):Int):=by rw[Zbi (by omega) (by omega)];omega
  have hl:(P++(T++[s]++(x :: (S2++R)))).length=P.length+(n+1)+1+S2.length+R.length:=by simp;omega
  unfold Zbv;rw[Zad,iNb,r,Zaj (by rw[hl];omega),Zaj (by rw[hl];omega)];simp only[Int.toNat_natCast];have t:(P++(T++[s]++(x :: (S2++R)))).getD (P.length+(n+1)) 0=x:=Zon (L:=P++(T++[s])) (R:=S2++R) (by simp) (by simp;omega);have u:(P++(T++[s]++(x :: (S2++R)))).getD (P.length+n) 0=s:=Zon (L:=P++T) (R:=x :: (S2++R)) (by simp) (by simp;omega);rw[t,u,ZuN hx (h s (by simp)),Zan,Zad];by_cases e:cmpJ K x s<0
  .have fI:ltJ K x s=true:=ZvE.2 e;have s1:(P++(T++[s]++(x :: (S2++R)))).set (P.length+(n+1)) s=P++(T++(s :: (s :: (S2++R)))):=by
    rw[Zql (L:=P++(T++[s])) (x:=x) (R:=S2++R) (by simp) (by simp;omega)];simp
   have s2:(P++(T++(s :: (s :: (S2++R))))).set (P.length+n) x=P++(T++(x :: (s :: S2++R))):=by
    rw[Zql (L:=P++T) (x:=s) (R:=s :: (S2++R)) (by simp) (by simp;omega)];simp
   rw[if_pos e,s1,s2];have:=ih T (s :: S2) fu p (List.pairwise_append.1 g).1 (fun y i=>h y (by simp[i])) (fun y i=>by
    rcases List.mem_cons.1 i with q|q
    .rw[q];exact fI
    .exact d y q) (by omega) (by simp only[List.length_append,List.length_singleton,List.length_cons]at hb ⊢;omega)
   rw[this];simp
  .rw[if_neg e,ZyM (ZJJ g (Zxw.2 e)) d];simp
theorem ZKR{K:Cx}(P L Q:Ins)(e:Rg K L)(hb:P.length+L.length+Q.length<=900000)(a b:Int)(g:a=(P.length:Int))(gC:b=((P.length+L.length:Nat):Int)) :
  Zce (P++(L++Q)) a b K.c K.b K.s=some (P++(ZbQ K L++Q)):=by
 subst g gC;have h:Zam (P.length:Int) 1=((P.length+1:Nat):Int):=by rw[Zbb (by omega) (by omega)];omega
 unfold Zce;rw[h];cases hL:L with
 |nil=>
  unfold ZaO;rw[Zad,if_neg (by simp;omega)];simp[ZbQ]
 |cons z Z=>
  rw[<-hL];have mn:1<=L.length:=by rw[hL];simp
  have aK:∀(j k fu:Nat),L.length-k=j->1<=k->k<=L.length->j+1<=fu->ZaO (P.length:Int) ((P.length+L.length:Nat):Int) K.c K.b K.s fu ((P.length+k:Nat):Int) (P++(ZbQ K (L.take k)++(L.drop k++Q)))=some (P++(ZbQ K L++Q)):=by
   intro j;induction j with
   |zero=>
    intro k fu i d f n;obtain⟨fu,rfl⟩:=sC fu;unfold ZaO;rw[Zad,iNa,List.take_of_length_le (by omega),List.drop_eq_nil_of_le (by omega)];rfl
   |succ j ih=>
    intro k fu i d f n;obtain⟨fu,rfl⟩:=sC fu;unfold ZaO;have il:=Zhh (K:=K) (L.take k);rw[List.length_take,Nat.min_eq_left f]at il;have o:Zam ((P.length+k:Nat):Int) 1=((P.length+(k+1):Nat):Int):=by rw[Zbb (by omega) (by omega)];omega
    rw[Zad,iNb,Zdc L 0 k (by omega)];have:=ZIg (K:=K) P (L.getD k 0) (e.get (by omega)) (L.drop (k+1)++Q) ((P.length+L.length:Nat):Int) ((P.length+k:Nat):Int) (ZaO (P.length:Int) ((P.length+L.length:Nat):Int) K.c K.b K.s fu) k (ZbQ K (L.take k)) [] ((((P.length+k:Nat):Int)-(P.length:Int)).toNat+2) il (ZoP _) (Zqu (e.take k)) (by simp) (by omega) (by simp[il];omega);simp only[List.nil_append,List.append_nil,List.cons_append]at this ⊢;rw[this,o,<-Zig,ZbA L _ k (by omega),<-List.take_succ_eq_append_getElem (by omega)];exact ih (k+1) fu (by omega) (by omega) (by omega) (by omega)
  have d:ZbQ K (L.take 1)=L.take 1:=by rw[hL];simp[ZbQ,Zeq]
  have:=aK (L.length-1) 1 ((((P.length+L.length:Nat):Int)-((P.length+1:Nat):Int)).toNat+2) rfl (Nat.le_refl _) mn (by omega);rw[d,<-List.append_assoc (L.take 1),List.take_append_drop]at this;exact this
theorem ZuK(i j:Nat)(h:i+j<=10000000):IntKind.wrap .i64 (Int.fdiv (IntKind.wrap .u64 (Zam (i:Int) (j:Int))) (2 ^ (min (1:Int).toNat (IntKind.bits .u64))))=(((i+j) / 2:Nat):Int):=by
 have b:Zam (i:Int) (j:Int)=((i+j:Nat):Int):=by rw[Zbb (by omega) (by omega)];omega
 have d:IntKind.wrap .u64 ((i+j:Nat):Int)=((i+j:Nat):Int):=by
  simp only[IntKind.wrap,IntKind.bits,IntKind.signed];simp;omega
 have e:(2:Int) ^ (min (1:Int).toNat (IntKind.bits .u64))=2:=rfl;rw[b,d,e,Int.fdiv_eq_ediv_of_nonneg _ (by omega),Zgs (by omega) (by omega)];omega
theorem ZGw{K:Cx}{x y z:Int}(b:ltJ K z x=true)(d:ltJ K z y=false):ltJ K y x=true:=by
 cases h:ltJ K y x with
 |true=>rfl
 |false=>rw[Zng d h]at b;cases b
theorem ZlV{K:Cx}{Y:Ins}(h:bn K Y){i j:Nat}(d:i<=j)(b:j<Y.length):ltJ K (Y.getD j 0) (Y.getD i 0)=false:=by
 by_cases e:i=j
 .rw[e];exact ZKJ _
 .rw[ZbA Y _ j b,ZbA Y _ i (by omega)];exact List.pairwise_iff_getElem.1 h i j (by omega) b (by omega)
theorem Zso{Y:Ins}{k:Nat}{y:Int}(h:y∈Y.take k):∃i,i<k/\i<Y.length/\y=Y.getD i 0:=by
 obtain⟨i,b,rfl⟩:=List.getElem_of_mem h;rw[List.length_take]at b;exact⟨i,by omega,by omega,by rw[ZbA Y _ i (by omega),List.getElem_take]⟩
theorem Zte{Y:Ins}{k:Nat}{y:Int}(h:y∈Y.drop k):∃i,k<=i/\i<Y.length/\y=Y.getD i 0:=by
 obtain⟨i,b,rfl⟩:=List.getElem_of_mem h;rw[List.length_drop]at b;exact⟨k+i,by omega,by omega,by rw[ZbA Y _ (k+i) (by omega),List.getElem_drop]⟩
theorem Zzl{P Y Q:Ins}{i k:Nat}(d:k=P.length+i)(b:i<Y.length):(P++(Y++Q)).getD k 0=Y.getD i 0:=by
 have:=Zdc Y 0 i b;have e:P++(Y++Q)=(P++Y.take i)++Y.getD i 0 :: (Y.drop (i+1)++Q):=by
  rw[List.append_assoc,<-List.cons_append,<-this,<-List.append_assoc (Y.take i),List.take_append_drop]
 exact Zon e (by simp;omega)
theorem mv1J{K:Cx}(P R:Ins)(x kh:Int)(k:Int->Int->Ins->Option Ins):∀(Y2 Y1:Ins)(fu:Nat),Y2.length+1<=fu->P.length+Y1.length+Y2.length+R.length<=900000 ->
  ZbS (P.length:Int) K.c K.b K.s ((P.length+Y1.length+Y2.length+1:Nat):Int) kh k fu ((P.length+Y1.length:Nat):Int) (P++(Y1++(x :: (Y2++R))))=some (P++(Y1++(Y2++(x :: R)))):=by
 intro Y2;induction Y2 with
 |nil=>
  intro Y1 fu d hb;obtain⟨fu,rfl⟩:=sC fu;unfold ZbS;simp only[List.length_nil,Nat.add_zero];rw[Zad,if_neg (by rw[Zbi (by omega) (by omega)];omega)];rfl
 |cons y Y2 ih=>
  intro Y1 fu d hb;obtain⟨fu,rfl⟩:=sC fu;simp only[List.length_cons]at d hb ⊢;have e:Zam ((P.length+Y1.length:Nat):Int) 1=((P.length+Y1.length+1:Nat):Int):=by rw[Zbb (by omega) (by omega)];omega
  have hl:(P++(Y1++(x :: (y :: Y2++R)))).length=P.length+Y1.length+Y2.length+R.length+2:=by simp;omega
  unfold ZbS;rw[Zad,if_pos (by rw[Zbi (by omega) (by omega)];omega),e,Zaj (by rw[hl];omega),Zaj (by rw[hl];omega)];simp only[Int.toNat_natCast];have f:(P++(Y1++(x :: (y :: Y2++R)))).getD (P.length+Y1.length+1) 0=y:=Zon (L:=P++(Y1++[x])) (R:=Y2++R) (by simp) (by simp;omega);have g:(P++(Y1++(x :: (y :: Y2++R)))).getD (P.length+Y1.length) 0=x:=Zon (L:=P++Y1) (R:=y :: (Y2++R)) (by simp) (by simp);have s1:(P++(Y1++(x :: (y :: Y2++R)))).set (P.length+Y1.length) y=P++(Y1++(y :: (y :: Y2++R))):=by
   rw[Zql (L:=P++Y1) (x:=x) (R:=y :: (Y2++R)) (by simp) (by simp)];simp
  have s2:(P++(Y1++(y :: (y :: Y2++R)))).set (P.length+Y1.length+1) x=P++(Y1++(y :: (x :: (Y2++R)))):=by
   rw[Zql (L:=P++(Y1++[y])) (x:=y) (R:=Y2++R) (by simp) (by simp;omega)];simp
  rw[f,g,s1,s2];have:=ih (Y1++[y]) fu (by omega) (by simp only[List.length_append,List.length_singleton];omega);simp only[List.length_append,List.length_singleton,List.append_assoc,List.singleton_append]at this;have x1:P.length+(Y1.length+1)+Y2.length+1=P.length+Y1.length+(Y2.length+1)+1:=by omega
  have x2:P.length+(Y1.length+1)=P.length+Y1.length+1:=by omega
  rw[x1,x2]at this;exact this
theorem bs1J{K:Cx}(P Y Q:Ins)(x:Int)(r:bn K Y)(hxR:InR K x)(t:Rg K Y)(hb:P.length+Y.length+Q.length<=800000):∀(s lo d fu:Nat),d-lo<=s->lo<=d->d<=Y.length->s+1<=fu->(∀y∈Y.take lo,ltJ K y x=true)->(∀y∈Y.drop d,ltJ K y x=false) ->
  ZaL (P.length:Int) K.c K.b K.s fu ((P.length+1+lo:Nat):Int) ((P.length+1+d:Nat):Int) (P++(x :: (Y++Q)))=some (P++(mrgJ K [x] Y++Q)):=by
 intro s;have fin:∀(lo d fu:Nat),lo=d->d<=Y.length->(∀y∈Y.take lo,ltJ K y x=true)->(∀y∈Y.drop d,ltJ K y x=false) ->
   ZaL (P.length:Int) K.c K.b K.s (fu+1) ((P.length+1+lo:Nat):Int) ((P.length+1+d:Nat):Int) (P++(x :: (Y++Q)))=some (P++(mrgJ K [x] Y++Q)):=by
  intro lo d fu e u n f;subst e;unfold ZaL;rw[Zad,iNa];have ho:=ZOe n f;rw[List.take_append_drop]at ho;have:=mv1J (K:=K) P (Y.drop lo++Q) x ((P.length+1+lo:Nat):Int) (ZaL (P.length:Int) K.c K.b K.s fu) (Y.take lo) [] 1000000 (by simp;omega) (by simp;omega);simp only[List.length_take,Nat.min_eq_left u,List.length_nil,Nat.add_zero,List.nil_append]at this;rw[<-List.append_assoc (Y.take lo),List.take_append_drop,show P.length+lo+1=P.length+1+lo by omega]at this;rw[this,ho];simp
 induction s with
 |zero=>
  intro lo d fu h0 n f v g h;obtain⟨fu,rfl⟩:=sC fu;exact fin lo d fu (by omega) f g h
 |succ s ih=>
  intro lo d fu h0 n f v g h;obtain⟨fu,rfl⟩:=sC fu;by_cases e:lo=d
  .exact fin lo d fu e f g h
  .have A:(P.length+1+lo+(P.length+1+d)) / 2=P.length+1+(lo+d) / 2:=by omega
   have o:(lo+d) / 2<Y.length:=by omega
   have hl:(P++(x :: (Y++Q))).length=P.length+1+Y.length+Q.length:=by simp;omega
   unfold ZaL;rw[Zad,iNb,ZuK _ _ (by omega),A,Zaj (by rw[hl];omega),Zaj (by rw[hl];omega)];simp only[Int.toNat_natCast];have B:(P++(x :: (Y++Q))).getD (P.length+1+(lo+d) / 2) 0=Y.getD ((lo+d) / 2) 0:=by
    have:=Zzl (P:=P++[x]) (Y:=Y) (Q:=Q) (i:=(lo+d) / 2) (k:=P.length+1+(lo+d) / 2) (by simp) o;simpa using this
   rw[B,ZGP,ZuN (t.get o) hxR,Zan,Zad];have C:Zam ((P.length+1+(lo+d) / 2:Nat):Int) 1=((P.length+1+((lo+d) / 2+1):Nat):Int):=by rw[Zbb (by omega) (by omega)];omega
   by_cases j:cmpJ K (Y.getD ((lo+d) / 2) 0) x<0
   .rw[if_pos j,C];refine ih _ _ fu (by omega) (by omega) f (by omega) (fun y p=>?_) h;obtain⟨i,i1,i2,rfl⟩:=Zso p;exact ZGw (ZvE.2 j) (ZlV r (by omega) o)
   .rw[if_neg j];refine ih _ _ fu (by omega) (by omega) (by omega) (by omega) g (fun y p=>?_);obtain⟨i,i1,i2,rfl⟩:=Zte p;exact Zng (ZlV r i1 i2) (Zxw.2 j)
theorem mv2J{K:Cx}(P Q:Ins)(y e mt:Int)(k:Int->Int->Ins->Option Ins):∀(n:Nat)(T U:Ins)(fu:Nat),T.length=n->n+1<=fu->P.length+T.length+U.length+Q.length<=900000 ->
  ZbR e K.c K.b K.s (P.length:Int) mt k fu ((P.length+n:Nat):Int) (P++(T++(y :: (U++Q))))=some (P++(y :: (T++(U++Q)))):=by
 intro n;induction n with
 |zero=>
  intro T U fu d f hb;obtain⟨fu,rfl⟩:=sC fu;obtain rfl:=List.eq_nil_of_length_eq_zero d;unfold ZbR;rw[Zad,iNa];rfl
 |succ n ih=>
  intro T U fu d f hb;obtain⟨fu,rfl⟩:=sC fu;obtain⟨T,s,rfl⟩:=ZQi T (by omega);have g:T.length=n:=by simpa using d
  simp only[List.length_append,List.length_singleton]at hb;have h:Zay ((P.length+(n+1):Nat):Int) 1=((P.length+n:Nat):Int):=by rw[Zbi (by omega) (by omega)];omega
  have hl:(P++(T++[s]++(y :: (U++Q)))).length=P.length+(n+1)+1+U.length+Q.length:=by simp;omega
  unfold ZbR;rw[Zad,iNb,h,Zaj (by rw[hl];omega),Zaj (by rw[hl];omega)];simp only[Int.toNat_natCast];have i:(P++(T++[s]++(y :: (U++Q)))).getD (P.length+(n+1)) 0=y:=Zon (L:=P++(T++[s])) (R:=U++Q) (by simp) (by simp;omega);have j:(P++(T++[s]++(y :: (U++Q)))).getD (P.length+n) 0=s:=Zon (L:=P++T) (R:=y :: (U++Q)) (by simp) (by simp;omega);have s1:(P++(T++[s]++(y :: (U++Q)))).set (P.length+(n+1)) s=P++(T++(s :: (s :: (U++Q)))):=by
   rw[Zql (L:=P++(T++[s])) (x:=y) (R:=U++Q) (by simp) (by simp;omega)];simp
  have s2:(P++(T++(s :: (s :: (U++Q))))).set (P.length+n) y=P++(T++(y :: (s :: U++Q))):=by
   rw[Zql (L:=P++T) (x:=s) (R:=s :: (U++Q)) (by simp) (by simp;omega)];simp
  rw[i,j,s1,s2,ih T (s :: U) fu g (by omega) (by simp only[List.length_cons];omega)];simp
theorem bs2J{K:Cx}(P X Q:Ins)(y:Int)(p:bn K X)(hyR:InR K y)(r:Rg K X)(hb:P.length+X.length+Q.length<=800000):∀(s lo d fu:Nat),d-lo<=s->lo<=d->d<=X.length->s+1<=fu->(∀x∈X.take lo,ltJ K y x=false)->(∀x∈X.drop d,ltJ K y x=true) ->
  ZaK ((P.length+X.length:Nat):Int) K.c K.b K.s fu ((P.length+lo:Nat):Int) ((P.length+d:Nat):Int) (P++(X++(y :: Q)))=some (P++(mrgJ K X [y]++Q)):=by
 intro s;have fin:∀(lo d fu:Nat),lo=d->d<=X.length->(∀x∈X.take lo,ltJ K y x=false)->(∀x∈X.drop d,ltJ K y x=true) ->
   ZaK ((P.length+X.length:Nat):Int) K.c K.b K.s (fu+1) ((P.length+lo:Nat):Int) ((P.length+d:Nat):Int) (P++(X++(y :: Q)))=some (P++(mrgJ K X [y]++Q)):=by
  intro lo d fu e t n f;subst e;unfold ZaK;rw[Zad,iNa];have ho:=ZyM n f;rw[List.take_append_drop]at ho;have:=mv2J (K:=K) (P++X.take lo) Q y ((P.length+X.length:Nat):Int) ((P.length+lo:Nat):Int) (ZaK ((P.length+X.length:Nat):Int) K.c K.b K.s fu) (X.length-lo) (X.drop lo) [] ((((P.length+X.length:Nat):Int)-((P.length+lo:Nat):Int)).toNat+2) (by simp) (by omega) (by simp;omega);simp only[List.length_append,List.length_take,Nat.min_eq_left t,List.nil_append,List.append_assoc]at this;rw[<-List.append_assoc (X.take lo) (X.drop lo),List.take_append_drop,show P.length+lo+(X.length-lo)=P.length+X.length by omega]at this;rw[this,ho];simp
 induction s with
 |zero=>
  intro lo d fu h0 n f u g h;obtain⟨fu,rfl⟩:=sC fu;exact fin lo d fu (by omega) f g h
 |succ s ih=>
  intro lo d fu h0 n f u g h;obtain⟨fu,rfl⟩:=sC fu;by_cases e:lo=d
  .exact fin lo d fu e f g h
  .have v:(P.length+lo+(P.length+d)) / 2=P.length+(lo+d) / 2:=by omega
   have o:(lo+d) / 2<X.length:=by omega
   have hl:(P++(X++(y :: Q))).length=P.length+X.length+1+Q.length:=by simp;omega
   unfold ZaK;rw[Zad,iNb,ZuK _ _ (by omega),v,Zaj (by rw[hl];omega),Zaj (by rw[hl];omega)];simp only[Int.toNat_natCast];have A:(P++(X++(y :: Q))).getD (P.length+(lo+d) / 2) 0=X.getD ((lo+d) / 2) 0:=Zzl rfl o;have B:(P++(X++(y :: Q))).getD (P.length+X.length) 0=y:=Zon (L:=P++X) (R:=Q) (by simp) (by simp);rw[A,B,ZuN hyR (r.get o),Zan];have C:Zam ((P.length+(lo+d) / 2:Nat):Int) 1=((P.length+((lo+d) / 2+1):Nat):Int):=by rw[Zbb (by omega) (by omega)];omega
   by_cases j:cmpJ K y (X.getD ((lo+d) / 2) 0)<0
   .rw[decide_eq_true j,Bool.not_true,cond_false];refine ih _ _ fu (by omega) (by omega) (by omega) (by omega) g (fun x hx=>?_);obtain⟨i,i1,i2,rfl⟩:=Zte hx;exact ZEC (ZvE.2 j) (ZlV p i1 i2)
   .rw[decide_eq_false j,Bool.not_false,cond_true,C];refine ih _ _ fu (by omega) (by omega) f (by omega) (fun x hx=>?_) h;obtain⟨i,i1,i2,rfl⟩:=Zso hx;exact Zng (Zxw.2 j) (ZlV p (by omega) o)
def jk(K:Cx)(gr:Ins->Int->Int->Int->List Zaa->Int->Int->Option Ins)(N:Nat):Prop:=∀(P X Y Q:Ins),0<X.length->0<Y.length->bn K X->bn K Y->Rg K X->Rg K Y->X.length+Y.length<=N->P.length+X.length+Y.length+Q.length<=700000->gr (P++(X++(Y++Q))) (P.length:Int) ((P.length+X.length:Nat):Int) ((P.length+X.length+Y.length:Nat):Int) K.c K.b K.s=some (P++(mrgJ K X Y++Q))
theorem ZRR{K:Cx}{gr:Ins->Int->Int->Int->List Zaa->Int->Int->Option Ins}{N:Nat}(bA:jk K gr N)(P X Y Q:Ins)(hX:bn K X)(hY:bn K Y)(ff:Rg K X)(fg:Rg K Y)(hN:X.length+Y.length<=N)(hb:P.length+X.length+Y.length+Q.length<=700000)(d e gD mu dy v22:Int)(k:Int->Int->Int->Ins->Option Ins) :
  Zbw d e ((P.length+X.length+Y.length:Nat):Int) K.c K.b K.s gr (P.length:Int) gD mu dy v22 ((P.length+X.length:Nat):Int) k (P++(X++(Y++Q)))=some (P++(mrgJ K X Y++Q)):=by
 unfold Zbw;rw[Zad,Zad];by_cases f:X.length=0
 .rw[iNa];obtain rfl:=List.eq_nil_of_length_eq_zero f;rw[Zeq];rfl
 .rw[iNb];by_cases g:Y.length=0
  .rw[iNa];obtain rfl:=List.eq_nil_of_length_eq_zero g;rw[ZhU];rfl
  .rw[iNb,bA P X Y Q (by omega) (by omega) hX hY ff fg hN hb];rfl
theorem ZRS{K:Cx}{gr:Ins->Int->Int->Int->List Zaa->Int->Int->Option Ins}{N:Nat}(bA:jk K gr N)(P X1 Y1 X2 Y2 Q:Ins)(mw:bn K X1)(my:bn K Y1)(dl:bn K X2)(dm:bn K Y2)(hR1:Rg K X1)(hR2:Rg K Y1)(hR3:Rg K X2)(hR4:Rg K Y2)(mz:X1.length+Y1.length<=N)(mA:X2.length+Y2.length<=N)
  (hb:P.length+X1.length+Y1.length+X2.length+Y2.length+Q.length<=700000) (d gD dy v22:Int) (k:Int->Int->Int->Ins->Option Ins) :
  ZaR (P.length:Int) d ((P.length+X1.length+Y1.length+X2.length+Y2.length:Nat):Int) K.c K.b K.s gr ((P.length+X1.length+Y1.length:Nat):Int) gD ((P.length+X1.length:Nat):Int) dy v22 k ((P.length+X1.length+Y1.length+X2.length:Nat):Int) (P++(X1++(Y1++(X2++(Y2++Q))))) =
   some (P++(mrgJ K X1 Y1++(mrgJ K X2 Y2++Q))):=by
 have e:=ZGs (K:=K) _ X1 Y1 (Nat.le_refl _);have next:Zbw (P.length:Int) d ((P.length+X1.length+Y1.length+X2.length+Y2.length:Nat):Int) K.c K.b K.s gr ((P.length+X1.length+Y1.length:Nat):Int) gD ((P.length+X1.length:Nat):Int) dy v22 ((P.length+X1.length+Y1.length+X2.length:Nat):Int) k (P++(mrgJ K X1 Y1++(X2++(Y2++Q)))) =
   some (P++(mrgJ K X1 Y1++(mrgJ K X2 Y2++Q))):=by
  have:=ZRR bA (P++mrgJ K X1 Y1) X2 Y2 Q dl dm hR3 hR4 mA (by simp only[List.length_append,e];omega) (P.length:Int) d gD ((P.length+X1.length:Nat):Int) dy v22 k;simp only[List.length_append,e,List.append_assoc]at this;rw[show P.length+(X1.length+Y1.length)=P.length+X1.length+Y1.length by omega]at this;exact this
 unfold ZaR;rw[Zad,Zad];by_cases f:X1.length=0
 .rw[iNa];obtain rfl:=List.eq_nil_of_length_eq_zero f;rw[Zeq]at next ⊢
  exact next
 .rw[iNb];by_cases g:Y1.length=0
  .rw[iNa];obtain rfl:=List.eq_nil_of_length_eq_zero g;rw[ZhU]at next ⊢
   exact next
  .rw[iNb,bA P X1 Y1 (X2++(Y2++Q)) (by omega) (by omega) mw my hR1 hR2 mz (by simp only[List.length_append];omega),Zan];exact next
theorem bn.take{K:Cx}{l:Ins}(h:bn K l)(k:Nat):bn K (l.take k):=List.Pairwise.sublist (List.take_sublist k l) h
theorem bn.drop{K:Cx}{l:Ins}(h:bn K l)(k:Nat):bn K (l.drop k):=List.Pairwise.sublist (List.drop_sublist k l) h
section
variable {K:Cx} {gr:Ins->Int->Int->Int->List Zaa->Int->Int->Option Ins} {N:Nat} (bA:jk K gr N) (P X Y Q:Ins) (hX:bn K X) (hY:bn K Y) (ff:Rg K X) (fg:Rg K Y) (dl:0 < X.length) (dm:0 < Y.length) (hN:X.length + Y.length<=N + 1) (hb:P.length + X.length + Y.length + Q.length<=700000)
 (mid s0 r0:Nat) (hmid:mid=(P.length+(P.length+X.length+Y.length)) / 2)
 (h0:(mid<P.length+X.length/\s0+(P.length+X.length+Y.length)=mid+(P.length+X.length)/\r0=mid)\/(P.length+X.length<=mid/\s0=P.length/\r0=P.length+X.length))
include bA hX hY ff fg dl dm hN hb hmid h0
def Zsz(K:Cx)(P X Y:Ins)(mid c:Nat):Bool:=ltJ K (Y.getD (mid-1-c) 0) (X.getD (c-P.length) 0)
theorem ZRj(st:Nat)(u:s0<=st)(v:st<=r0)(jj:∀c,s0<=c->c<st->Zsz K P X Y mid c=false)(dQ:∀c,st<=c->c<r0->Zsz K P X Y mid c=true)(dy v22:Int)(k:Int->Int->Int->Ins->Option Ins) :
  (bif(decide ((st:Int)<((P.length+X.length:Nat):Int)))then
    bif(decide (((P.length+X.length:Nat):Int)<(Zay ((mid+(P.length+X.length):Nat):Int) (st:Int))))then
     (ZcO (P++(X++(Y++Q))) (st:Int) ((P.length+X.length:Nat):Int) (Zay ((mid+(P.length+X.length):Nat):Int) (st:Int)) K.c K.b K.s).bind fun x2=>
     ZaR (P.length:Int) ((P.length+X.length:Nat):Int) ((P.length+X.length+Y.length:Nat):Int) K.c K.b K.s gr (mid:Int) ((mid+(P.length+X.length):Nat):Int) (st:Int) dy v22 k (Zay ((mid+(P.length+X.length):Nat):Int) (st:Int)) x2
    else
     ZaR (P.length:Int) ((P.length+X.length:Nat):Int) ((P.length+X.length+Y.length:Nat):Int) K.c K.b K.s gr (mid:Int) ((mid+(P.length+X.length):Nat):Int) (st:Int) dy v22 k (Zay ((mid+(P.length+X.length):Nat):Int) (st:Int)) (P++(X++(Y++Q)))
   else
    ZaR (P.length:Int) ((P.length+X.length:Nat):Int) ((P.length+X.length+Y.length:Nat):Int) K.c K.b K.s gr (mid:Int) ((mid+(P.length+X.length):Nat):Int) (st:Int) dy v22 k (Zay ((mid+(P.length+X.length):Nat):Int) (st:Int)) (P++(X++(Y++Q))))=some (P++(mrgJ K X Y++Q)):=by
 have A:P.length<=st:=by omega
 have ma:st<=mid:=by omega
 have cn:st-P.length<=X.length:=by omega
 have hk2:mid-st<=Y.length:=by omega
 obtain⟨d,n⟩ : ∃d,st=P.length+d:=⟨st-P.length,by omega⟩;obtain⟨e,B⟩ : ∃e,mid=st+e:=⟨mid-st,by omega⟩;have ee:Zay ((mid+(P.length+X.length):Nat):Int) (st:Int)=((P.length+X.length+e:Nat):Int):=by rw[Zbi (by omega) (by omega)];omega
 have o:∀y∈Y.take e,∀x∈X.drop d,ltJ K y x=true:=by
  intro y f x hx;obtain⟨i,i1,i2,rfl⟩:=Zso f;obtain⟨j,j1,j2,rfl⟩:=Zte hx;have h:=dQ st (Nat.le_refl _) (by omega);unfold Zsz at h;rw[show mid-1-st=e-1 by omega,show st-P.length=d by omega]at h;exact ZEC (ZGw h (ZlV hY (by omega) (by omega))) (ZlV hX j1 j2)
 have p:∀x∈X.take d,∀y∈Y.drop e,ltJ K y x=false:=by
  intro x hx y f;obtain⟨i,i1,i2,rfl⟩:=Zso hx;obtain⟨j,j1,j2,rfl⟩:=Zte f;have h:=jj (st-1) (by omega) (by omega);unfold Zsz at h;rw[show mid-1-(st-1)=e by omega,show st-1-P.length=d-1 by omega]at h;exact Zng (Zng (ZlV hY j1 j2) h) (ZlV hX (by omega) (by omega))
 have r:mrgJ K X Y=mrgJ K (X.take d) (Y.take e)++mrgJ K (X.drop d) (Y.drop e):=by
  have:=ZoM (K:=K) _ (X.take d) (X.drop d) (Y.take e) (Y.drop e) (Nat.le_refl _) o p;rwa [List.take_append_drop,List.take_append_drop]at this
 have l1:(X.take d).length=d:=by simp;omega
 have l2:(Y.take e).length=e:=by simp;omega
 have l3:(X.drop d).length=X.length-d:=by simp
 have l4:(Y.drop e).length=Y.length-e:=by simp
 have last:=ZRS bA P (X.take d) (Y.take e) (X.drop d) (Y.drop e) Q (hX.take _) (hY.take _) (hX.drop _) (hY.drop _) (ff.take _) (fg.take _) (ff.drop _) (fg.drop _) (by omega) (by omega) (by omega) ((P.length+X.length:Nat):Int) ((mid+(P.length+X.length):Nat):Int) dy v22 k;rw[l1,l2,l3,l4,show P.length+d+e+(X.length-d)+(Y.length-e)=P.length+X.length+Y.length by omega,show P.length+d+e+(X.length-d)=P.length+X.length+e by omega,show P.length+d+e=mid by omega,<-n]at last;have g:P++(X++(Y++Q))=P++X.take d++(X.drop d++(Y.take e++(Y.drop e++Q))):=by
  rw[<-List.append_assoc (Y.take e),List.take_append_drop,List.append_assoc,<-List.append_assoc (X.take d),List.take_append_drop]
 have t:some (P++(mrgJ K (X.take d) (Y.take e)++(mrgJ K (X.drop d) (Y.drop e)++Q)))=some (P++(mrgJ K X Y++Q)):=by rw[r,List.append_assoc]
 rw[t]at last;rw[ee,Zad,Zad];by_cases C:d<X.length
 .rw[iNb];by_cases D:0<e
  .rw[iNb,g,ZQn (P++X.take d) (X.drop d) (Y.take e) (Y.drop e++Q) (by omega) (by omega) (by simp only[List.length_append];omega) _ _ _ (by simp only[List.length_append];omega) (by simp only[List.length_append];omega) (by simp only[List.length_append];omega),Zan];simp only[List.append_assoc]at last ⊢;exact last
  .obtain rfl:e=0:=by omega
   rw[iNa,g];simp only[List.append_assoc,List.take_zero,List.nil_append]at last ⊢;exact last
 .rw[iNa,g,show d=X.length by omega];rw[show d=X.length by omega]at last;simp only[List.append_assoc,List.drop_length,List.nil_append]at last ⊢;exact last
end
section
variable {K:Cx} {gr:Ins->Int->Int->Int->List Zaa->Int->Int->Option Ins} {N:Nat} (bA:jk K gr N) (P X Y Q:Ins) (hX:bn K X) (hY:bn K Y) (ff:Rg K X) (fg:Rg K Y) (dl:0 < X.length) (dm:0 < Y.length) (hN:X.length + Y.length<=N + 1) (hb:P.length + X.length + Y.length + Q.length<=700000)
 (mid s0 r0:Nat) (hmid:mid=(P.length+(P.length+X.length+Y.length)) / 2)
 (h0:(mid<P.length+X.length/\s0+(P.length+X.length+Y.length)=mid+(P.length+X.length)/\r0=mid)\/(P.length+X.length<=mid/\s0=P.length/\r0=P.length+X.length))
include bA hX hY ff fg dl dm hN hb hmid h0
omit bA hN hb ff fg in
theorem Zxt{c c':Nat}(b:s0<=c')(d:c'<=c)(e:c<r0)(h:Zsz K P X Y mid c=false):Zsz K P X Y mid c'=false:=by
 unfold Zsz at *
 exact Zng (Zng (ZlV hY (by omega) (by omega)) h) (ZlV hX (by omega) (by omega))
theorem ZHi:∀(s lo d fu:Nat),d-lo<=s->s0<=lo->lo<=d->d<=r0->s+1<=fu->(∀c,s0<=c->c<lo->Zsz K P X Y mid c=false)->(∀c,d<=c->c<r0->Zsz K P X Y mid c=true) ->
  ZaG (P.length:Int) ((P.length+X.length:Nat):Int) ((P.length+X.length+Y.length:Nat):Int) K.c K.b K.s gr (mid:Int) ((mid+(P.length+X.length):Nat):Int) fu (lo:Int) (d:Int) ((mid+(P.length+X.length)-1:Nat):Int) (P++(X++(Y++Q)))=some (P++(mrgJ K X Y++Q)):=by
 intro s;have fin:∀(lo fu:Nat),s0<=lo->lo<=r0->(∀c,s0<=c->c<lo->Zsz K P X Y mid c=false)->(∀c,lo<=c->c<r0->Zsz K P X Y mid c=true) ->
   ZaG (P.length:Int) ((P.length+X.length:Nat):Int) ((P.length+X.length+Y.length:Nat):Int) K.c K.b K.s gr (mid:Int) ((mid+(P.length+X.length):Nat):Int) (fu+1) (lo:Int) (lo:Int) ((mid+(P.length+X.length)-1:Nat):Int) (P++(X++(Y++Q)))=some (P++(mrgJ K X Y++Q)):=by
  intro lo fu f g r t;unfold ZaG;rw[Zad,iNa];exact ZRj bA P X Y Q hX hY ff fg dl dm hN hb mid s0 r0 hmid h0 lo f g r t _ _ _
 induction s with
 |zero=>
  intro lo d fu u h v j y f g;obtain⟨fu,rfl⟩:=sC fu;obtain rfl:lo=d:=by omega
  exact fin lo fu h j f g
 |succ s ih=>
  intro lo d fu u h v j y f g;obtain⟨fu,rfl⟩:=sC fu;by_cases e:lo=d
  .subst e;exact fin lo fu h j f g
  .have t1:(lo+d) / 2<r0:=by omega
   have t2:s0<=(lo+d) / 2:=by omega
   have ep:Zay ((mid+(P.length+X.length)-1:Nat):Int) (((lo+d) / 2:Nat):Int)=((P.length+X.length+(mid-1-(lo+d) / 2):Nat):Int):=by rw[Zbi (by omega) (by omega)];omega
   have hl:(P++(X++(Y++Q))).length=P.length+X.length+Y.length+Q.length:=by simp;omega
   have mB:Zam (((lo+d) / 2:Nat):Int) 1=(((lo+d) / 2+1:Nat):Int):=by rw[Zbb (by omega) (by omega)];omega
   unfold ZaG;rw[Zad,iNb,ZuK _ _ (by omega),ep,Zaj (by rw[hl];omega),Zaj (by rw[hl];omega)];simp only[Int.toNat_natCast];have A:(P++(X++(Y++Q))).getD (P.length+X.length+(mid-1-(lo+d) / 2)) 0=Y.getD (mid-1-(lo+d) / 2) 0:=by
    have:=Zzl (P:=P++X) (Y:=Y) (Q:=Q) (i:=mid-1-(lo+d) / 2) (k:=P.length+X.length+(mid-1-(lo+d) / 2)) (by simp) (by omega);simpa using this
   have B:(P++(X++(Y++Q))).getD ((lo+d) / 2) 0=X.getD ((lo+d) / 2-P.length) 0:=Zzl (by omega) (by omega);rw[A,B,ZuN (fg.get (by omega)) (ff.get (by omega)),Zan,mB];by_cases n:cmpJ K (Y.getD (mid-1-(lo+d) / 2) 0) (X.getD ((lo+d) / 2-P.length) 0)<0
   .have ok:Zsz K P X Y mid ((lo+d) / 2)=true:=ZvE.2 n;rw[decide_eq_true n,Bool.not_true,cond_false];refine ih lo _ fu (by omega) h (by omega) (by omega) (by omega) f (fun c o p=>?_);cases q:Zsz K P X Y mid c with
    |true=>rfl
    |false=>
     have:=Zxt P X Y hX hY dl dm mid s0 r0 hmid h0 t2 o p q;rw[ok]at this;cases this
   .have ok:Zsz K P X Y mid ((lo+d) / 2)=false:=Zxw.2 n;rw[decide_eq_false n,Bool.not_false,cond_true];exact ih _ d fu (by omega) (by omega) (by omega) j (by omega) (fun c o p=>Zxt P X Y hX hY dl dm mid s0 r0 hmid h0 o (by omega) t1 ok) g
end
theorem ZPr{K:Cx}{gr:Ins->Int->Int->Int->List Zaa->Int->Int->Option Ins}{N:Nat}(bA:jk K gr N):jk K (Zdd gr) (N+1):=by
 intro P X Y Q dl dm hX hY ff fg hN hb;unfold Zdd;have g:Zay ((P.length+X.length:Nat):Int) (P.length:Int)=(X.length:Int):=by rw[Zbi (by omega) (by omega)];omega
 have h:Zay ((P.length+X.length+Y.length:Nat):Int) ((P.length+X.length:Nat):Int)=(Y.length:Int):=by rw[Zbi (by omega) (by omega)];omega
 rw[g,h,Zdp,Zdp];by_cases e:X.length=1
 .rw[iNb];obtain⟨x,rfl⟩ : ∃x,X=[x]:=by
   cases X with
   |nil=>cases e
   |cons x X=>exact⟨x,by rw[List.eq_nil_of_length_eq_zero (show X.length=0 by simpa using e)]⟩
  have:=bs1J P Y Q x hY (ff x (by simp)) fg (by omega) Y.length 0 Y.length ((((P.length+[x].length+Y.length:Nat):Int)-((P.length+[x].length:Nat):Int)).toNat+2) (by omega) (by omega) (Nat.le_refl _) (by simp only[List.length_singleton];omega) (by simp) (by simp);exact this
 .rw[iNa];by_cases f:Y.length=1
  .rw[iNb];obtain⟨y,rfl⟩ : ∃y,Y=[y]:=by
    cases Y with
    |nil=>cases f
    |cons y Y=>exact⟨y,by rw[List.eq_nil_of_length_eq_zero (show Y.length=0 by simpa using f)]⟩
   have:=bs2J P X Q y hX (fg y (by simp)) ff (by omega) X.length 0 X.length ((((P.length+X.length:Nat):Int)-(P.length:Int)).toNat+2) (by omega) (by omega) (Nat.le_refl _) (by omega) (by simp) (by simp);exact this
  .rw[iNa];rw[ZuK _ _ (by omega)];obtain⟨mid,hmid⟩ : ∃mid,mid=(P.length+(P.length+X.length+Y.length)) / 2:=⟨_,rfl⟩;rw[<-hmid];have en:Zam (mid:Int) ((P.length+X.length:Nat):Int)=((mid+(P.length+X.length):Nat):Int):=by rw[Zbb (by omega) (by omega)];omega
   have ep:Zay ((mid+(P.length+X.length):Nat):Int) 1=((mid+(P.length+X.length)-1:Nat):Int):=by rw[Zbi (by omega) (by omega)];omega
   rw[en,Zad];by_cases i:mid<P.length+X.length
   .have es:Zay ((mid+(P.length+X.length):Nat):Int) ((P.length+X.length+Y.length:Nat):Int)=((mid+(P.length+X.length)-(P.length+X.length+Y.length):Nat):Int):=by rw[Zbi (by omega) (by omega)];omega
    rw[iNb,es];unfold Zcm;rw[ep];exact ZHi bA P X Y Q hX hY ff fg dl dm hN hb mid (mid+(P.length+X.length)-(P.length+X.length+Y.length)) mid hmid (.inl ⟨i,by omega,rfl⟩) _ _ _ _ (Nat.le_refl _) (Nat.le_refl _) (by omega) (Nat.le_refl _) (by omega) (fun c b d=>by omega) (fun c b d=>by omega)
   .rw[iNa];unfold Zcm;rw[ep];exact ZHi bA P X Y Q hX hY ff fg dl dm hN hb mid P.length (P.length+X.length) hmid (.inr ⟨by omega,rfl,rfl⟩) _ _ _ _ (Nat.le_refl _) (Nat.le_refl _) (by omega) (Nat.le_refl _) (by omega) (fun c b d=>by omega) (fun c b d=>by omega)
theorem ZFV{K:Cx}:∀fu,jk K (ZbM fu) fu
 | 0=>fun P X Y Q b d _ _ _ _ e=>by omega
 |fu+1=>fun P X Y Q b d e f g h i j=>by
  unfold ZbM
  exact ZPr (ZFV fu) P X Y Q b d e f g h i j
inductive BlkJ (K:Cx) (B:Nat):Ins->Ins->Prop
 |last (L:Ins) (h:L.length<=B):BlkJ K B L (ZbQ K L)
 |more (L D:Ins) (h:B<=L.length) (r:BlkJ K B (L.drop B) D):BlkJ K B L (ZbQ K (L.take B)++D)
theorem BlkJ.len{K:Cx}{B:Nat}{L D:Ins}(h:BlkJ K B L D):D.length=L.length:=by
 induction h with
 |last L h=>exact Zhh L
 |more L D h r ih=>rw[List.length_append,Zhh,ih];simp;omega
theorem BlkJ.one{K:Cx}{B:Nat}(d:0<B){L D:Ins}(h:BlkJ K B L D)(hl:L.length<=B):D=ZbQ K L:=by
 cases h with
 |last _ h=>rfl
 |more _ D h r=>
  have:L.length=B:=by omega
  have hd:L.drop B=[]:=List.drop_eq_nil_of_le (by omega);have b:=r.len;rw[hd]at b;rw[List.eq_nil_of_length_eq_zero b,List.take_of_length_le (by omega),List.append_nil]
theorem BlkJ.split{K:Cx}{B:Nat}{L D:Ins}(h:BlkJ K B L D)(hl:B<=L.length):∃D1,D=ZbQ K (L.take B)++D1/\BlkJ K B (L.drop B) D1:=by
 cases h with
 |last _ h=>
  have e:L.length=B:=by omega
  refine⟨[],by rw[List.take_of_length_le (by omega),List.append_nil],?_⟩;rw[List.drop_eq_nil_of_le (by omega)];exact BlkJ.last [] (by simp)
 |more _ D h r=>exact⟨D,rfl,r⟩
theorem ZRw{K:Cx}(B:Nat)(n:0<B)(kl:B<=800)(r:Int->Int->Int->Ins->Option Ins)(o:Int->Ins->Option Ins):∀(s:Nat)(L P D:Ins)(fu:Nat),L.length<2*B*(s+1)->s+1<=fu->P.length+L.length<=900->Rg K L->BlkJ K B L D ->
  ∃D',BlkJ K (2*B) L D'/\ZbF ((P.length+L.length:Nat):Int) K.c K.b K.s (B:Int) r o fu (P.length:Int) ((P.length+2*B:Nat):Int) (P++D)=o ((2*B:Nat):Int) (P++D'):=by
 intro s;induction s with
 |zero=>
  intro L P D fu p t hb d h;obtain⟨fu,rfl⟩:=sC fu;have g:Zam (P.length:Int) (B:Int)=((P.length+B:Nat):Int):=by rw[Zbb (by omega) (by omega)];omega
  have u:ZiA (B:Int) 2=((2*B:Nat):Int):=by rw[Zpt (by omega) (by omega)];omega
  unfold ZbF;rw[Zad,iNa,g,u,Zad];refine⟨ZbQ K L,BlkJ.last L (by omega),?_⟩;by_cases E:B<L.length
  .obtain⟨D1,rfl,i⟩:=h.split (by omega);have e:=i.one n (by simp;omega);subst e;have l1:(ZbQ K (L.take B)).length=B:=by rw[Zhh];simp;omega
   have l2:(ZbQ K (L.drop B)).length=L.length-B:=by rw[Zhh];simp
   have f:=ZFV (K:=K) 1000 P (ZbQ K (L.take B)) (ZbQ K (L.drop B)) [] (by omega) (by omega) (ZoP _) (ZoP _) (Zqu (d.take _)) (Zqu (d.drop _)) (by omega) (by simp;omega);rw[l1,l2,show P.length+B+(L.length-B)=P.length+L.length by omega,<-ZsG,List.take_append_drop,List.append_nil,List.append_nil]at f;rw[iNb,f,Zan]
  .rw[iNa,h.one n (by omega)]
 |succ s ih=>
  intro L P D fu p t hb d h;rw[Nat.mul_succ]at p;by_cases v:2*B<=L.length
  .obtain⟨fu,rfl⟩:=sC fu;have g:Zam (P.length:Int) (B:Int)=((P.length+B:Nat):Int):=by rw[Zbb (by omega) (by omega)];omega
   have y:ZiA (2:Int) (B:Int)=((2*B:Nat):Int):=by rw[Zpt (by omega) (by omega)];omega
   have A:Zam ((P.length+2*B:Nat):Int) ((2*B:Nat):Int)=((P.length+2*B+2*B:Nat):Int):=by rw[Zbb (by omega) (by omega)];omega
   unfold ZbF;rw[Zad,g,y,A];obtain⟨D1,rfl,i⟩:=h.split (by omega);obtain⟨D2,rfl,j⟩:=i.split (by simp;omega);have l1:(ZbQ K (L.take B)).length=B:=by rw[Zhh];simp;omega
   have l2:(ZbQ K ((L.drop B).take B)).length=B:=by rw[Zhh];simp;omega
   have lD:=j.len;simp only[List.length_drop]at lD;have f:=ZFV (K:=K) 1000 P (ZbQ K (L.take B)) (ZbQ K ((L.drop B).take B)) D2 (by omega) (by omega) (ZoP _) (ZoP _) (Zqu (d.take _)) (Zqu ((d.drop _).take _)) (by omega) (by omega);rw[l1,l2,show P.length+B+B=P.length+2*B by omega,<-ZsG]at f;have et:L.take B++(L.drop B).take B=L.take (2*B):=by rw[show 2*B=B+B by omega,List.take_add]
   have ed:(L.drop B).drop B=L.drop (2*B):=by rw[List.drop_drop];congr 1;omega
   rw[et]at f;rw[ed]at j;rw[iNb,f,Zan];have lt:(ZbQ K (L.take (2*B))).length=2*B:=by rw[Zhh];simp;omega
   obtain⟨D',d1,d2⟩:=ih (L.drop (2*B)) (P++ZbQ K (L.take (2*B))) D2 fu (by rw[List.length_drop];omega) (by omega) (by simp only[List.length_append,lt,List.length_drop];omega) (d.drop _) j;refine⟨ZbQ K (L.take (2*B))++D',BlkJ.more L D' v d1,?_⟩;simp only[List.length_append,lt,List.length_drop,List.append_assoc]at d2;rw[show P.length+2*B+(L.length-2*B)=P.length+L.length by omega]at d2;exact d2
  .obtain⟨fu,rfl⟩:=sC fu;have C:L.length<2*B*(s+1):=by
    have:2*B<=2*B*(s+1):=Nat.le_mul_of_pos_right _ (by omega);omega
   exact ih L P D (fu+1) C (by omega) hb d h
theorem ZRx{K:Cx}(v7 v8:Int)(d:Int->Int->Int->Ins->Option Ins)(L:Ins)(hL:L.length<=800)(f:Rg K L):∀(s B:Nat)(D:Ins)(fu:Nat),L.length-B<=s->0<B->B<=1600->s+1<=fu->BlkJ K B L D ->
  Zbk (L.length:Int) K.c K.b K.s v7 v8 d fu (B:Int) D=some (ZbQ K L):=by
 intro s;induction s with
 |zero=>
  intro B D fu g e kl i h;obtain⟨fu,rfl⟩:=sC fu;unfold Zbk;rw[Zad,iNa,h.one e (by omega)]
 |succ s ih=>
  intro B D fu g e kl i h;obtain⟨fu,rfl⟩:=sC fu;unfold Zbk;rw[Zad];by_cases p:B<L.length
  .have j:ZiA (2:Int) (B:Int)=((2*B:Nat):Int):=by rw[Zpt (by omega) (by omega)];omega
   rw[iNb,j];have n:L.length / (2*B)+1<=(((L.length:Nat):Int)-((2*B:Nat):Int)).toNat+2:=by
    by_cases o:L.length<2*B
    .rw[Nat.div_eq_of_lt o];omega
    .rw[Nat.div_eq_sub_div (by omega) (by omega)];have:=Nat.div_le_self (L.length-2*B) (2*B);omega
   obtain⟨D',d1,d2⟩:=ZRw B e (by omega) d (Zbk (L.length:Int) K.c K.b K.s v7 v8 d fu) (L.length / (2*B)) L [] D _ (Nat.lt_mul_div_succ _ (by omega)) n (by simp;omega) f h;simp only[List.length_nil,Nat.zero_add,List.nil_append]at d2;have mC:ZbF (L.length:Int) K.c K.b K.s (B:Int) d (Zbk (L.length:Int) K.c K.b K.s v7 v8 d fu) ((((L.length:Nat):Int)-((2*B:Nat):Int)).toNat+2) 0 ((2*B:Nat):Int) D=_:=d2;rw[mC];exact ih (2*B) D' fu (by omega) (by omega) (by omega) (by omega) d1
  .rw[iNa,h.one e (by omega)]
theorem ZRy{K:Cx}(A:Ins)(g:A.length<=800)(h:Rg K A):∀(s:Nat)(L P:Ins)(fu:Nat),L.length<20*(s+1)->s+1<=fu->P.length+L.length=A.length->Rg K L->(∀D,BlkJ K 20 L D->BlkJ K 20 A (P++D)) ->
  ZaW (A.length:Int) K.c K.b K.s fu 20 (P.length:Int) ((P.length+20:Nat):Int) (P++L)=some (ZbQ K A):=by
 intro s;have fin:∀(L P:Ins)(fu:Nat),L.length<20->P.length+L.length=A.length->Rg K L->(∀D,BlkJ K 20 L D->BlkJ K 20 A (P++D)) ->
   ZaW (A.length:Int) K.c K.b K.s (fu+1) 20 (P.length:Int) ((P.length+20:Nat):Int) (P++L)=some (ZbQ K A):=by
  intro L P fu f hl jl d;unfold ZaW;have e:=ZKR (K:=K) P L [] jl (by simp;omega) (P.length:Int) (A.length:Int) rfl (by omega);simp only[List.append_nil]at e;rw[Zad,iNa,e,Zan];exact ZRx _ _ _ A g h (A.length-20) 20 _ _ (Nat.le_refl _) (by omega) (by omega) (by omega) (d _ (BlkJ.last L (by omega)))
 induction s with
 |zero=>
  intro L P fu f i hl jl d;obtain⟨fu,rfl⟩:=sC fu;exact fin L P fu (by omega) hl jl d
 |succ s ih=>
  intro L P fu f i hl jl d;obtain⟨fu,rfl⟩:=sC fu;by_cases j:L.length<20
  .exact fin L P fu j hl jl d
  .unfold ZaW;have lt:(L.take 20).length=20:=by simp;omega
   have e:=ZKR (K:=K) P (L.take 20) (L.drop 20) (jl.take _) (by simp;omega) (P.length:Int) ((P.length+20:Nat):Int) rfl (by rw[lt]);rw[List.take_append_drop]at e;have n:Zam ((P.length+20:Nat):Int) 20=((P.length+20+20:Nat):Int):=by rw[Zbb (by omega) (by omega)];omega
   rw[Zad,iNb,e,Zan,n];have li:(ZbQ K (L.take 20)).length=20:=by rw[Zhh,lt]
   have:=ih (L.drop 20) (P++ZbQ K (L.take 20)) fu (by rw[List.length_drop];omega) (by omega) (by simp only[List.length_append,li,List.length_drop];omega) (jl.drop _) (fun D o=>by
    have:=d _ (BlkJ.more L D (by omega) o);rwa [<-List.append_assoc]at this)
   simp only[List.length_append,li,List.append_assoc]at this;exact this
theorem ZAG{K:Cx}(A:Ins)(e:A.length<=800)(d:Rg K A):ZcU A K.c K.b K.s=some (ZbQ K A):=by
 unfold ZcU Zfo;have f:A.length / 20+1<=(((A.length:Nat):Int)-(20:Int)).toNat+2:=by omega
 have:=ZRy (K:=K) A e d (A.length / 20) A [] ((((A.length:Nat):Int)-(20:Int)).toNat+2) (by omega) f (by simp) d (fun D h=>h);simp only[List.length_nil,Nat.zero_add,List.nil_append]at this;have eA:ZaW (A.length:Int) K.c K.b K.s ((((A.length:Nat):Int)-(20:Int)).toNat+2) 20 0 20 A=some (ZbQ K A):=this;rw[eA];rfl
def bstJ(K:Cx):Int->Ins->Int|b,[]=>b|b,y :: r=>if ltJ K y b=true then bstJ K y r else bstJ K b r
theorem ZzC{K:Cx}(y:Int):∀(l:Ins)(b:Int),bstJ K b (l++[y])=if ltJ K y (bstJ K b l)=true then y else bstJ K b l
 | [],b=>rfl
 |x :: r,b=>by
  simp only[List.cons_append,bstJ]
  split
  .exact ZzC y r x
  .exact ZzC y r b
theorem ZzB{K:Cx}:∀(l:Ins)(b:Int),bstJ K b l∈b :: l
 | [],b=>by simp[bstJ]
 |x :: r,b=>by
  simp only[bstJ]
  split
  .exact List.mem_cons_of_mem _ (ZzB r x)
  .rcases List.mem_cons.1 (ZzB (K:=K) r b)with h|h
   .rw[h];simp
   .exact List.mem_cons_of_mem _ (List.mem_cons_of_mem _ h)
theorem ZQT{l:Ins}{y:Int}(h:y ∉ l):l.filter (fun x=>x != y)=l:=List.filter_eq_self.2 fun x hx=>by
 rw[bne_iff_ne];rintro rfl;exact h hx
theorem ZIf{K:Cx}(b:Int)(l:Ins)(g:(b :: l).Nodup):ZbQ K (b :: l)=bstJ K b l :: ZbQ K ((b :: l).filter fun x=>x != bstJ K b l):=by
 have aK:∀n,n<=l.length->ZbQ K (b :: l.take n)=bstJ K b (l.take n) :: ZbQ K ((b :: l.take n).filter fun x=>x != bstJ K b (l.take n)):=by
  intro n;induction n with
  |zero=>intro _;simp[ZbQ,bstJ,Zeq]
  |succ n ih=>
   intro h;have d:l.take (n+1)=l.take n++[l[n]]:=List.take_succ_eq_append_getElem (show n<l.length by omega);have hn2:(b :: l.take n++[l[n]]).Nodup:=by
    have:(b :: l.take (n+1)).Nodup:=g.sublist (List.Sublist.cons_cons _ (List.take_sublist _ _));rw[d]at this;exact this
   have ck:l[n] ∉ b :: l.take n:=fun f=>(List.nodup_append.1 hn2).2.2 _ f _ (by simp) rfl;have e:b :: l.take (n+1)=(b :: l.take n)++[l[n]]:=by rw[d];rfl
   have f:=ZzB (K:=K) (l.take n) b;rw[e,Zig,ih (by omega),d,ZzC];cases hlt:ltJ K l[n] (bstJ K b (l.take n))with
   |true=>
    rw[if_pos rfl,ZiB _ _ hlt,ZhU,<-ih (by omega),List.filter_append,ZQT ck];simp
   |false=>
    have hne:l[n]≠bstJ K b (l.take n):=fun h=>ck (h ▸ f);rw[if_neg (by decide),ZjF _ _ hlt,List.filter_append,<-Zig];congr 2;simp[hne]
 have:=aK l.length (Nat.le_refl _);rwa [List.take_length]at this
def selN(K:Cx):Nat->Ins->Ins|0,_=>[]|_+1,[]=>[]|n+1,b :: l=>bstJ K b l :: selN K n ((b :: l).filter fun x=>x != bstJ K b l)
theorem ZGd{K:Cx}:∀(n:Nat)(L:Ins),L.Nodup->selN K n L=(ZbQ K L).take n
 | 0,_,_=>by simp[selN]
 |n+1,[],_=>by simp[selN,ZbQ]
 |n+1,b :: l,h=>by
  rw[selN,ZIf b l h,List.take_succ_cons,ZGd n _ (h.sublist List.filter_sublist)]
theorem ZQz{K K':Cx}(f:Int->Int):∀(n:Nat)(a b:Ins),a.length+b.length<=n->(∀x∈a,∀y∈b,ltJ K' (f y) (f x)=ltJ K y x)->mrgJ K' (a.map f) (b.map f)=(mrgJ K a b).map f:=by
 intro n;induction n with
 |zero=>
  intro a b h _;obtain rfl:=List.eq_nil_of_length_eq_zero (show a.length=0 by omega);simp[Zeq]
 |succ n ih=>
  intro a b h g;cases a with
  |nil=>simp[Zeq]
  |cons x a=>
   cases b with
   |nil=>simp[ZhU]
   |cons y b=>
    simp only[List.length_cons]at h;have e:=g x (by simp) y (by simp);simp only[List.map_cons];cases d:ltJ K y x with
    |true=>
     rw[d]at e;have:=ih (x :: a) b (by simp only[List.length_cons];omega) fun x' hx y' i=>g x' hx y' (by simp[i]);simp only[List.map_cons]at this;rw[ZiB _ _ e,ZiB _ _ d,List.map_cons,this]
    |false=>
     rw[d]at e;have:=ih a (y :: b) (by simp only[List.length_cons];omega) fun x' hx y' i=>g x' (by simp[hx]) y' i;simp only[List.map_cons]at this;rw[ZjF _ _ e,ZjF _ _ d,List.map_cons,this]
theorem ZBu{K:Cx}(l:Ins):∀x∈ZbQ K l,x∈l:=by
 have:∀n,n<=l.length->∀x∈ZbQ K (l.take n),x∈l.take n:=by
  intro n;induction n with
  |zero=>intro _;simp[ZbQ]
  |succ n ih=>
   intro h;rw[List.take_succ_eq_append_getElem (show n<l.length by omega),Zig];intro x hx;rcases ZuF _ _ _ (Nat.le_refl _) x hx with q|q
   .exact List.mem_append.2 (.inl (ih (by omega) x q))
   .exact List.mem_append.2 (.inr q)
 have h:=this l.length (Nat.le_refl _);rwa [List.take_length]at h
theorem ZKO{K K':Cx}(f:Int->Int)(C:Ins)(b:∀x∈C,∀y∈C,ltJ K' (f y) (f x)=ltJ K y x):ZbQ K' (C.map f)=(ZbQ K C).map f:=by
 have:∀n,n<=C.length->ZbQ K' ((C.take n).map f)=(ZbQ K (C.take n)).map f:=by
  intro n;induction n with
  |zero=>intro _;simp[ZbQ]
  |succ n ih=>
   intro h;rw[List.take_succ_eq_append_getElem (show n<C.length by omega),Zig,List.map_append,List.map_singleton,Zig,ih (by omega)];have:=ZQz (K:=K) (K':=K') f _ (ZbQ K (C.take n)) [C[n]] (Nat.le_refl _) fun x hx y d=>b x (List.mem_of_mem_take (ZBu _ x hx)) y (by rw[List.mem_singleton.1 d];exact List.getElem_mem _);simpa using this
 have h:=this C.length (Nat.le_refl _);rwa [List.take_length]at h
def gP(l:List Zaa)(i:Int):Zaa:=l.getD i.toNat Zaa.d
def okPs(l:List Zaa):Prop:=∀p∈l,p.fEnd.fAddr.ok
def cntB(b:Int)(p:Zaa):Bool:=if b=1 then true else if b=4 then true else if b=2 then decide (p.fPing>0)else if b=3 then decide (p.fWork>0)else false
def upto(n:Nat):Ins:=(List.range n).map fun(i:Nat)=>(i:Int)
def Zhg(l:List Zaa)(b:Int)(at_:Ins):Ins:=at_.filter fun i=>cntB b (gP l i)
def inL(l:List Zaa)(at_:Ins):Prop:=∀i∈at_,0<=i/\i<((l.length:Nat):Int)
theorem ZEn(p:Zaa)(b:Int):ZmN p b=some (cntB b p):=by
 unfold ZmN ZkL cntB;simp only[Zdp];by_cases d:b=1
 .subst d;simp
 .by_cases e:b=4
  .subst e;simp
  .have h:(b==(1:Int))=false:=beq_false_of_ne d;have i:(b==(4:Int))=false:=beq_false_of_ne e;simp only[if_neg d,if_neg e,h,i,cond_false];by_cases f:b=2
   .simp only[if_pos f]
   .by_cases g:b=3
    .simp only[if_neg f,if_pos g]
    .simp only[if_neg f,if_neg g]
theorem ZHM(p:Zaa)(b:Int):ZhB p b=some (cntB b p):=by
 unfold ZhB cntB;simp only[Zdp];by_cases d:b=1
 .simp only[if_pos d]
 .by_cases e:b=4
  .simp only[if_neg d,if_pos e]
  .by_cases f:b=2
   .subst f;simp only[Zad];by_cases g:p.fPing>0
    .simp[g]
    .simp[g]
   .by_cases h:b=3
    .simp only[if_neg d,if_neg e,if_neg f,if_pos h]
    .simp only[if_neg d,if_neg e,if_neg f,if_neg h]
theorem Zsn(n:Nat):upto (n+1)=upto n++[(n:Int)]:=by simp[upto,List.range_succ]
theorem ZnT(n:Nat):(upto n).length=n:=by simp[upto]
theorem ZkK{n:Nat}{x:Int}:x∈upto n↔0<=x/\x<(n:Int):=by
 simp only[upto,List.mem_map,List.mem_range];constructor
 .rintro ⟨a,h,rfl⟩;omega
 .rintro ⟨b,d⟩;exact⟨x.toNat,by omega,by omega⟩
theorem ZoG(n:Nat):(upto n).Nodup:=by
 induction n with
 |zero=>simp[upto]
 |succ n ih=>
  rw[Zsn,List.nodup_append];refine⟨ih,by simp,fun a d b hb=>?_⟩;rw[List.mem_singleton.1 hb];have:=ZkK.1 d;omega
theorem ZHh(l:List Zaa)(b:Int)(X Y:Ins):Zhg l b (X++Y)=Zhg l b X++Zhg l b Y:=List.filter_append ..
theorem ZuT(l:List Zaa)(b:Int)(X:Ins):(Zhg l b X).length<=X.length:=List.length_filter_le ..
theorem rg_of{l:List Zaa}{b s:Int}{at_:Ins}(ho:okPs l)(h:inL l at_):Rg ⟨l,b,s⟩ at_:=fun x hx=>by
 obtain⟨d,e⟩:=h x hx
 refine⟨⟨d,e⟩,?_⟩
 rw[ZbA l _ x.toNat (by omega)]
 exact ho _ (List.getElem_mem _)
theorem ZHy{S:Ins}{m n:Int}(d:(S.length:Int)=m):S.take ((if m<(if(0:Int)>n then 0 else n)then m else(if(0:Int)>n then 0 else n)).toNat)=S.take n.toNat:=by
 by_cases h0:(0:Int)>n
 .rw[if_pos h0];rw[iNa];congr 1;omega
 .rw[if_neg h0];by_cases b:m<n
  .rw[if_pos b,List.take_of_length_le (by omega),List.take_of_length_le (by omega)]
  .rw[if_neg b]
theorem ZHO(l:List Zaa)(b n s:Int)(hl:l.length<=800)(ho:okPs l):ZeJ l b n s=some ((ZbQ ⟨l,b,s⟩ (Zhg l b (upto l.length))).take n.toNat):=by
 have aK:∀(k i fu:Nat),l.length-i=k->i<=l.length->k+1<=fu->ZgF n fu l (l.length:Int) (i:Int) (Zhg l b (upto i)) l b s=some ((ZbQ ⟨l,b,s⟩ (Zhg l b (upto l.length))).take n.toNat):=by
  intro k;induction k with
  |zero=>
   intro i fu g h j;obtain⟨fu,rfl⟩:=sC fu;obtain rfl:i=l.length:=by omega
   unfold ZgF;have f:=ZuT l b (upto l.length);rw[ZnT]at f;have hin:inL l (Zhg l b (upto l.length)):=fun x hx=>ZkK.1 (List.mem_filter.1 hx).1;have e:=ZAG (K:=⟨l,b,s⟩) (Zhg l b (upto l.length)) (by omega) (rg_of ho hin);dsimp only at e;have o:=Zhh (K:=⟨l,b,s⟩) (Zhg l b (upto l.length));rw[Zad,iNa,e,Zan,Zaj (by refine⟨by omega,?_,?_⟩<;>(repeat' split)<;>omega),Zaj (by (repeat' split)<;>omega),ZHy (by rw[o])]
  |succ k ih=>
   intro i fu g h j;obtain⟨fu,rfl⟩:=sC fu;unfold ZgF;have f:=ZuT l b (upto i);rw[ZnT]at f;have p:Zam (i:Int) 1=((i+1:Nat):Int):=add1 (n:=i+1) (by omega) (by simp only[maxLen];omega);rw[Zad,iNb,Zaj (by omega),ZEn,Zan,p];have bz:=ih (i+1) fu (by omega) (by omega) (by omega);rw[Zsn,ZHh]at bz;cases hb:cntB b (l.getD ((i:Int)).toNat Zaa.d)with
   |true=>
    have:Zhg l b [(i:Int)]=[(i:Int)]:=by simp only[Zhg,gP,List.filter_cons,hb,if_true,List.filter_nil]
    rw[this]at bz;rw[cond_true,Zaj (by simp only[List.length_append,List.length_singleton,maxLen];omega)];exact bz
   |false=>
    have:Zhg l b [(i:Int)]=[]:=by simp only[Zhg,gP,List.filter_cons,hb,Bool.false_eq_true,if_false,List.filter_nil]
    rw[this,List.append_nil]at bz;rw[cond_false];exact bz
 have:=aK l.length 0 _ (by omega) (by omega) (Nat.le_refl _);unfold ZeJ;exact aK l.length 0 _ (by omega) (by omega) (by omega)
theorem ZEd(l:List Zaa)(at_:Ins)(hl:at_.length<=800)(b:inL l at_):ZdY l at_=some (at_.map (gP l)):=by
 have aK:∀(k i fu:Nat),at_.length-i=k->i<=at_.length->k+1<=fu->Zhl l fu at_ (at_.length:Int) (i:Int) ((at_.take i).map (gP l))=some (at_.map (gP l)):=by
  intro k;induction k with
  |zero=>
   intro i fu d e f;obtain⟨fu,rfl⟩:=sC fu;unfold Zhl;rw[Zad,iNa,List.take_of_length_le (by omega)]
  |succ k ih=>
   intro i fu d e f;obtain⟨fu,rfl⟩:=sC fu;unfold Zhl;have g:Zam (i:Int) 1=((i+1:Nat):Int):=add1 (n:=i+1) (by omega) (by simp only[maxLen];omega);have bC:i<at_.length:=by omega
   have h:=b _ (List.getElem_mem bC);have j:at_.getD ((i:Int)).toNat 0=at_[i]:=ZbA at_ 0 i bC;have hlt:((at_.take i).map (gP l)).length=i:=by simp;omega
   rw[Zad,iNb,Zaj (by omega),j,Zaj h,Zaj (by simp only[List.length_append,hlt,List.length_singleton,maxLen];omega),g];have:=ih (i+1) fu (by omega) (by omega) (by omega);rw[List.take_succ_eq_append_getElem bC,List.map_append,List.map_singleton]at this;exact this
 unfold ZdY;rw[Zaj (by omega)];exact aK at_.length 0 _ (by omega) (by omega) (by omega)
def ZwP(at_ gone:Ins)(i:Nat):Ins:=((List.range i).filter fun(j:Nat)=>!decide ((j:Int)∈gone)).map fun(j:Nat)=>at_.getD j 0
theorem ZEf(at_ gone:Ins)(hl:at_.length<=800)(u:gone.length<=800)(p:∀k∈gone,0<=k/\k<((at_.length:Nat):Int)):Zfh at_ gone=some (ZwP at_ gone at_.length):=by
 have gE:∀(a b:Int)(v w:Ins)(kk:Ins->Int->Int->Ins->List Bool->Option Ins)(fl:List Bool),fl.length=at_.length->(∀i,i<at_.length->fl.getD i false=decide ((i:Int)∈gone))->∀(k i fu:Nat),at_.length-i=k->i<=at_.length->k+1<=fu ->
   ZfR at_ v a b w kk fu at_ (at_.length:Int) (i:Int) (ZwP at_ gone i) fl=some (ZwP at_ gone at_.length):=by
  intro a b v w kk fl gL dG k;induction k with
  |zero=>
   intro i fu d e f;obtain⟨fu,rfl⟩:=sC fu;obtain rfl:i=at_.length:=by omega
   unfold ZfR;rw[Zad,iNa]
  |succ k ih=>
   intro i fu d e f;obtain⟨fu,rfl⟩:=sC fu;unfold ZfR;have g:Zam (i:Int) 1=((i+1:Nat):Int):=add1 (n:=i+1) (by omega) (by simp only[maxLen];omega);have hk2:(ZwP at_ gone i).length<=i:=by
    unfold ZwP;rw[List.length_map];have:=List.length_filter_le (fun j:Nat=>!decide ((j:Int)∈gone)) (List.range i);rw[List.length_range]at this;exact this
   have bz:=ih (i+1) fu (by omega) (by omega) (by omega);have hfi:fl.getD ((i:Int)).toNat false=decide ((i:Int)∈gone):=dG i (by omega);rw[Zad,iNb,Zaj (by omega),Zaj (by rw[gL];omega),hfi,g];have r:ZwP at_ gone (i+1)=ZwP at_ gone i++(if(i:Int)∈gone then[]else[at_.getD i 0]):=by
    unfold ZwP;rw[List.range_succ,List.filter_append,List.map_append];congr 1;by_cases h:(i:Int)∈gone<;>simp[h]
   rw[r]at bz;by_cases h:(i:Int)∈gone
   .rw[if_pos h,List.append_nil]at bz;rw[decide_eq_true h,Bool.not_true,cond_false];exact bz
   .rw[if_neg h]at bz;rw[decide_eq_false h,Bool.not_false,cond_true,Zaj (by simp only[List.length_append,List.length_singleton,maxLen];omega)];exact bz
 have gF:∀(k i fu:Nat)(fl:List Bool),gone.length-i=k->i<=gone.length->k+1<=fu->fl.length=at_.length->(∀j,j<at_.length->fl.getD j false=decide ((j:Int)∈gone.take i)) ->
   ZfS at_ fu gone (gone.length:Int) (i:Int) [] fl=some (ZwP at_ gone at_.length):=by
  intro k;induction k with
  |zero=>
   intro i fu fl d e f gL dG;obtain⟨fu,rfl⟩:=sC fu;unfold ZfS;rw[Zad,iNa];rw[List.take_of_length_le (by omega)]at dG;exact gE _ _ _ _ _ fl gL dG at_.length 0 _ (by omega) (by omega) (by omega)
  |succ k ih=>
   intro i fu fl d e f gL dG;obtain⟨fu,rfl⟩:=sC fu;unfold ZfS;have g:Zam (i:Int) 1=((i+1:Nat):Int):=add1 (n:=i+1) (by omega) (by simp only[maxLen];omega);have bC:i<gone.length:=by omega
   have t:=p _ (List.getElem_mem bC);have cM:gone.getD ((i:Int)).toNat 0=gone[i]:=ZbA gone 0 i bC;rw[Zad,iNb,Zaj (by omega),cM,Zaj (by rw[gL];exact t),g];refine ih (i+1) fu _ (by omega) (by omega) (by omega) (by simpa using gL) fun j o=>?_;rw[List.take_succ_eq_append_getElem bC];have hx:=dG j o;simp only[List.getD_eq_getElem?_getD]at hx ⊢;rw[List.getElem?_set];by_cases hj2:gone[i].toNat=j
   .have:(j:Int)=gone[i]:=by omega
    rw[if_pos hj2,iNb,this];exact(decide_eq_true (List.mem_append.2 (.inr (by simp)))).symm
   .have:¬(j:Int)=gone[i]:=by omega
    rw[if_neg hj2,hx,decide_eq_decide,List.mem_append];constructor
    .exact .inl
    .rintro (h|h)
     .exact h
     .exact absurd (List.mem_singleton.1 h) this
 unfold Zfh;rw[Zaj (by omega),Zaj (by omega)];refine gF gone.length 0 _ _ (by omega) (by omega) (by omega) (by simp) fun j o=>?_;simp[List.getD_eq_getElem?_getD,o]
def ZoH(l:List Zaa)(s b n:Int)(at_:Ins):Ins:=at_.filter fun i=>!decide (i∈(ZbQ ⟨l,b,s⟩ (Zhg l b at_)).take n.toNat)
theorem Zoh{l:List Zaa}{s b n:Int}{at_:Ins}(h:inL l at_):inL l (ZoH l s b n at_):=fun i d=>h i (List.mem_filter.1 d).1
theorem ZmU{l:List Zaa}{s b n:Int}{at_:Ins}(h:at_.Nodup):(ZoH l s b n at_).Nodup:=h.sublist List.filter_sublist
theorem Zpo(l:List Zaa)(s b n:Int)(at_:Ins):(ZoH l s b n at_).length<=at_.length:=List.length_filter_le ..
theorem ZFb{α β:Type}(f:α->β)(p:β->Bool)(q:α->Bool)(l:List α)(h:∀x∈l,p (f x)=q x):(l.map f).filter p=(l.filter q).map f:=by
 rw[List.filter_map];congr 1;exact List.filter_congr h
theorem Zyj(l:List Zaa)(at_:Ins)(b n s:Int)(hl:at_.length<=800)(ho:okPs l)(u:inL l at_)(B:at_.Nodup) :
  ((ZdY l at_).bind fun x=>(ZeJ x b n s).bind fun y=>Zfh at_ y)=some (ZoH l s b n at_):=by
 rw[ZEd l at_ hl u,Zan];have cE:okPs (at_.map (gP l)):=fun p d=>by
  obtain⟨i,C,rfl⟩:=List.mem_map.1 d;have:=u i C;unfold gP;rw[ZbA l _ i.toNat (by omega)];exact ho _ (List.getElem_mem _)
 rw[ZHO _ b n s (by simpa using hl) cE,Zan];obtain⟨f,r⟩ : ∃f:Int->Int,f=fun p=>at_.getD p.toNat 0:=⟨_,rfl⟩;have hfp:∀i:Nat,f (i:Int)=at_.getD i 0:=fun i=>by rw[r];rfl
 have hlen:(at_.map (gP l)).length=at_.length:=by simp
 rw[hlen];have t:∀p:Int,0<=p->p<(at_.length:Int)->gP (at_.map (gP l)) p=gP l (f p):=fun p o g=>by
  have d:p.toNat<at_.length:=by omega
  rw[r];simp only[gP];rw[ZbA _ _ p.toNat (by simpa using d),List.getElem_map,ZbA at_ 0 p.toNat d];rfl
 have hat:(upto at_.length).map f=at_:=by
  apply List.ext_getElem
  .simp[upto]
  .intro i o g;simp only[upto,List.map_map,List.getElem_map,List.getElem_range,Function.comp];rw[hfp,ZbA at_ 0 i g]
 have D:(Zhg (at_.map (gP l)) b (upto at_.length)).map f=Zhg l b at_:=by
  have:Zhg l b at_=((upto at_.length).map f).filter fun i=>cntB b (gP l i):=by rw[hat];rfl
  rw[this,ZFb f _ (fun p=>cntB b (gP (at_.map (gP l)) p))]
  .rfl
  .intro p d;obtain⟨o,g⟩:=ZkK.1 d;rw[t p o g]
 have v:ZbQ ⟨l,b,s⟩ (Zhg l b at_)=(ZbQ ⟨at_.map (gP l),b,s⟩ (Zhg (at_.map (gP l)) b (upto at_.length))).map f:=by
  rw[<-D];refine ZKO f _ fun x hx y E=>?_;obtain⟨x1,x2⟩:=ZkK.1 (List.mem_filter.1 hx).1;obtain⟨y1,y2⟩:=ZkK.1 (List.mem_filter.1 E).1;have e:cmpJ ⟨l,b,s⟩ (f y) (f x)=cmpJ ⟨at_.map (gP l),b,s⟩ y x:=by
   show ZqF b s (gP l (f y)) (gP l (f x))=ZqF b s (gP (at_.map (gP l)) y) (gP (at_.map (gP l)) x);rw[t y y1 y2,t x x1 x2]
  unfold ltJ;rw[e]
 obtain⟨S,mD⟩ : ∃S,S=ZbQ ⟨at_.map (gP l),b,s⟩ (Zhg (at_.map (gP l)) b (upto at_.length)):=⟨_,rfl⟩;have hSm:∀x∈S,0<=x/\x<(at_.length:Int):=fun x hx=>by
  rw[mD]at hx;exact ZkK.1 (List.mem_filter.1 (ZBu _ x hx)).1
 have hSl:S.length<=at_.length:=by
  rw[mD,Zhh];have:=ZuT (at_.map (gP l)) b (upto at_.length);rw[ZnT]at this;exact this
 rw[<-mD]at v ⊢;rw[ZEf at_ _ hl (by simp only[List.length_take];omega) fun k F=>hSm k (List.mem_of_mem_take F)];have i6:∀x y:Int,0<=x->x<(at_.length:Int)->0<=y->y<(at_.length:Int)->f x=f y->x=y:=fun x y x1 x2 y1 y2 h=>by
  rw[r]at h;simp only at h;rw[ZbA at_ 0 x.toNat (by omega),ZbA at_ 0 y.toNat (by omega)]at h;have:=ZqY B (i:=x.toNat) (j:=y.toNat) (a:=at_[y.toNat]'(by omega)) (by rw[<-h];simp) (by simp);omega
 congr 1;unfold ZoH;rw[v,<-List.map_take];have G:∀p:Int->Bool,at_.filter p=((upto at_.length).map f).filter p:=fun p=>by rw[hat]
 rw[G,ZFb f _ (fun p=>!decide (p∈S.take n.toNat))]
 .unfold ZwP upto;rw[ZFb (fun(i:Nat)=>(i:Int)) _ (fun j=>!decide ((j:Int)∈S.take n.toNat)) _ (fun _ _=>rfl),List.map_map];exact List.map_congr_left fun j _=>(hfp j).symm
 .intro p d;obtain⟨o,g⟩:=ZkK.1 d;congr 1;rw[decide_eq_decide];constructor
  .intro h;obtain⟨q,A,e⟩:=List.mem_map.1 h;obtain⟨H,I⟩:=hSm q (List.mem_of_mem_take A);rw[<-i6 q p H I o g e];exact A
  .intro h;exact List.mem_map.2 ⟨p,h,rfl⟩
def ZyQ(l:List Zaa)(q:Zau)(s:Int):Ins:=ZoH l s 4 q.fTime (ZoH l s 3 q.fWork (ZoH l s 2 q.fPing (ZoH l s 1 q.fGroup (upto l.length))))
theorem ZEe(l:List Zaa)(q:Zau)(s:Int)(hl:l.length<=800)(ho:okPs l):Zlo l q s=some (ZyQ l q s):=by
 have gE:∀(a b:Int)(w:Ins)(q':Zau)(kk:Int->Int->Ins->Zau->Option Ins)(fu:Nat),ZcI l s a b w q' kk (fu+5) (⟨1,q.fGroup⟩,⟨2,q.fPing⟩,⟨3,q.fWork⟩,⟨4,q.fTime⟩) 0 (upto l.length)=some (ZyQ l q s):=by
  intro a b w q' kk fu;have h0:inL l (upto l.length):=fun i j=>ZkK.1 j;have t1:=Zyj l (upto l.length) 1 q.fGroup s (by rw[ZnT];exact hl) ho h0 (ZoG _);have l1:=Zpo l s 1 q.fGroup (upto l.length);rw[ZnT]at l1;have t2:=Zyj l _ 2 q.fPing s (by omega) ho (Zoh (s:=s) (b:=1) (n:=q.fGroup) h0) (ZmU (ZoG _));have l2:=Zpo l s 2 q.fPing (ZoH l s 1 q.fGroup (upto l.length));have t3:=Zyj l _ 3 q.fWork s (by omega) ho (Zoh (s:=s) (b:=2) (n:=q.fPing) (Zoh (s:=s) (b:=1) (n:=q.fGroup) h0)) (ZmU (ZmU (ZoG _)));have l3:=Zpo l s 3 q.fWork (ZoH l s 2 q.fPing (ZoH l s 1 q.fGroup (upto l.length)));have t4:=Zyj l _ 4 q.fTime s (by omega) ho (Zoh (s:=s) (b:=3) (n:=q.fWork) (Zoh (s:=s) (b:=2) (n:=q.fPing) (Zoh (s:=s) (b:=1) (n:=q.fGroup) h0))) (ZmU (ZmU (ZmU (ZoG _))));have bd:∀{α β γ δ:Type}(r:Option α)(g:α->Option β)(h:β->Option γ)(k:γ->Option δ)(z:γ),(r.bind fun x=>(g x).bind fun y=>h y)=some z->(r.bind fun x=>(g x).bind fun y=>(h y).bind k)=k z:=by
   intro α β γ δ r g h k z e;cases r with
   |none=>cases e
   |some x=>
    simp only[Option.bind_some]at e ⊢;cases d:g x with
    |none=>rw[d]at e;cases e
    |some y=>rw[d]at e;simp only[Option.bind_some]at e ⊢;rw[e];rfl
  have k8:∀{δ:Type}(X:Ins)(b n:Int)(k:Ins->Option δ)(z:Ins),((ZdY l X).bind fun x=>(ZeJ x b n s).bind fun y=>Zfh X y)=some z->((ZdY l X).bind fun x=>(ZeJ x b n s).bind fun y=>(Zfh X y).bind k)=k z:=by
   intro δ X b n k z e;cases o:ZdY l X with
   |none=>rw[o]at e;cases e
   |some x=>
    rw[o]at e;simp only[Option.bind_some]at e ⊢;cases d:ZeJ x b n s with
    |none=>rw[d]at e;cases e
    |some y=>rw[d]at e;simp only[Option.bind_some]at e ⊢;rw[e];rfl
  have t:Zam (0:Int) 1=1:=rfl;have u:Zam (1:Int) 1=2:=rfl;have v:Zam (2:Int) 1=3:=rfl;have A:Zam (3:Int) 1=4:=rfl;unfold ZcI;rw[Zad,iNb,Zaj (by omega)];simp only[ix1,if_true,t];rw[k8 _ _ _ _ _ t1];unfold ZcI;rw[Zad,iNb,Zaj (by omega)];simp only[ix1,if_true,u,show ¬((1:Int)=0)by omega,if_false];rw[k8 _ _ _ _ _ t2];unfold ZcI;rw[Zad,iNb,Zaj (by omega)];simp only[ix1,if_true,v,show ¬((2:Int)=0)by omega,show ¬((2:Int)=1)by omega,if_false];rw[k8 _ _ _ _ _ t3];unfold ZcI;rw[Zad,iNb,Zaj (by omega)];simp only[ix1,if_true,A,show ¬((3:Int)=0)by omega,show ¬((3:Int)=1)by omega,show ¬((3:Int)=2)by omega,if_false];rw[k8 _ _ _ _ _ t4];unfold ZcI;rw[Zad,iNa];rfl
 have gF:∀(k i fu:Nat)(w:Ins),l.length-i=k->i<=l.length->k+1<=fu->w.length=l.length->w.take i=upto i->ZfT l s fu (l.length:Int) (i:Int) w q=some (ZyQ l q s):=by
  intro k;induction k with
  |zero=>
   intro i fu w B j C p f;obtain⟨fu,rfl⟩:=sC fu;obtain rfl:i=l.length:=by omega
   rw[List.take_of_length_le (by omega)]at f;unfold ZfT;have e:Zop q=some (⟨1,q.fGroup⟩,⟨2,q.fPing⟩,⟨3,q.fWork⟩,⟨4,q.fTime⟩):=rfl;rw[Zad,iNa,e,Zan,f];exact gE _ _ _ _ _ 1
  |succ k ih=>
   intro i fu w B j C p f;obtain⟨fu,rfl⟩:=sC fu;unfold ZfT;have D:Zam (i:Int) 1=((i+1:Nat):Int):=add1 (n:=i+1) (by omega) (by simp only[maxLen];omega);rw[Zad,iNb,Zaj (by omega),D];refine ih (i+1) fu _ (by omega) (by omega) (by omega) (by simpa using p) ?_;rw[Zsn,<-f];simp only[Int.toNat_natCast];rw[List.take_succ_eq_append_getElem (by simp;omega),List.take_set_of_le (Nat.le_refl _)];simp
 unfold Zlo;rw[Zaj (by omega)];simp only[Int.toNat_natCast];exact gF l.length 0 _ _ (by omega) (by omega) (by omega) (by simp) (by simp[upto])
end Go.Proofs.YtlpdogaifdeomaaGreat
