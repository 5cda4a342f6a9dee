import Derived.Test.YtdjfoojllbfcgaaGreatLPlEb
namespace Go.Proofs.YtdjfoojllbfcgaaGreat
set_option linter.unusedVariables false
set_option linter.unusedSimpArgs false
def ZnF(h:Int):Int:=if h<1 then 1 else if h>1073741824 then 1073741824 else h
def ZsF(s:Zam)(h now:Int):Nat:=(fitI now-fitI s.fAt).toNat / (ZnF h).toNat
def decS(s:Zam)(h now:Int):Zam:=⟨(((fitI s.fPoints).toNat / 2 ^ ZsF s h now:Nat):Int),fitI s.fAt+((ZsF s h now*(ZnF h).toNat:Nat):Int)⟩
theorem ZyZ(h:Int):1≤ZnF h∧ZnF h≤1073741824:=by
 unfold ZnF
 repeat' split
 all_goals omega
theorem ZFI(x:Int)(h:x≤1099511627776):fitI x=((x.toNat:Nat):Int):=by
 unfold fitI;split
 ·omega
 ·rw[if_neg (by omega)];omega
theorem ZAW(h:Nat)(h0:1≤h)(h1:h≤1073741824)(t:Int)(ht:0≤t∧t≤1099511627776)(b6:Zam):∀(m fu p a:Nat),p<2 ^ m→m+1≤fu→a≤2199023255552→p≤1099511627776 →
  Zcl (h:Int) b6 fu t ⟨(p:Int),(a:Int)⟩=some ⟨((p / 2 ^ ((t-(a:Int)).toNat / h):Nat):Int),(a:Int)+(((t-(a:Int)).toNat / h*h:Nat):Int)⟩:=by
 intro m;have sub:∀a:Nat,a≤2199023255552→Zli t (a:Int)=t-(a:Int):=fun a ha=>by
  exact ZmP (by omega) (by omega)
 have last:∀(a:Nat),a≤2199023255552→t-(a:Int)≥(h:Int)→Zli t (Int.tmod (t-(a:Int)) (h:Int))=(a:Int)+(((t-(a:Int)).toNat / h*h:Nat):Int):=fun a ha hd=>by
  obtain⟨d,hd2⟩ : ∃d:Nat,t-(a:Int)=(d:Int):=⟨(t-(a:Int)).toNat,by omega⟩;have hd4:t=(d:Int)+(a:Int):=by omega
  rw[hd2,Int.toNat_natCast,←Int.ofNat_tmod];have hm:d % h≤d:=Nat.mod_le _ _;have hdm:=Nat.div_add_mod d h;rw[Nat.mul_comm]at hdm;have e:Zli t ((d % h:Nat):Int)=t-((d % h:Nat):Int):=by
   exact ZmP (by omega) (by omega)
  rw[e];generalize d / h*h=q at *
  omega
 induction m with
 |zero=>
  intro fu p a hp hf ha hp2;obtain⟨fu,rfl⟩ : ∃x,fu=x+1:=⟨fu-1,by omega⟩;have hp0:p=0:=by simpa using hp
  subst hp0;unfold Zcl;simp only[Zal,sub a ha];rw[if_neg (by omega),Nat.zero_div];by_cases hd:t-(a:Int)≥(h:Int)
  ·rw[if_pos hd,Zay (by omega),last a ha hd]
  ·have h0:(t-(a:Int)).toNat / h=0:=Nat.div_eq_of_lt (by omega);rw[if_neg hd,h0];simp
 |succ m ih=>
  intro fu p a hp hf ha hp2;obtain⟨fu,rfl⟩ : ∃x,fu=x+1:=⟨fu-1,by omega⟩;unfold Zcl;simp only[Zal,sub a ha];by_cases hp0:(p:Int)>0
  ·rw[if_pos hp0];by_cases hd:t-(a:Int)≥(h:Int)
   ·rw[if_pos hd];have e1:IntKind.wrap .i64 (Int.tdiv (p:Int) 2)=((p / 2:Nat):Int):=by
     have:Int.tdiv (p:Int) 2=((p / 2:Nat):Int):=(Int.ofNat_tdiv p 2).symm;rw[this];exact ZgM (by omega) (by omega)
    have e2:Zaw (a:Int) (h:Int)=((a+h:Nat):Int):=by rw[ZfP (by omega) (by omega)];omega
    rw[e1,e2,ih fu (p / 2) (a+h) (by rw[Nat.pow_succ]at hp;omega) (by omega) (by omega) (by omega)];obtain⟨d,hd2⟩ : ∃d:Nat,t-(a:Int)=((d+h:Nat):Int):=⟨(t-(a:Int)).toNat-h,by omega⟩;have hd3:t-((a+h:Nat):Int)=(d:Int):=by omega
    have e3:(d+h) / h=d / h+1:=Nat.add_div_right d (by omega);rw[hd2,hd3,Int.toNat_natCast,Int.toNat_natCast,e3,Nat.pow_succ,Nat.mul_comm (2 ^ (d / h)) 2,←Nat.div_div_eq_div_mul,Nat.add_mul,Nat.one_mul];congr 2;generalize d / h*h=q;omega
   ·have h0:(t-(a:Int)).toNat / h=0:=Nat.div_eq_of_lt (by omega);rw[if_neg hd,if_neg hd,h0];simp
  ·have hp0:p=0:=by omega
   subst hp0;rw[if_neg hp0,Nat.zero_div];by_cases hd:t-(a:Int)≥(h:Int)
   ·rw[if_pos hd,Zay (by omega),last a ha hd]
   ·rw[if_neg hd,Nat.div_eq_of_lt (by omega)];simp
theorem ZBD(s:Zam)(h now:Int):Zfg s h now=some (decS s h now):=by
 have hs:=ZyZ h;have hf:=Zlc s.fAt;have hp:=Zlc s.fPoints;have hn:=Zlc now;obtain⟨k,hk⟩ : ∃k:Nat,ZnF h=k:=⟨(ZnF h).toNat,by omega⟩;obtain⟨a,ha⟩ : ∃k:Nat,fitI s.fAt=k:=⟨(fitI s.fAt).toNat,by omega⟩;obtain⟨p,hp'⟩ : ∃k:Nat,fitI s.fPoints=k:=⟨(fitI s.fPoints).toNat,by omega⟩;have main:∀b:Zam,Zdm now s b (ZnF h)=some (decS s h now):=fun b=>by
  unfold Zdm decS ZsF;simp only[ZpM,Option.bind_some,hk,ha,hp',Int.toNat_natCast];rw[ZAW k (by omega) (by omega) (fitI now) hn b 41 1000000 p a (by omega) (by omega) (by omega) (by omega)]
 unfold Zfg Zea;simp only[Zal];by_cases h1:h<1
 ·rw[if_pos h1,if_neg (by omega)];have:=main ⟨0,0⟩;rwa [show ZnF h=1 by unfold ZnF;rw[if_pos h1]]at this
 ·rw[if_neg h1];by_cases h2:h>1073741824
  ·rw[if_pos h2];have:=main ⟨0,0⟩;rwa [show ZnF h=1073741824 by unfold ZnF;rw[if_neg h1,if_pos h2]]at this
  ·rw[if_neg h2];have:=main ⟨0,0⟩;rwa [show ZnF h=h by unfold ZnF;rw[if_neg h1,if_neg h2]]at this
theorem ZAI(s:Zam)(h now:Int):ZjY s h now=some (decS s h now):=by
 have hs:=ZyZ h;have hf:=Zlc s.fAt;have hp:=Zlc s.fPoints;have hn:=Zlc now;unfold ZjY ZoM Zqh;have e1:(if(1073741824:Int)<(if(1:Int)>h then(1:Int)else h)then(1073741824:Int)else(if(1:Int)>h then(1:Int)else h))=ZnF h:=by
  unfold ZnF
  repeat' split
  all_goals omega
 have e2:(if(1099511627776:Int)<(if(0:Int)>s.fPoints then(0:Int)else s.fPoints)then(1099511627776:Int)else(if(0:Int)>s.fPoints then(0:Int)else s.fPoints))=fitI s.fPoints:=by
  unfold fitI
  repeat' split
  all_goals omega
 have e0:∀n,0≤n→n≤1099511627776→fitI n=n:=fun n h1 h2=>by unfold fitI;rw[if_neg (by omega),if_neg (by omega)]
 have e3:Zli (fitI now) (fitI s.fAt)=fitI now-fitI s.fAt:=ZmP (by omega) (by omega);simp only[ZnV,Option.bind_some,e1,e2,e0 (fitI s.fAt) hf.1 hf.2,e3];obtain⟨k,hk⟩ : ∃k:Nat,ZnF h=k:=⟨(ZnF h).toNat,by omega⟩;obtain⟨a,ha⟩ : ∃k:Nat,fitI s.fAt=k:=⟨(fitI s.fAt).toNat,by omega⟩;obtain⟨p,hp'⟩ : ∃k:Nat,fitI s.fPoints=k:=⟨(fitI s.fPoints).toNat,by omega⟩;obtain⟨d,hd⟩ : ∃d:Nat,(fitI now-fitI s.fAt).toNat=d:=⟨_,rfl⟩;have hd2:fitI (fitI now-fitI s.fAt)=(d:Int):=by rw[ZFI _ (by omega),hd]
 have hdk:d / k≤d:=Nat.div_le_self _ _;have e4:IntKind.wrap .i64 (Int.tdiv (d:Int) (k:Int))=((d / k:Nat):Int):=by
  rw[←Int.ofNat_tdiv];exact ZgM (Int.natCast_nonneg _) (by omega)
 have hnn:(0:Int)≤((d / k:Nat):Int):=Int.natCast_nonneg _;rw[hd2,hk,e4,Zay (by omega),Zay (by split<;>omega),hp',ha];have hl:ZsF s h now=d / k:=by unfold ZsF;rw[hd,hk,Int.toNat_natCast]
 unfold decS;rw[hl,hp',ha,hk,Int.toNat_natCast,Int.toNat_natCast];have hdm:d / k*k≤d:=Nat.div_mul_le_self d k;have e5:Zro ((d / k:Nat):Int) (k:Int)=((d / k*k:Nat):Int):=by
  unfold Zro;rw[←Int.natCast_mul];exact ZgM (by omega) (by omega)
 have e6:Zaw (a:Int) ((d / k*k:Nat):Int)=(a:Int)+((d / k*k:Nat):Int):=ZfP (by omega) (by omega);rw[e5,e6];congr 2
 -- the points
 have e7:∀c:Nat,c≤41→Int.fdiv (p:Int) (2 ^ (min ((c:Nat):Int).toNat (IntKind.bits .i64)))=((p / 2 ^ c:Nat):Int):=fun c hc=>by
  have:min ((c:Nat):Int).toNat (IntKind.bits .i64)=c:=by
   rw[Int.toNat_natCast];show min c 64=c;omega
  rw[this];have h2:((2:Int) ^ c)=((2 ^ c:Nat):Int):=by simp
  rw[h2,Int.fdiv_eq_tdiv_of_nonneg (by omega) (Int.natCast_nonneg _)];exact(Int.ofNat_tdiv p (2 ^ c)).symm
 by_cases hc:(41:Int)<((d / k:Nat):Int)
 ·rw[if_pos hc];have:=e7 41 (by omega);rw[show (((41:Nat):Int))=(41:Int)from rfl]at this;rw[this];have h1:p / 2 ^ 41=0:=Nat.div_eq_of_lt (by omega);have h2:p / 2 ^ (d / k)=0:=Nat.div_eq_of_lt (Nat.lt_of_lt_of_le (show p<2 ^ 41 by omega) (Nat.pow_le_pow_right (by omega) (by omega)));rw[h1,h2]
 ·rw[if_neg hc,e7 (d / k) (by omega)]
theorem ZFQ(s:Zam)(h now:Int):0≤(decS s h now).fPoints∧(decS s h now).fPoints≤1099511627776:=by
 have hp:=Zlc s.fPoints;unfold decS;have:=Nat.div_le_self (fitI s.fPoints).toNat (2 ^ ZsF s h now);constructor
 ·exact Int.natCast_nonneg _
 ·show (((fitI s.fPoints).toNat / 2 ^ ZsF s h now:Nat):Int)≤_;omega
def ZDh(s:Zam)(points h now:Int):Zam:=⟨fitI ((decS s h now).fPoints+points * 65536),(decS s h now).fAt⟩
theorem ZBr(s:Zam)(points h now:Int)(h0:0≤points)(h1:points≤100):ZiE s points h now=some (ZDh s points h now)∧Zgo s points h now=some (ZDh s points h now):=by
 have hd:=ZFQ s h now;have e0:∀n,0≤n→n≤1099511627776→fitI n=n:=fun n h1 h2=>by unfold fitI;rw[if_neg (by omega),if_neg (by omega)]
 have em:Zro points 65536=points * 65536:=by unfold Zro;exact ZgM (by omega) (by omega)
 have ea:Zaw (decS s h now).fPoints (points * 65536)=(decS s h now).fPoints+points * 65536:=ZfP (by omega) (by omega);constructor
 ·unfold ZiE Zqi ZkR ZDh;simp only[ZAI,ZnV,Option.bind_some,Zal,e0 points h0 (by omega),e0 65536 (by omega) (by omega),e0 _ hd.1 hd.2];have hc:(ZiE s points h now=ZiE s points h now):=rfl;by_cases hp:points>0
  ·rw[if_pos hp,Zay (by omega)];have hq:¬((65536:Int)>IntKind.wrap .i64 (Int.tdiv 1099511627776 points)):=by
    obtain⟨n,rfl⟩ : ∃n:Nat,points=n:=⟨points.toNat,by omega⟩;have e:Int.tdiv (1099511627776:Int) (n:Int)=((1099511627776 / n:Nat):Int):=(Int.ofNat_tdiv 1099511627776 n).symm;have hle:1099511627776 / n≤1099511627776:=Nat.div_le_self _ _;have hge:1099511627776 / 100≤1099511627776 / n:=Nat.div_le_div_left (by omega) (by omega);rw[e,ZgM (by omega) (by omega)];omega
   rw[if_neg hq];simp only[Option.bind_some,em,e0 (points * 65536) (by omega) (by omega),ea]
  ·rw[if_neg hp];simp only[Option.bind_some,em,e0 (points * 65536) (by omega) (by omega),ea]
 ·unfold Zgo ZDh;simp only[ZBD,ZpM,Option.bind_some,Zal,e0 points h0 (by omega)];rw[if_neg (by omega),em,ea]
theorem ZxP(s:Zam):∃r,Zga s=some r∧ZbZ s=some r:=by
 unfold Zga ZbZ;simp only[Zal];by_cases h:s.fPoints<0
 ·rw[if_pos (by omega),if_pos h];exact⟨_,rfl,rfl⟩
 ·rw[if_neg (by omega),if_neg h];exact⟨_,rfl,rfl⟩
def Zsa(s:Zam):Int:=(Zga s).getD 0
theorem ZuK(s:Zam):Zga s=some (Zsa s)∧ZbZ s=some (Zsa s):=by
 obtain⟨r,h1,h2⟩:=ZxP s;unfold Zsa;rw[h1,h2];exact⟨rfl,rfl⟩
def ZnA(s:Zam)(limit:Int):Bool:=decide (s.fPoints≥(if limit<1 then 1 else if limit>16777216 then 16777216 else limit) * 65536)
theorem Zuh(s:Zam)(limit:Int)(h0:0≤s.fPoints)(h1:s.fPoints≤1099511627776):ZhE s limit=some (ZnA s limit)∧Zer s limit=some (ZnA s limit):=by
 obtain⟨p,hp⟩ : ∃k:Nat,s.fPoints=k:=⟨s.fPoints.toNat,by omega⟩;have hw:ZbZ s=some ((p / 65536:Nat):Int):=by
  unfold ZbZ;simp only[Zal];have e:Int.tdiv (p:Int) 65536=((p / 65536:Nat):Int):=(Int.ofNat_tdiv p 65536).symm;rw[if_neg (by omega),hp,e,ZgM (by omega) (by omega)]
 have key:∀L:Int,1≤L→L≤16777216→decide (((p / 65536:Nat):Int)≥L)=decide (s.fPoints≥L * 65536):=fun L h1 h2=>by
  rw[hp];apply decide_eq_decide.2;omega
 have hcode:(if(16777216:Int)<(if(1:Int)>limit then(1:Int)else limit)then(16777216:Int)else(if(1:Int)>limit then(1:Int)else limit))=(if limit<1 then 1 else if limit>16777216 then 16777216 else limit):=by
  repeat' split
  all_goals omega
 have hr:1≤(if limit<1 then(1:Int)else if limit>16777216 then 16777216 else limit)∧(if limit<1 then(1:Int)else if limit>16777216 then 16777216 else limit)≤16777216:=by
  repeat' split
  all_goals omega
 have em:∀L:Int,1≤L→L≤16777216→Zro L 65536=L * 65536:=fun L h1 h2=>by unfold Zro;exact ZgM (by omega) (by omega)
 constructor
 ·unfold ZhE ZnA;rw[hcode,em _ hr.1 hr.2]
 ·unfold Zer ZdG ZnA;simp only[Zal,hw,Option.bind_some];by_cases c1:limit<1
  ·rw[if_pos c1,if_pos c1,if_neg (by omega),key 1 (by omega) (by omega)]
  ·rw[if_neg c1,if_neg c1];by_cases c2:limit>16777216
   ·rw[if_pos c2,if_pos c2,key 16777216 (by omega) (by omega)]
   ·rw[if_neg c2,if_neg c2,key limit (by omega) (by omega)]
def penI(k:Int):Int:=(ZfC k).getD 0
theorem ZBJ(k:Int):ZfC k=some (penI k)∧Zdz k=some (penI k)∧0≤penI k∧penI k≤100:=by
 obtain⟨q,h1,h2,h3,h4⟩:=ZAv k;unfold penI;rw[h1,h2];exact⟨rfl,rfl,h3,h4⟩
def Zih(c:ZaB)(x:ZaA)(p:Zaa):Zaa:=⟨p.fEnd,p.fIn,p.fSince,ZDh p.fScore (penI x.fNum) c.fHalf x.fNow,p.fPing,p.fWork⟩
theorem Zxq(c:ZaB)(x:ZaA)(p:Zaa):ZiW p (penI x.fNum) c.fHalf x.fNow=some (Zih c x p)∧ZeM p (penI x.fNum) c.fHalf x.fNow=some (Zih c x p):=by
 obtain⟨_,_,h3,h4⟩:=ZBJ x.fNum;obtain⟨h1,h2⟩:=ZBr p.fScore (penI x.fNum) c.fHalf x.fNow h3 h4;unfold ZiW ZeM;rw[h1,h2];exact⟨rfl,rfl⟩
theorem ZyX(c:ZaB)(x:ZaA)(p:Zaa):0≤(Zih c x p).fScore.fPoints∧(Zih c x p).fScore.fPoints≤1099511627776:=Zlc _
def ofP(l:List Zaa)(n:Zas)(b:Bool):List Zaa:=l.filter fun p=>hasS n p.fEnd.fAddr==b
theorem ZCR(p:Zas)(a:Zaj)(hp:p.fAddr.ok)(ha:a.ok):ZjE p a=some (hasS p a):=by
 unfold hasS;cases hr:ZiR p with
 |true=>
  have hrn:=(ZBw hp).1 hr;rw[ZGt p a hrn ha,Bool.true_and]
 |false=>
  unfold ZjE;simp only[ZoR p hp,hr,Option.bind_some,cond_false,Bool.false_and]
theorem ZxH(l:List Zaa)(n:Zas)(hn:n.fAddr.ok)(hl:l.length≤1000000)(hok:∀p∈l,p.fEnd.fAddr.ok):Zku l n=some (ofP l n true,ofP l n false):=by
 have hL:l.length≤maxLen:=by unfold maxLen;omega
 have main:∀fu (i:Nat) w u,i≤l.length→l.length-i<fu→w=ofP (l.take i) n true→u=ofP (l.take i) n false→Zem fu l (l.length:Int) (i:Int) w u n=some (ofP l n true,ofP l n false):=by
  intro fu;induction fu with
  |zero=>intro i w u _ h;omega
  |succ fu ih=>
   intro i w u hi hf hw hu;unfold Zem;simp only[Zal];by_cases h:i<l.length
   ·have hm:=Zhd l Zaa.d i h;rw[if_pos (by omega),Zay ⟨by omega,by omega⟩,add1 h hL];simp only[Int.toNat_natCast,ZCR n _ hn (hok _ hm),Option.bind_some];have hst:∀b,ofP (l.take (i+1)) n b=ofP (l.take i) n b++[l.getD i Zaa.d].filter (fun p=>hasS n p.fEnd.fAddr==b):=fun b=>by
     unfold ofP;rw[List.take_succ_eq_append_getElem h,List.filter_append,Zdk l _ i h]
    have hlen:∀b,(ofP (l.take i) n b).length≤1000000:=fun b=>by
     have:=List.length_filter_le (fun p:Zaa=>hasS n p.fEnd.fAddr==b) (l.take i);simp only[List.length_take]at this;unfold ofP;omega
    have hlw:=hlen true;have hlu:=hlen false;cases hq:hasS n (l.getD i Zaa.d).fEnd.fAddr with
    |true=>
     simp only[cond_true];rw[Zay ⟨by rw[hw];simp;omega,by rw[hw];simp[maxLen];omega⟩];refine ih (i+1) _ _ (by omega) (by omega) ?_ ?_
     ·rw[hst true,List.filter_cons_of_pos (by rw[hq];rfl),hw];rfl
     ·rw[hst false,List.filter_cons_of_neg (by rw[hq];decide),hu];simp
    |false=>
     simp only[cond_false];rw[Zay ⟨by rw[hu];simp;omega,by rw[hu];simp[maxLen];omega⟩];refine ih (i+1) _ _ (by omega) (by omega) ?_ ?_
     ·rw[hst true,List.filter_cons_of_neg (by rw[hq];decide),hw];simp
     ·rw[hst false,List.filter_cons_of_pos (by rw[hq];rfl),hu];rfl
   ·rw[if_neg (by omega),hw,hu];have:i=l.length:=by omega
    rw[this,List.take_length]
 exact main _ 0 [] [] (by omega) (by omega) rfl rfl
theorem Zzk(l:List Zaa)(n:Zas)(b:Bool)(hn:n.fAddr.ok)(hl:l.length≤1000000)(hok:∀p∈l,p.fEnd.fAddr.ok):Zfy l n b=some (ofP l n b):=by
 have hL:l.length≤maxLen:=by unfold maxLen;omega
 have main:∀fu (i:Nat) w,i≤l.length→l.length-i<fu→w=ofP (l.take i) n b→ZcT l b fu (i:Int) w n=some (ofP l n b):=by
  intro fu;induction fu with
  |zero=>intro i w _ h;omega
  |succ fu ih=>
   intro i w hi hf hw;unfold ZcT;simp only[Zal];by_cases h:i<l.length
   ·have hm:=Zhd l Zaa.d i h;rw[if_pos (by omega),Zay ⟨by omega,by omega⟩,add1 h hL];simp only[Int.toNat_natCast,ZDG n _ hn (hok _ hm),Option.bind_some];have hst:ofP (l.take (i+1)) n b=w++[l.getD i Zaa.d].filter (fun p=>hasS n p.fEnd.fAddr==b):=by
     rw[hw];unfold ofP;rw[List.take_succ_eq_append_getElem h,List.filter_append,Zdk l _ i h]
    have hwl:w.length≤1000000:=by
     rw[hw];have:=List.length_filter_le (fun p:Zaa=>hasS n p.fEnd.fAddr==b) (l.take i);simp only[List.length_take]at this;unfold ofP;omega
    cases hq:hasS n (l.getD i Zaa.d).fEnd.fAddr==b with
    |true=>
     rw[List.filter_cons_of_pos (by rw[hq])]at hst;simp only[cond_true];rw[Zay ⟨by simp;omega,by simp[maxLen];omega⟩];exact ih (i+1) _ (by omega) (by omega) hst.symm
    |false=>
     rw[List.filter_cons_of_neg (by rw[hq];decide)]at hst;simp only[cond_false];refine ih (i+1) _ (by omega) (by omega) ?_;rw[hst];simp
   ·rw[if_neg (by omega),hw];have:i=l.length:=by omega
    rw[this,List.take_length]
 exact main _ 0 [] (by omega) (by omega) rfl
theorem ZqM(l:List Zaa)(n:Zas)(b:Bool):(ofP l n b).length≤l.length:=List.length_filter_le _ _
def cntP(l:List Zaa)(b:Bool):Int:=((l.countP fun p=>p.fIn==b:Nat):Int)
theorem Zsb(l:List Zaa)(b:Bool)(hl:l.length≤maxLen):ZhS l b=some (cntP l b):=by
 simp only[ZhS];have:=ZqQ l Zaa.d (fun p=>p.fIn==b) hl (fun fu n i=>ZdL b fu n l (l.length:Int) i) (fun fu i n hi=>by
   simp only[ZdL,Zal];rw[if_pos (by omega),Zay ⟨by omega,by omega⟩];simp only[Int.toNat_natCast];cases((l.getD i Zaa.d).fIn==b)<;>rfl) (fun fu n=>by
   simp only[ZdL,Zal];rw[if_neg (by omega)]) ((((l.length:Nat):Int)-(0:Int)).toNat+2) 0 0 (by omega) (by omega) (by omega)
 simp only[Int.natCast_zero,List.drop_zero]at this;rw[this];unfold cntP;congr 2;omega
theorem ZmS(l:List Zaa)(b:Bool)(hl:l.length≤maxLen):ZcU l b=some (cntP l b):=by
 simp only[ZcU];have:=ZqQ l Zaa.d (fun p=>p.fIn==b) hl (fun fu n i=>ZbL l b fu n i) (fun fu i n hi=>by
   simp only[ZbL,Zal];rw[if_pos (by omega),Zay ⟨by omega,by omega⟩];simp only[Int.toNat_natCast];cases((l.getD i Zaa.d).fIn==b)<;>rfl) (fun fu n=>by
   simp only[ZbL,Zal];rw[if_neg (by omega)]) ((((l.length:Nat):Int)-(0:Int)).toNat+2) 0 0 (by omega) (by omega) (by omega)
 simp only[Int.natCast_zero,List.drop_zero]at this;rw[this];unfold cntP;congr 2;omega
theorem Zlh(l:List Zaa)(b:Bool):0≤cntP l b∧cntP l b≤(l.length:Int):=by
 unfold cntP;have:=List.countP_le_length (p:=fun p:Zaa=>p.fIn==b) (l:=l);omega
def ZkB(l:List Zaa):List Zag:=l.map (·.fEnd)
theorem Zut(l:List Zaa)(hl:l.length≤1000000):ZiM l=some (ZkB l):=by
 have hL:l.length≤maxLen:=by unfold maxLen;omega
 have main:∀fu (i:Nat) w,i≤l.length→l.length-i<fu→w=ZkB (l.take i)→ZfE fu l (l.length:Int) (i:Int) w=some (ZkB l):=by
  intro fu;induction fu with
  |zero=>intro i w _ h;omega
  |succ fu ih=>
   intro i w hi hf hw;unfold ZfE;simp only[Zal];by_cases h:i<l.length
   ·have hwl:w.length≤1000000:=by rw[hw];unfold ZkB;simp;omega
    rw[if_pos (by omega),Zay ⟨by omega,by omega⟩,add1 h hL,Zay ⟨by simp;omega,by simp[maxLen];omega⟩];refine ih (i+1) _ (by omega) (by omega) ?_;rw[hw];unfold ZkB;rw[List.take_succ_eq_append_getElem h,List.map_append,Int.toNat_natCast,Zdk l _ i h];rfl
   ·rw[if_neg (by omega),hw];have:i=l.length:=by omega
    rw[this,List.take_length]
 exact main _ 0 [] (by omega) (by omega) rfl
def addT(a b:Int):Int:=fitI (fitI a+fitI b)
theorem ZBs(a b:Int):ZkR a b=some (addT a b)∧Zgs a b=some (addT a b):=by
 have h1:=Zlc a;have h2:=Zlc b;have e:Zaw (fitI a) (fitI b)=fitI a+fitI b:=ZfP (by omega) (by omega);constructor
 ·unfold ZkR addT;simp only[ZnV,Option.bind_some,e]
 ·unfold Zgs addT;simp only[ZpM,Option.bind_some,e]
abbrev Prs:=List Zaa
def ltP(x y:Zaa):Bool:=decide (cmpE x.fEnd y.fEnd<0)
theorem Zoi{x y:Zaa}:ltP x y=true↔cmpE x.fEnd y.fEnd<0:=by unfold ltP;simp
theorem ZBW{x y:Zaa}:ltP x y=false↔¬cmpE x.fEnd y.fEnd<0:=by unfold ltP;simp
theorem Zyb{x y z:Zaa}(h1:ltP x y=false)(h2:ltP y z=false):ltP x z=false:=by
 rw[ZBW]at *
 intro h;have e:cmpE x.fEnd y.fEnd=0∨0<cmpE x.fEnd y.fEnd:=by omega
 rcases e with e|e
 ·rw[Zqx.1 e]at h;exact h2 h
 ·exact h2 (ZuE (Zqy.1 e) h)
theorem ZFz{x y z:Zaa}(h1:ltP z x=true)(h2:ltP y x=false):ltP z y=true:=by
 cases h:ltP z y with
 |true=>rfl
 |false=>rw[Zyb h h2]at h1;cases h1
def mrg:Prs→Prs→Prs | [],ys=>ys|x :: xs,[]=>x :: xs|x :: xs,y :: ys=>if ltP y x=true then y :: mrg (x :: xs) ys else x :: mrg xs (y :: ys)
termination_by xs ys=>xs.length+ys.length
theorem Zof(xs:Prs):mrg xs []=xs:=by cases xs<;>simp[mrg]
theorem ZiS(xs:Prs):mrg [] xs=xs:=by simp[mrg]
theorem ZsB{x y:Zaa}(xs ys:Prs)(h:ltP y x=true):mrg (x :: xs) (y :: ys)=y :: mrg (x :: xs) ys:=by rw[mrg,if_pos h]
theorem ZsC{x y:Zaa}(xs ys:Prs)(h:ltP y x=false):mrg (x :: xs) (y :: ys)=x :: mrg xs (y :: ys):=by rw[mrg,if_neg (by simp[h])]
theorem Zwy:∀(n:Nat)(x1 x2 y1 y2:Prs),x1.length+y1.length≤n→(∀y∈y1,∀x∈x2,ltP y x=true)→(∀x∈x1,∀y∈y2,ltP y x=false)→mrg (x1++x2) (y1++y2)=mrg x1 y1++mrg x2 y2:=by
 intro n;induction n with
 |zero=>
  intro x1 x2 y1 y2 h _ _;obtain rfl:=List.eq_nil_of_length_eq_zero (show x1.length=0 by omega);obtain rfl:=List.eq_nil_of_length_eq_zero (show y1.length=0 by omega);simp[ZiS]
 |succ n ih=>
  intro x1 x2 y1 y2 h h1 h2;cases x1 with
  |nil=>
   cases y1 with
   |nil=>simp[ZiS]
   |cons y y1=>
    cases x2 with
    |nil=>simp[ZiS]
    |cons x x2=>
     simp only[List.length_cons,List.length_nil]at h;rw[List.nil_append,List.cons_append,ZsB _ _ (h1 y (by simp) x (by simp)),ZiS];have:=ih [] (x :: x2) y1 y2 (by simp only[List.length_nil];omega) (fun y' hy'=>h1 y' (by simp[hy'])) (by simp);rw[List.nil_append,ZiS]at this;rw[this];rfl
  |cons x x1=>
   cases y1 with
   |nil=>
    cases y2 with
    |nil=>simp[Zof]
    |cons y y2=>
     simp only[List.length_cons,List.length_nil]at h;rw[List.nil_append,List.cons_append,ZsC _ _ (h2 x (by simp) y (by simp)),Zof];have:=ih x1 x2 [] (y :: y2) (by simp only[List.length_nil];omega) (by simp) (fun x' hx'=>h2 x' (by simp[hx']));rw[List.nil_append,Zof]at this;rw[this];rfl
   |cons y y1=>
    simp only[List.length_cons]at h;rw[List.cons_append,List.cons_append];cases h3:ltP y x with
    |true=>
     rw[ZsB _ _ h3,ZsB _ _ h3,←List.cons_append,ih (x :: x1) x2 y1 y2 (by simp only[List.length_cons];omega) (fun y' hy'=>h1 y' (by simp[hy'])) h2];rfl
    |false=>
     have:=ih x1 x2 (y :: y1) y2 (by simp only[List.length_cons];omega) h1 (fun x' hx'=>h2 x' (by simp[hx']));rw[List.cons_append]at this;rw[ZsC _ _ h3,ZsC _ _ h3,this];rfl
theorem ZFw:∀(n:Nat)(a b:Prs),a.length+b.length≤n→(mrg a b).length=a.length+b.length:=by
 intro n;induction n with
 |zero=>
  intro a b h;obtain rfl:=List.eq_nil_of_length_eq_zero (show a.length=0 by omega);simp[ZiS]
 |succ n ih=>
  intro a b h;cases a with
  |nil=>simp[ZiS]
  |cons x a=>
   cases b with
   |nil=>simp[Zof]
   |cons y b=>
    simp only[List.length_cons]at h ⊢;cases h3:ltP y x with
    |true=>rw[ZsB _ _ h3,List.length_cons,ih _ _ (by simp only[List.length_cons];omega)];simp only[List.length_cons];omega
    |false=>rw[ZsC _ _ h3,List.length_cons,ih _ _ (by simp only[List.length_cons];omega)];simp only[List.length_cons];omega
theorem ZBT:∀(n:Nat)(a b:Prs),a.length+b.length≤n→∀z∈mrg a b,z∈a∨z∈b:=by
 intro n;induction n with
 |zero=>
  intro a b h z hz;obtain rfl:=List.eq_nil_of_length_eq_zero (show a.length=0 by omega);rw[ZiS]at hz;exact .inr hz
 |succ n ih=>
  intro a b h z hz;cases a with
  |nil=>rw[ZiS]at hz;exact .inr hz
  |cons x a=>
   cases b with
   |nil=>rw[Zof]at hz;exact .inl hz
   |cons y b=>
    simp only[List.length_cons]at h;cases h3:ltP y x with
    |true=>
     rw[ZsB _ _ h3]at hz;rcases List.mem_cons.1 hz with hz|hz
     ·exact .inr (by simp[hz])
     ·rcases ih _ _ (by simp only[List.length_cons];omega) z hz with q|q
      ·exact .inl q
      ·exact .inr (by simp[q])
    |false=>
     rw[ZsC _ _ h3]at hz;rcases List.mem_cons.1 hz with hz|hz
     ·exact .inl (by simp[hz])
     ·rcases ih _ _ (by simp only[List.length_cons];omega) z hz with q|q
      ·exact .inl (by simp[q])
      ·exact .inr q
def SrtP(l:Prs):Prop:=l.Pairwise fun x y=>ltP y x=false
theorem ZDQ{x y:Zaa}(h:ltP x y=true):ltP y x=false:=by
 rw[Zoi]at h;rw[ZBW];intro h2;have:=Zqy.2 h2;omega
theorem ZFu:∀(n:Nat)(a b:Prs),a.length+b.length≤n→SrtP a→SrtP b→SrtP (mrg a b):=by
 intro n;induction n with
 |zero=>
  intro a b h ha hb;obtain rfl:=List.eq_nil_of_length_eq_zero (show a.length=0 by omega);rw[ZiS];exact hb
 |succ n ih=>
  intro a b h ha hb;cases a with
  |nil=>rw[ZiS];exact hb
  |cons x a=>
   cases b with
   |nil=>rw[Zof];exact ha
   |cons y b=>
    simp only[List.length_cons]at h;have ha':=List.pairwise_cons.1 ha;have hb':=List.pairwise_cons.1 hb;cases h3:ltP y x with
    |true=>
     rw[ZsB _ _ h3];refine List.pairwise_cons.2 ⟨fun z hz=>?_,ih _ _ (by simp only[List.length_cons];omega) ha hb'.2⟩;rcases ZBT _ _ _ (Nat.le_refl _) z hz with q|q
     ·have:ltP x y=false:=ZDQ h3;rcases List.mem_cons.1 q with q|q
      ·rw[q];exact this
      ·exact Zyb (ha'.1 z q) this
     ·exact hb'.1 z q
    |false=>
     rw[ZsC _ _ h3];refine List.pairwise_cons.2 ⟨fun z hz=>?_,ih _ _ (by simp only[List.length_cons];omega) ha'.2 hb⟩;rcases ZBT _ _ _ (Nat.le_refl _) z hz with q|q
     ·exact ha'.1 z q
     ·rcases List.mem_cons.1 q with q|q
      ·rw[q];exact h3
      ·exact Zyb (hb'.1 z q) h3
def ZnI(l:Prs):Prs:=l.foldl (fun o x=>mrg o [x]) []
theorem Zqb(l:Prs)(x:Zaa):ZnI (l++[x])=mrg (ZnI l) [x]:=by unfold ZnI;rw[List.foldl_append];rfl
theorem ZBZ(l:Prs):(ZnI l).length=l.length:=by
 have:∀n,n≤l.length→(ZnI (l.take n)).length=n:=by
  intro n;induction n with
  |zero=>intro _;simp[ZnI]
  |succ n ih=>
   intro h;rw[List.take_succ_eq_append_getElem (show n<l.length by omega),Zqb,ZFw _ _ _ (Nat.le_refl _),ih (by omega)];rfl
 have h:=this l.length (Nat.le_refl _);rwa [List.take_length]at h
theorem ZwF(l:Prs):SrtP (ZnI l):=by
 have:∀n,n≤l.length→SrtP (ZnI (l.take n)):=by
  intro n;induction n with
  |zero=>intro _;simp[ZnI,SrtP]
  |succ n ih=>
   intro h;rw[List.take_succ_eq_append_getElem (show n<l.length by omega),Zqb];exact ZFu _ _ _ (Nat.le_refl _) (ih (by omega)) (by simp[SrtP])
 have h:=this l.length (Nat.le_refl _);rwa [List.take_length]at h
theorem ZFv{o1 o2:Prs}{x:Zaa}(h1:∀y∈o1,ltP x y=false)(h2:∀y∈o2,ltP x y=true):mrg (o1++o2) [x]=o1++x :: o2:=by
 have a:=Zwy _ o1 o2 [x] [] (Nat.le_refl _) (fun y hy z hz=>by rw[List.mem_singleton.1 hy];exact h2 z hz) (by simp);have b:=Zwy _ o1 [] [] [x] (Nat.le_refl _) (by simp) (fun z hz y hy=>by rw[List.mem_singleton.1 hy];exact h1 z hz);simp only[List.append_nil,List.nil_append,Zof,ZiS]at a b;rw[a,b];simp
theorem ZDC(o:Prs)(x:Zaa)(hs:SrtP o)(hl:o.length≤900000):Zgm o x=some (mrg o [x]):=by
 have hm:o.length≤maxLen:=by unfold maxLen;omega
 have main:∀(fu i:Nat),i≤o.length→o.length-i<fu→(∀y∈o.take i,ltP x y=false)→Zde o fu (i:Int) x=some (mrg o [x]):=by
  intro fu;induction fu with
  |zero=>intro _ _ h;omega
  |succ fu ih=>
   intro i hi hf hall;unfold Zde;have fin:(∀y∈o.drop i,ltP x y=true)→o.take i++[x]++o.drop i=mrg o [x]:=fun h=>by
    have:=ZFv hall h;rw[List.take_append_drop]at this;rw[this];simp
   have lt:(o.take i).length=i:=by simp;omega
   have ld:(o.drop i).length=o.length-i:=by simp
   have n1:(o.take i).length * 80≤140737488355328∧(o.take i).length≤maxLen:=by rw[lt];unfold maxLen;omega
   have n2:(o.take i++[x]).length * 80≤140737488355328∧(o.take i++[x]).length≤maxLen:=by simp only[List.length_append,lt,List.length_singleton,maxLen];omega
   have n3:(o.take i++[x]++o.drop i).length * 80≤140737488355328∧(o.take i++[x]++o.drop i).length≤maxLen:=by simp only[List.length_append,lt,ld,List.length_singleton,maxLen];omega
   simp only[Zal,Int.toNat_natCast,List.nil_append,Zay n1,Zay n2,Zay n3];by_cases h:i<o.length
   ·rw[if_pos (by omega),Zay ⟨by omega,by omega⟩,ZuS,ZaL];have e1:Zaw (i:Int) 1=((i+1:Nat):Int):=add1 h hm;have hd:=ZfK o Zaa.d i h;by_cases hc:cmpE (o.getD i Zaa.d).fEnd x.fEnd≤0
    ·rw[if_pos hc,e1];refine ih (i+1) (by omega) (by omega) fun y hy=>?_;rw[List.take_succ_eq_append_getElem h,←Zdk o Zaa.d i h]at hy;rcases List.mem_append.1 hy with q|q
     ·exact hall y q
     ·rw[List.mem_singleton.1 q,ZBW];intro h2;have:=Zqy.2 h2;omega
    ·rw[if_neg hc,Zay ⟨by omega,by omega⟩,fin];intro y hy;have hx:ltP x (o.getD i Zaa.d)=true:=by rw[Zoi];exact Zqy.1 (by omega)
     rw[hd]at hy;have hp:SrtP (o.drop i):=List.Pairwise.sublist (List.drop_sublist i o) hs;rw[hd]at hp;rcases List.mem_cons.1 hy with q|q
     ·rw[q];exact hx
     ·exact ZFz hx ((List.pairwise_cons.1 hp).1 y q)
   ·rw[if_neg (by omega),Zay ⟨by omega,by omega⟩,fin];intro y hy;rw[List.drop_eq_nil_of_le (by omega)]at hy;cases hy
 unfold Zgm;have:=main ((((o.length:Nat):Int)-(0:Int)).toNat+2) 0 (by omega) (by omega) (by simp);exact this
theorem ZAo(l:Prs)(hl:l.length≤900000):ZeL l=some (ZnI l):=by
 have hm:l.length≤maxLen:=by unfold maxLen;omega
 have main:∀(fu i:Nat),i≤l.length→l.length-i<fu→Zcx l fu (i:Int) (ZnI (l.take i))=some (ZnI l):=by
  intro fu;induction fu with
  |zero=>intro _ _ h;omega
  |succ fu ih=>
   intro i hi hf;unfold Zcx;simp only[Zal,Int.toNat_natCast];by_cases h:i<l.length
   ·have e1:Zaw (i:Int) 1=((i+1:Nat):Int):=add1 h hm;rw[if_pos (by omega),Zay ⟨by omega,by omega⟩,ZDC _ _ (ZwF _) (by rw[ZBZ];simp;omega),ZaL,e1,←Zqb,Zdk l _ i h,←List.take_succ_eq_append_getElem h];exact ih (i+1) (by omega) (by omega)
   ·rw[if_neg (by omega),List.take_of_length_le (by omega)]
 unfold ZeL;have:=main ((((l.length:Nat):Int)-(0:Int)).toNat+2) 0 (by omega) (by omega);exact this
def inI(n a b:Int):Bool:=decide (a≤n)&&decide (n≤b)
def nowB(x:ZaA):Bool:=inI x.fNow 0 1099511627776
def ZhD(x:ZaA):Bool:=if x.fKind=1∨x.fKind=12∨x.fKind=13 then ZjQ x.fEnd&&nowB x else if x.fKind=2 then ZjQ x.fEnd else if x.fKind=3∨x.fKind=9 then nowB x else if x.fKind=4 then ZjQ x.fEnd&&(nowB x&&inI x.fNum 0 1073741824)else if x.fKind=5 then ZjQ x.fEnd&&(inI x.fNum 1 5&&nowB x)else if x.fKind=6 then ZiR x.fNet&&(inI x.fNum 1 1099511627776&&nowB x)else if x.fKind=7 then ZiR x.fNet else if x.fKind=8 then ZeR x.fEnd.fAddr&&nowB x else if x.fKind=10 then true else if x.fKind=11 then ZjQ x.fEnd&&inI x.fNum 1 1048576 else false
def ZxS(x:ZaA)(s:Int×Int)(p:Int):Bool:=if p=0 then ZjQ x.fEnd else if p=1 then ZiR x.fNet else if p=2 then ZeR x.fEnd.fAddr else if p=3 then nowB x else if p=4 then inI x.fNum s.1 s.2 else true
theorem ZyK(x:ZaA)(hx:x.ok)(s:Int×Int)(hs:ZjF x.fKind=some s)(p:Int):Zkd x p=some (ZxS x s p):=by
 have he:x.fEnd.ok:=hx.2.1;have hn:x.fNet.ok:=hx.2.2.1;unfold Zkd ZxS;simp only[Zco,ZAT _ he,ZoR _ hn.1,ZmN _ he.1,hs,Option.bind_some,nowB,inI,Zal]
 repeat' split
 all_goals first|rfl | (simp_all;done) | (simp_all;omega)
theorem ZyL(x:ZaA)(hx:x.ok)(s:Int×Int)(hs:ZjF x.fKind=some s)(l:List Int)(hl:l.length≤100):Zee ((((l.length:Nat):Int)-(0:Int)).toNat+2) l (l.length:Int) 0 x=some (l.all (ZxS x s)):=by
 have hL:l.length≤maxLen:=by unfold maxLen;omega
 have main:∀fu (i:Nat),i≤l.length→l.length-i<fu→Zee fu l (l.length:Int) (i:Int) x=some ((l.drop i).all (ZxS x s)):=by
  intro fu;induction fu with
  |zero=>intro i _ h;omega
  |succ fu ih=>
   intro i hi hf;unfold Zee;simp only[Zal];by_cases h:i<l.length
   ·rw[if_pos (by omega),Zay ⟨by omega,by omega⟩,ZyK x hx s hs,Option.bind_some,add1 h hL,ZfK l (0:Int) i h,List.all_cons,Int.toNat_natCast];cases ZxS x s (l.getD i 0)with
    |true=>simp only[Bool.not_true,cond_false,Bool.true_and];exact ih (i+1) (by omega) (by omega)
    |false=>rfl
   ·rw[if_neg (by omega),List.drop_of_length_le (by omega)];rfl
 exact main _ 0 (by omega) (by omega)
theorem ZCH(k:Int):∃t,ZkY k=some t∧((t.toList==(⟨#[]⟩ : ByteArray).toList) = !(decide (1≤k)&&decide (k≤13))):=by
 unfold ZkY ZlH Zqk;simp only[Option.bind_some,Zal];by_cases h0:k<0
 ·rw[if_pos h0];refine⟨_,rfl,?_⟩;rw[decide_eq_false (show ¬1≤k by omega)];simp
 ·rw[if_neg h0];by_cases h1:k≥14
  ·have h2:k≥(([(⟨#[]⟩ : ByteArray),(⟨#[97,99,99,101,112,116]⟩ : ByteArray),(⟨#[108,101,97,118,101]⟩ : ByteArray),(⟨#[100,105,97,108]⟩ : ByteArray),(⟨#[114,101,115,117,108,116]⟩ : ByteArray),(⟨#[98,108,97,109,101]⟩ : ByteArray),(⟨#[98,97,110]⟩ : ByteArray),(⟨#[117,110,98,97,110]⟩ : ByteArray),(⟨#[98,97,110,110,101,100]⟩ : ByteArray),(⟨#[116,105,99,107]⟩ : ByteArray),(⟨#[108,105,115,116]⟩ : ByteArray),(⟨#[112,111,110,103]⟩ : ByteArray),(⟨#[119,111,114,107]⟩ : ByteArray),(⟨#[108,101,97,114,110]⟩ : ByteArray)]:List ByteArray).length:Int):=h1;rw[if_pos h2];refine⟨_,rfl,?_⟩;rw[decide_eq_true (show 1≤k by omega),decide_eq_false (show ¬k≤13 by omega)];simp
  ·obtain h|h|h|h|h|h|h|h|h|h|h|h|h|h:k=0∨k=1∨k=2∨k=3∨k=4∨k=5∨k=6∨k=7∨k=8∨k=9∨k=10∨k=11∨k=12∨k=13:=by omega
   all_goals subst h;exact⟨_,rfl,by decide +kernel⟩
theorem ZAZ(x:ZaA)(hx:x.ok):Zke x=some (ZhD x):=by
 obtain⟨t,h1,h2⟩:=ZCH x.fKind;unfold Zke;rw[h1,Option.bind_some,h2];by_cases hk:1≤x.fKind∧x.fKind≤13
 ·rw[decide_eq_true hk.1,decide_eq_true hk.2];simp only[Bool.and_self,Bool.not_true,cond_false];have key:∀(k:Int)(l:List Int)(s:Int×Int),x.fKind=k→ZiO k=some l→ZjF k=some s→l.length≤100→l.all (ZxS x s)=ZhD x→((ZiO x.fKind).bind fun x2=>Zee ((((x2.length:Nat):Int)-(0:Int)).toNat+2) x2 ((x2.length:Nat):Int) (0:Int) x)=some (ZhD x):=by
   intro k l s e h3 h4 h5 h6;rw[e,h3,Option.bind_some,ZyL x hx s (by rw[e];exact h4) l h5,h6]
  obtain h|h|h|h|h|h|h|h|h|h|h|h|h:x.fKind=1∨x.fKind=2∨x.fKind=3∨x.fKind=4∨x.fKind=5∨x.fKind=6∨x.fKind=7∨x.fKind=8∨x.fKind=9∨x.fKind=10∨x.fKind=11∨x.fKind=12∨x.fKind=13:=by omega
  all_goals exact key _ _ _ h rfl rfl (by simp) (by simp[ZhD,h,ZxS])
 ·have hf:(decide (1≤x.fKind)&&decide (x.fKind≤13))=false:=by
   rw[Bool.and_eq_false_iff,decide_eq_false_iff_not,decide_eq_false_iff_not];omega
  rw[hf];simp only[Bool.not_false,cond_true];unfold ZhD
  repeat' rw[if_neg (by omega)]
theorem ZAr(x:ZaA)(hx:x.ok)(a b:Int)(s:ByteArray)(L:List Int)(hL:L.length=s.size)(h:∀i:Nat,i<s.size→((ZqA s i:Nat):Int)=L.getD i 0)(hs:s.size≤100) :
  ZaV a b x ((((s.size:Nat):Int)-(0:Int)).toNat+2) s 0=some (L.all fun c=>if c=101 then ZjQ x.fEnd else if c=110 then ZiR x.fNet else if c=97 then ZeR x.fEnd.fAddr else if c=116 then nowB x else if c=107 then inI x.fNum a b else true):=by
 have he:x.fEnd.ok:=hx.2.1;have hn:x.fNet.ok:=hx.2.2.1;have main:∀fu (i:Nat),i≤s.size→s.size-i<fu→ZaV a b x fu s (i:Int)=some ((L.drop i).all fun c=>if c=101 then ZjQ x.fEnd else if c=110 then ZiR x.fNet else if c=97 then ZeR x.fEnd.fAddr else if c=116 then nowB x else if c=107 then inI x.fNum a b else true):=by
  intro fu;induction fu with
  |zero=>intro i _ h;omega
  |succ fu ih=>
   intro i hi hf;unfold ZaV;simp only[Zal,Zco,ZnZ _ he,ZqJ _ hn.1,Zmf _ he.1,Option.bind_some];by_cases hlt:i<s.size
   ·rw[if_pos (by omega),Zay ⟨by omega,by omega⟩,add1 (n:=s.size) hlt (by unfold maxLen;omega),ZfK L (0:Int) i (by omega),List.all_cons,Int.toNat_natCast,h i hlt,ih (i+1) (by omega) (by omega)];generalize hR:((L.drop (i+1)).all fun c=>if c=101 then ZjQ x.fEnd else if c=110 then ZiR x.fNet else if c=97 then ZeR x.fEnd.fAddr else if c=116 then nowB x else if c=107 then inI x.fNum a b else true)=R;have two:∀q:Bool,(bif !q then some false else some R)=some (q&&R):=fun q=>by cases q<;>rfl
    simp only[two];have rng:∀n lo hi:Int,(if n<lo then some false else if n>hi then some false else some R)=some (inI n lo hi&&R):=fun n lo hi=>by
     unfold inI;by_cases h1:n<lo
     ·rw[if_pos h1,decide_eq_false (by omega)];rfl
     ·rw[if_neg h1,decide_eq_true (show lo≤n by omega)];by_cases h2:n>hi
      ·rw[if_pos h2,decide_eq_false (by omega)];rfl
      ·rw[if_neg h2,decide_eq_true (show n≤hi by omega)];rfl
    simp only[rng];unfold nowB
    repeat' split
    all_goals first|rfl|omega
   ·rw[if_neg (by omega),List.drop_of_length_le (by omega)];rfl
 exact main _ 0 (by omega) (by omega)
theorem ZmR(x:ZaA)(hx:x.ok):Zfa x=some (ZhD x):=by
 unfold Zfa ZcJ;simp only[Zal,Zco];by_cases h1:x.fKind<1
 ·rw[if_pos h1];unfold ZhD
  repeat' rw[if_neg (by omega)]
 ·rw[if_neg h1];by_cases h2:x.fKind>13
  ·rw[if_pos h2];unfold ZhD
   repeat' rw[if_neg (by omega)]
  ·rw[if_neg h2];have key:∀(k a b:Int)(s:ByteArray)(L:List Int),x.fKind=k→ZeZ k=some s→L.length=s.size→(∀i:Nat,i<s.size→((ZqA s i:Nat):Int)=L.getD i 0)→s.size≤100 →
     (L.all fun c=>if c=101 then ZjQ x.fEnd else if c=110 then ZiR x.fNet else if c=97 then ZeR x.fEnd.fAddr else if c=116 then nowB x else if c=107 then inI x.fNum a b else true)=ZhD x →
     ((ZeZ x.fKind).bind fun x1=>ZaV a b x ((((x1.size:Nat):Int)-(0:Int)).toNat+2) x1 (0:Int))=some (ZhD x):=by
    intro k a b s L e h3 h4 h5 h6 h7;rw[e,h3,Option.bind_some,ZAr x hx a b s L h4 h5 h6,h7]
   obtain h|h|h|h|h|h|h|h|h|h|h|h|h:x.fKind=1∨x.fKind=2∨x.fKind=3∨x.fKind=4∨x.fKind=5∨x.fKind=6∨x.fKind=7∨x.fKind=8∨x.fKind=9∨x.fKind=10∨x.fKind=11∨x.fKind=12∨x.fKind=13:=by omega
   ·rw[if_neg (by omega),if_neg (by omega),if_neg (by omega)];exact key 1 _ _ _ [101,116] h rfl rfl (by decide) (by decide) (by simp[ZhD,h])
   ·rw[if_neg (by omega),if_neg (by omega),if_neg (by omega)];exact key 2 _ _ _ [101] h rfl rfl (by decide) (by decide) (by simp[ZhD,h])
   ·rw[if_neg (by omega),if_neg (by omega),if_neg (by omega)];exact key 3 _ _ _ [116] h rfl rfl (by decide) (by decide) (by simp[ZhD,h])
   ·rw[if_neg (by omega),if_neg (by omega),if_neg (by omega)];exact key 4 _ _ _ [101,103,116,107] h rfl rfl (by decide) (by decide) (by simp[ZhD,h])
   ·rw[if_pos h];exact key 5 _ _ _ [101,107,116] h rfl rfl (by decide) (by decide) (by simp[ZhD,h])
   ·rw[if_neg (by omega),if_pos h];exact key 6 _ _ _ [110,107,116] h rfl rfl (by decide) (by decide) (by simp[ZhD,h])
   ·rw[if_neg (by omega),if_neg (by omega),if_neg (by omega)];exact key 7 _ _ _ [110] h rfl rfl (by decide) (by decide) (by simp[ZhD,h])
   ·rw[if_neg (by omega),if_neg (by omega),if_neg (by omega)];exact key 8 _ _ _ [97,116] h rfl rfl (by decide) (by decide) (by simp[ZhD,h])
   ·rw[if_neg (by omega),if_neg (by omega),if_neg (by omega)];exact key 9 _ _ _ [116] h rfl rfl (by decide) (by decide) (by simp[ZhD,h])
   ·rw[if_neg (by omega),if_neg (by omega),if_neg (by omega)];exact key 10 _ _ _ [] h rfl rfl (by decide) (by decide) (by simp[ZhD,h])
   ·rw[if_neg (by omega),if_neg (by omega),if_pos h];exact key 11 _ _ _ [101,107] h rfl rfl (by decide) (by decide) (by simp[ZhD,h])
   ·rw[if_neg (by omega),if_neg (by omega),if_neg (by omega)];exact key 12 _ _ _ [101,116] h rfl rfl (by decide) (by decide) (by simp[ZhD,h])
   ·rw[if_neg (by omega),if_neg (by omega),if_neg (by omega)];exact key 13 _ _ _ [101,116] h rfl rfl (by decide) (by decide) (by simp[ZhD,h])
def gv(v:Zae):Prop:=v.ok∧v.fBans.length≤5000∧v.fBook.length≤5000
structure Gd (l:List Zae):Prop where
 len:l.length≤400000
 val:∀v∈l,gv v
theorem Gd.drop{l:List Zae}(h:Gd l)(a:Nat):Gd (l.drop a):=⟨by have:=h.len;simp;omega,fun v hv=>h.val v (List.mem_of_mem_drop hv)⟩
theorem ZBX{c:Zav}{l:List Zae}{x:Zae}{g:Zan}(h:runT (Zmn c) l=some (.ret x g))(hl:Gd l):gv x:=by
 obtain⟨r,rfl,_⟩:=Zvl h;exact hl.val x (by simp)
def ZjI(k:Int):Zaq:=⟨k,endZ,0,0,[]⟩
def pt(c:ZaB)(x:ZaA):Int:=Zks x.fEnd.fAddr c.fSecret c.fShards
section
variable {c:ZaB} {x:ZaA} (hx:x.ok)
include hx
theorem pt_le:0≤pt c x∧pt c x≤7:=by
 obtain⟨_,_,h1,h2⟩:=ZrE x.fEnd.fAddr hx.2.1.1 c.fSecret c.fShards;have:Zmi c.fShards≤8:=by
  unfold Zmi
  repeat' split
  all_goals omega
 unfold pt;omega
theorem ZGl:Zaw 2 (pt c x)=2+pt c x:=by
 have:=pt_le (c:=c) hx;exact ZfP (by omega) (by omega)
theorem ZuZ:ZdQ ⟨c,x⟩=some (pt c x):=by
 unfold ZdQ;rw[(ZrE x.fEnd.fAddr hx.2.1.1 c.fSecret c.fShards).1];rfl
theorem ZlM:Zbd ⟨c,x⟩=some (2+pt c x):=by
 unfold Zbd;rw[ZuZ hx,ZaL,ZGl hx]
end
def ZtK(n:Int)(e:Zag):Pr (List Zaa×Int):=(keyP 1 (2+n) false).bind fun _=>(Zsm n).bind fun l=>.ret (l,ZeP l e)
theorem Zod{n:Int}{e:Zag}{l:List Zae}{r:List Zaa×Int}{g:Zan}(h:runT (ZtK n e) l=some (.ret r g)):r.2=ZeP r.1 e∧r.1.length≤l.length∧∀Q:Zaa→Prop,(∀v∈l,Q v.fPeer)→∀p∈r.1,Q p:=by
 cases l with
 |nil=>simp[ZtK,keyP,Pr.bind,runT]at h
 |cons v l=>
  have h2:runT ((Zsm n).bind fun w=>Pr.ret (w,ZeP w e)) l=some (.ret r g):=h;rw[←Zbh (p:=Zsm n) (l:=l) (F:=fun t=>match t with | .ret x g=>runT (Pr.ret (x,ZeP x e)) g.fgot | .pan o=>some (.pan o) | .bad s=>some (.bad s)) (fun _ _ _ _=>rfl) (fun _=>rfl)]at h2
  cases hr:runT (Zsm n) l with
  |none=>rw[hr]at h2;cases h2
  |some t=>
   rw[hr]at h2;cases t with
   |ret w g2=>
    simp only[Option.bind_some,runT,Option.some.injEq,Tout.ret.injEq]at h2;obtain⟨rfl,rfl⟩:=h2;have:=Zzl hr;exact⟨rfl,by simp only[List.length_cons];omega,fun Q hQ=>ZDH hr fun v' hv=>hQ v' (List.mem_cons_of_mem _ hv)⟩
   |pan o=>simp at h2
   |bad s=>simp at h2
def Zrm(p:Zaa)(now:Int):Zaa:=(Zgc p now).getD p
theorem ZyY(p:Zaa)(now:Int):Zgc p now=some (Zrm p now)∧ZdT p now=some (Zrm p now):=by
 obtain⟨q,h1,h2⟩:=ZBi p now;unfold Zrm;rw[h1,h2];exact⟨rfl,rfl⟩
def ZpO(p:Zaa)(ms:Int):Zaa:=(ZhF p ms).getD p
theorem Zzn(p:Zaa)(ms:Int):ZhF p ms=some (ZpO p ms)∧Zex p ms=some (ZpO p ms):=by
 obtain⟨q,h1,h2⟩:=ZFr p ms;unfold ZpO;rw[h1,h2];exact⟨rfl,rfl⟩
def ZxY(n:Int):Pr Zaq:=(keyP 3 (2+n) true).bind fun _=>.ret (ZjI 6)
def ZwD(n i:Int)(p:Zaa):Pr Unit:=ZkJ ⟨6,n,i⟩ ⟨0,p,[],[]⟩ true
def atP(r:List Zaa×Int):Zaa:=r.1.getD r.2.toNat Zaa.d
def ZDN(n:Int)(x:ZaA):Pr Zaq:=(ZtK n x.fEnd).bind fun r=>if r.2<0 then ZxY n else if x.fKind=11 then(ZwD n r.2 (ZpO (atP r) x.fNum)).bind fun _=>(keyP 3 (2+n) false).bind fun _=>.ret ⟨0,endZ,(ZpO (atP r) x.fNum).fPing,0,[]⟩else(ZwD n r.2 (Zrm (atP r) x.fNow)).bind fun _=>(keyP 3 (2+n) false).bind fun _=>.ret repZ
def ZCD(gone:List Zag):Pr Unit:=(Zmn ⟨4,0,0⟩).bind fun v=>ZkJ ⟨4,0,0⟩ ⟨0,ZkL,[],v.fBook.map (ZkC gone)⟩ false
def Zzo(n:Int)(e:Zag):Pr Zaq:=(ZtK n e).bind fun r=>if r.2<0 then ZxY n else(ZpH n r.1 (Zlj r.1 [e])).bind fun _=>(if(atP r).fIn=true then Zrp 1 (-1) true 1000000 else(ZCD [e]).bind fun _=>Zrp 2 (-1) true 1000000).bind fun _=>(keyP 3 (2+n) false).bind fun _=>.ret repZ
def ZzD(n:Int)(e:Zag):Pr Zaq:=(ZtK n e).bind fun r=>if r.2<0 then ZxY n else if(atP r).fIn=true then(ZpH n r.1 (Zlj r.1 [e])).bind fun _=>(Zrp 1 (-1) true 1000000).bind fun _=>(keyP 3 (2+n) false).bind fun _=>.ret repZ else(keyP 3 (2+n) false).bind fun _=>(keyP 1 1 false).bind fun _=>(Zzo n e).bind fun q=>(keyP 3 1 false).bind fun _=>.ret q
def ZDc(gone:List Zaa):Pr Unit:=if cntP gone false>0 then(ZCD (ZkB gone)).bind fun _=>Zrp 2 (-(cntP gone false)) false 1000000 else .ret ()
def ZEn(gone:List Zaa):Pr Unit:=(if cntP gone true>0 then Zrp 1 (-(cntP gone true)) false 1000000 else .ret ()).bind fun _=>ZDc gone
def ZFX(n:Int)(l gone:List Zaa):Pr Unit:=(ZpH n l (Zlj l (ZkB gone))).bind fun _=>ZEn gone
def Ziv(c:ZaB)(x:ZaA):Zab:=⟨Zgu x.fEnd.fAddr,addT x.fNow c.fBanFor⟩
def ZEm(c:ZaB)(x:ZaA):Pr Int:=(Zmn ⟨3,0,0⟩).bind fun v=>if(addB v.fBans (Ziv c x) c.fMaxBans).2=0 then(ZkJ ⟨3,0,0⟩ ⟨0,ZkL,(addB v.fBans (Ziv c x) c.fMaxBans).1,[]⟩ false).bind fun _=>.ret (Ziv c x).fUntil else .ret 0
def ZuU(n:Int)(c:ZaB)(x:ZaA):Pr (Zaq×Bool):=(ZtK n x.fEnd).bind fun r=>if r.2<0 then .ret (ZjI 6,true)else if ZnA (Zih c x (atP r)).fScore c.fLimit=true then(ZEm c x).bind fun u=>(ZFX n r.1 (ofP r.1 (Ziv c x).fNet true)).bind fun _=>.ret (⟨0,x.fEnd,((ofP r.1 (Ziv c x).fNet true).length:Int),u,[]⟩,true)else(ZwD n r.2 (Zih c x (atP r))).bind fun _=>.ret (⟨0,endZ,Zsa (Zih c x (atP r)).fScore,0,[]⟩,false)
def ZzW(n:Int)(c:ZaB)(x:ZaA):Pr Zaq:=(ZtK n x.fEnd).bind fun r=>if r.2<0 then ZxY n else if ZnA (Zih c x (atP r)).fScore c.fLimit=true then(keyP 3 (2+n) false).bind fun _=>(keyP 1 0 false).bind fun _=>(keyP 1 1 false).bind fun _=>(ZuU n c x).bind fun q=>(keyP 3 (2+n) q.2).bind fun _=>(keyP 3 1 false).bind fun _=>(keyP 3 0 false).bind fun _=>.ret q.1 else(ZwD n r.2 (Zih c x (atP r))).bind fun _=>(keyP 3 (2+n) false).bind fun _=>.ret ⟨0,endZ,Zsa (Zih c x (atP r)).fScore,0,[]⟩
def ZvL:Pr Zaq:=(keyP 8 0 true).bind fun _=>.ret (ZjI 1)
def ZsJ(c:ZaB)(x:ZaA):Pr Zaq:=if ZhD x=true then(if x.fKind=2 then ZzD (pt c x) x.fEnd else if x.fKind=5 then ZzW (pt c x) c x else if x.fKind=11∨x.fKind=12 then ZDN (pt c x) x else ZvL)else ZvL
section
variable {c:ZaB} {x:ZaA} (hx:x.ok) {l:List Zae} (hl:Gd l)
include hx hl
theorem ZqD:Zdl ⟨c,x⟩ ⟨l⟩=runT (ZtK (pt c x) x.fEnd) l:=by
 unfold Zdl;rw[ZlM hx,ZaL,ZrV];refine Zbh (fun _ a ha h=>?_) (fun _=>rfl);dsimp only;have h2:=(hl.drop a).len;rw[ZuZ hx,ZaL,ZEv _ _ (by omega)];refine Zbh (fun w b hb h3=>?_) (fun _=>rfl);dsimp only;have:=Zzl h3;rw[ZAf _ _ (by unfold maxLen;omega)];rfl
theorem ZrW(i:Int)(p:Zaa):ZdR ⟨c,x⟩ ⟨l⟩ i p=runT (ZwD (pt c x) i p) l:=by
 have _u:=hl;unfold ZdR;rw[ZuZ hx,ZaL,ZoD];exact ZnY (p:=ZwD (pt c x) i p) (fun _ _=>rfl) (fun _=>rfl)
theorem ZrU:((Zbd ⟨c,x⟩).bind fun x2=>(Zbb ⟨l⟩ x2 true).bind fun x3=>(match x3 with
   | .ret x3v x3g=>(ZdY (6:Int)).bind fun x4=>some (Tout.ret x4 x3g)
   | .pan x3o=>some (Tout.pan x3o)
   | .bad x3s=>some (Tout.bad x3s)))=runT (ZxY (pt c x)) l:=by
 have _u:=hl;rw[ZlM hx,ZaL,ZhX];exact Zbh (fun _ a ha h=>rfl) (fun _=>rfl)
theorem ZtC(w:List Zaa)(gone:List Zag)(hw:w.length≤400000)(hg:gone.length≤400000):ZdZ ⟨c,x⟩ ⟨l⟩ w gone=runT (ZpH (pt c x) w (Zlj w gone)) l:=by
 have _u:=hl;unfold ZdZ;have:=Zwc w gone;rw[ZuZ hx,ZaL,ZAl w gone (by omega) (by unfold maxLen;omega),ZaL,ZDi _ _ _ _ (by omega)];exact ZnY (fun _ _=>rfl) (fun _=>rfl)
omit hx in
theorem ZxC(gone:List Zag)(hg:gone.length≤400000):ZhU ⟨l⟩ gone=runT (ZCD gone) l:=by
 unfold ZhU;rw[ZqF];refine Zbh (fun v a ha h=>?_) (fun _=>rfl);dsimp only;have hv:=ZBX h hl;rw[ZCY _ _ (by have:=hv.2.2;omega) (by unfold maxLen;omega),ZaL,ZoD];exact ZnY (p:=ZkJ ⟨4,0,0⟩ ⟨0,ZkL,[],v.fBook.map (ZkC gone)⟩ false) (fun _ _=>rfl) (fun _=>rfl)
theorem ZzZ:ZgT ⟨c,x⟩ ⟨l⟩=runT (ZDN (pt c x) x) l:=by
 unfold ZgT;rw[ZqD hx hl];refine Zbh (fun r a ha h=>?_) (fun _=>rfl);obtain⟨h1,h2,_⟩:=Zod h;have hlt:=ZoO r.1 x.fEnd;dsimp only;rw[Zal];by_cases h0:r.2<0
 ·rw[if_pos h0,if_pos h0];exact ZrU hx (hl.drop a)
 ·rw[if_neg h0,if_neg h0,Zay (by omega),(ZyY _ _).1,ZaL,Zco];by_cases hk:x.fKind=11
  ·rw[if_pos hk,if_pos hk,(Zzn _ _).1,ZaL,ZrW hx (hl.drop a)];refine Zbh (fun _ b hb _=>?_) (fun _=>rfl);dsimp only;rw[ZlM hx,ZaL,ZhX];exact Zbh (fun _ _ _ _=>rfl) (fun _=>rfl)
  ·rw[if_neg hk,if_neg hk,ZrW hx (hl.drop a)];refine Zbh (fun _ b hb _=>?_) (fun _=>rfl);dsimp only;rw[ZlM hx,ZaL,ZhX];exact Zbh (fun _ _ _ _=>rfl) (fun _=>rfl)
theorem ZDj:Zge ⟨c,x⟩ ⟨l⟩=runT (Zzo (pt c x) x.fEnd) l:=by
 unfold Zge;rw[ZqD hx hl];refine Zbh (fun r a ha h=>?_) (fun _=>rfl);obtain⟨h1,h2,_⟩:=Zod h;have hlt:=ZoO r.1 x.fEnd;have hlen:=hl.len;dsimp only;rw[Zal];by_cases h0:r.2<0
 ·rw[if_pos h0,if_pos h0];exact ZrU hx (hl.drop a)
 ·rw[if_neg h0,if_neg h0,ZtC hx (hl.drop a) _ _ (by omega) (by simp)];refine Zbh (fun _ b hb _=>?_) (fun _=>rfl);dsimp only;rw[Zay (by omega)];have hd:(List.getD r.1 r.2.toNat Zaa.d)=atP r:=rfl;rw[hd];cases hin:(atP r).fIn with
  |true=>
   rw[cond_true,if_pos rfl,ZqE];refine Zbh (fun _ d hd _=>?_) (fun _=>rfl);dsimp only;rw[ZlM hx,ZaL,ZhX];exact Zbh (fun _ _ _ _=>rfl) (fun _=>rfl)
  |false=>
   rw[cond_false,if_neg (by decide),Pr.bind_assoc,ZxC ((hl.drop a).drop b) _ (by simp)];refine Zbh (fun _ d hd _=>?_) (fun _=>rfl);dsimp only;rw[ZqE];refine Zbh (fun _ d hd _=>?_) (fun _=>rfl);dsimp only;rw[ZlM hx,ZaL,ZhX];exact Zbh (fun _ _ _ _=>rfl) (fun _=>rfl)
theorem ZDk:Zgf ⟨c,x⟩ ⟨l⟩=runT (ZzD (pt c x) x.fEnd) l:=by
 unfold Zgf;rw[ZqD hx hl];refine Zbh (fun r a ha h=>?_) (fun _=>rfl);obtain⟨h1,h2,_⟩:=Zod h;have hlt:=ZoO r.1 x.fEnd;have hlen:=hl.len;dsimp only;rw[Zal];by_cases h0:r.2<0
 ·rw[if_pos h0,if_pos h0];exact ZrU hx (hl.drop a)
 ·rw[if_neg h0,if_neg h0,Zay (by omega)];have hd:(List.getD r.1 r.2.toNat Zaa.d)=atP r:=rfl;rw[hd];cases hin:(atP r).fIn with
  |true=>
   rw[cond_true,if_pos rfl,ZtC hx (hl.drop a) _ _ (by omega) (by simp)];refine Zbh (fun _ d hd _=>?_) (fun _=>rfl);dsimp only;rw[ZqE];refine Zbh (fun _ d hd _=>?_) (fun _=>rfl);dsimp only;rw[ZlM hx,ZaL,ZhX];exact Zbh (fun _ _ _ _=>rfl) (fun _=>rfl)
  |false=>
   rw[cond_false,if_neg (by decide),ZlM hx,ZaL,ZhX];refine Zbh (fun _ b hb _=>?_) (fun _=>rfl);dsimp only;rw[ZrV];refine Zbh (fun _ d hd _=>?_) (fun _=>rfl);dsimp only;rw[ZDj hx (((hl.drop a).drop b).drop d)];refine Zbh (fun _ e he _=>?_) (fun _=>rfl);dsimp only;rw[ZhX];exact Zbh (fun _ _ _ _=>rfl) (fun _=>rfl)
end
theorem Zzw{n:Int}(h0:0≤n)(h1:n≤1000000):IntKind.wrap .i64 (0-n) = -n:=by
 have:=ZmP (a:=0) (b:=n) (by omega) (by omega);unfold Zli at this;omega
theorem Zxe(l:List Zaa):(ZkB l).length=l.length:=by simp[ZkB]
theorem ZxE{l:List Zae}(hl:Gd l)(gone:List Zaa)(hg:gone.length≤400000):Zef gone ⟨l⟩=runT (ZDc gone) l:=by
 have hc:=Zlh gone false;have he:=Zxe gone;unfold Zef ZDc;rw[Zsb _ _ (by unfold maxLen;omega),ZaL,Zal];by_cases h0:cntP gone false>0
 ·rw[if_pos h0,if_pos h0,Zut _ (by omega),ZaL,ZxC hl _ (by omega)];refine Zbh (fun _ d hd _=>?_) (fun _=>rfl);dsimp only;rw[ZqE,Zzw (by omega) (by omega)];exact ZnY (fun _ _=>rfl) (fun _=>rfl)
 ·rw[if_neg h0,if_neg h0];rfl
section
variable {c:ZaB} {x:ZaA} (hx:x.ok) {l:List Zae} (hl:Gd l)
include hx hl
theorem ZEB(w gone:List Zaa)(hw:w.length≤400000)(hg:gone.length≤400000):ZgV ⟨c,x⟩ ⟨l⟩ w gone=runT (ZFX (pt c x) w gone) l:=by
 have hc:=Zlh gone true;have he:=Zxe gone;unfold ZgV;rw[Zut _ (by omega),ZaL,ZtC hx hl _ _ hw (by omega)];refine Zbh (fun _ d hd _=>?_) (fun _=>rfl);dsimp only;rw[Zsb _ _ (by unfold maxLen;omega),ZaL,Zal];unfold ZEn;by_cases h0:cntP gone true>0
 ·rw[if_pos h0,if_pos h0,ZqE,Zzw (by omega) (by omega)];refine Zbh (fun _ e he _=>?_) (fun _=>rfl);dsimp only;exact ZxE ((hl.drop d).drop e) gone hg
 ·rw[if_neg h0,if_neg h0,Pr.bind_ret];exact ZxE (hl.drop d) gone hg
omit hx hl in
theorem ZDg(a b:Int):okI .i64 (addT a b):=by
 have:=Zlc (fitI a+fitI b);unfold addT;simp only[okI,Lit.wf,IntKind.min,IntKind.max,IntKind.bits,IntKind.signed];simp;omega
omit hx hl in
theorem ZrQ(a:Zaj)(h:a.ok):(Zgu a).ok:=by
 unfold Zgu;split
 ·refine⟨h,?_,trivial⟩;have:wid a≤128:=ZvN a;simp only[okI,Lit.wf,IntKind.min,IntKind.max,IntKind.bits,IntKind.signed];simp;omega
 ·exact⟨⟨trivial,rfl,rfl,trivial⟩,rfl,trivial⟩
theorem ZEA:ZgU ⟨c,x⟩ ⟨l⟩ (Ziv c x).fNet=runT (ZEm c x) l:=by
 unfold ZgU;rw[(ZBs _ _).1,ZaL,ZqF];refine Zbh (fun v d hd h=>?_) (fun _=>rfl);dsimp only;have hv:=ZBX h hl;have hb:(Ziv c x).ok:=⟨ZrQ _ hx.2.1.1,ZDg _ _,trivial⟩;have e:Zab.mk (Ziv c x).fNet (addT x.fNow c.fBanFor)=Ziv c x:=rfl;rw[e,ZEl _ _ _ (by have:=hv.2.1;omega) hb,ZaL];by_cases h0:(addB v.fBans (Ziv c x) c.fMaxBans).2=0
 ·have e2:((addB v.fBans (Ziv c x) c.fMaxBans).2 != 0)=false:=by rw[h0];rfl
  rw[if_pos h0,e2,cond_false,ZoD];exact Zbh (p:=ZkJ ⟨3,0,0⟩ ⟨0,ZkL,(addB v.fBans (Ziv c x) c.fMaxBans).1,[]⟩ false) (fun _ _ _ _=>rfl) (fun _=>rfl)
 ·have e2:((addB v.fBans (Ziv c x) c.fMaxBans).2 != 0)=true:=by rw[bne_iff_ne];exact h0
  rw[if_neg h0,e2,cond_true];rfl
omit hl in
theorem ZxD(p:Zaa):Zev ⟨c,x⟩ p=some (Zih c x p,ZnA (Zih c x p).fScore c.fLimit):=by
 have _u:=hx;unfold Zev;have hw:=ZyX c x p;rw[(ZBJ x.fNum).1,ZaL,(Zxq c x p).1,ZaL,(Zuh _ _ hw.1 hw.2).1];rfl
theorem ZBd:ZfD ⟨c,x⟩ ⟨l⟩=runT (ZuU (pt c x) c x) l:=by
 unfold ZfD;rw[ZqD hx hl];refine Zbh (fun r a ha h=>?_) (fun _=>rfl);obtain⟨h1,h2,h3⟩:=Zod h;have hlt:=ZoO r.1 x.fEnd;have hlen:=hl.len;dsimp only;rw[Zal];by_cases h0:r.2<0
 ·rw[if_pos h0,if_pos h0];rfl
 ·rw[if_neg h0,if_neg h0,Zay (by omega),ZxD hx,ZaL];have hd:(List.getD r.1 r.2.toNat Zaa.d)=atP r:=rfl;rw[hd];dsimp only;cases hin:ZnA (Zih c x (atP r)).fScore c.fLimit with
  |false=>
   rw[Bool.not_false,cond_true,if_neg (by decide),ZrW hx (hl.drop a)];refine Zbh (fun _ d hd _=>?_) (fun _=>rfl);dsimp only;rw[(ZuK _).1];rfl
  |true=>
   have hof:=ZqM r.1 (Ziv c x).fNet true;have e:ZiH x.fEnd.fAddr=some (Ziv c x).fNet:=Zxj _ hx.2.1.1;rw[Bool.not_true,cond_false,if_pos rfl,e,ZaL,ZEA hx (hl.drop a)];refine Zbh (fun u d hd _=>?_) (fun _=>rfl);dsimp only;rw[ZxH r.1 (Ziv c x).fNet (ZrQ _ hx.2.1.1).1 (by omega) (h3 (fun p=>p.fEnd.fAddr.ok) fun v hv=>(hl.val v hv).1.2.1.1.1),ZaL];dsimp only;rw[ZEB hx ((hl.drop a).drop d) _ _ (by omega) (by omega)];exact Zbh (fun _ _ _ _=>rfl) (fun _=>rfl)
theorem ZDr:Zgg ⟨c,x⟩ ⟨l⟩=runT (ZzW (pt c x) c x) l:=by
 unfold Zgg;rw[ZqD hx hl];refine Zbh (fun r a ha h=>?_) (fun _=>rfl);obtain⟨h1,h2,h3⟩:=Zod h;have hlt:=ZoO r.1 x.fEnd;have hlen:=hl.len;dsimp only;rw[Zal];by_cases h0:r.2<0
 ·rw[if_pos h0,if_pos h0];exact ZrU hx (hl.drop a)
 ·rw[if_neg h0,if_neg h0,Zay (by omega),ZxD hx,ZaL];have hd:(List.getD r.1 r.2.toNat Zaa.d)=atP r:=rfl;rw[hd];dsimp only;cases hin:ZnA (Zih c x (atP r)).fScore c.fLimit with
  |false=>
   rw[Bool.not_false,cond_true,if_neg (by decide),ZrW hx (hl.drop a)];refine Zbh (fun _ d hd _=>?_) (fun _=>rfl);dsimp only;rw[ZlM hx,ZaL,ZhX];refine Zbh (fun _ d hd _=>?_) (fun _=>rfl);dsimp only;rw[(ZuK _).1];rfl
  |true=>
   rw[Bool.not_true,cond_false,if_pos rfl,ZlM hx,ZaL,ZhX];refine Zbh (fun _ b hb _=>?_) (fun _=>rfl);dsimp only;rw[ZrV];refine Zbh (fun _ d hd _=>?_) (fun _=>rfl);dsimp only;rw[ZrV];refine Zbh (fun _ e he _=>?_) (fun _=>rfl);dsimp only;rw[ZBd hx ((((hl.drop a).drop b).drop d).drop e)];refine Zbh (fun q _ _ _=>?_) (fun _=>rfl);dsimp only;rw[ZhX];refine Zbh (fun _ _ _ _=>?_) (fun _=>rfl);dsimp only;rw[ZhX];refine Zbh (fun _ _ _ _=>?_) (fun _=>rfl);dsimp only;rw[ZhX];exact Zbh (fun _ _ _ _=>rfl) (fun _=>rfl)
omit hx hl in
theorem Zxw(l:List Zae):Zgd ⟨c,x⟩ ⟨l⟩=runT ZvL l:=by
 unfold Zgd;rw[ZEw];exact Zbh (fun _ _ _ _=>rfl) (fun _=>rfl)
theorem ZEx:Zgh c x l=(runT (ZsJ c x) l).map ZuX:=by
 unfold Zgh ZiN ZsJ;rw[ZAZ x hx,ZaL];have fin:∀t:Option ZaT,(t.bind fun y=>some y)=t:=fun t=>by cases t<;>rfl
 cases ZhD x with
 |false=>
  simp only[Bool.not_false,cond_true,ZaL,fin,Bool.false_eq_true,if_false];unfold Zin;rw[Zxw]
 |true=>
  simp only[Bool.not_true,cond_false,if_true,Zco];by_cases h2:x.fKind=2
  ·simp only[if_pos h2,ZaL,fin];unfold ZjK;rw[ZDk hx hl]
  ·by_cases h5:x.fKind=5
   ·simp only[if_neg h2,if_pos h5,ZaL,fin];unfold ZjJ;rw[ZDr hx hl]
   ·by_cases h11:x.fKind=11
    ·simp only[if_neg h2,if_neg h5,if_pos h11,ZaL,fin,if_pos (Or.inl h11)];unfold Zim;rw[ZzZ hx hl]
     all_goals simp[h11]
    ·by_cases h12:x.fKind=12
     ·simp only[if_neg h2,if_neg h5,if_neg h11,if_pos h12,ZaL,fin];unfold Zim;rw[ZzZ hx hl]
      all_goals simp[h12]
     ·simp only[if_neg h2,if_neg h5,if_neg h11,if_neg h12,ZaL,fin];unfold Zin;rw[Zxw]
      all_goals simp[h11,h12]
end
def StrP(l:Prs):Prop:=l.Pairwise fun x y=>ltP x y=true
theorem Zvi:∀(n:Nat)(a b:Prs),a.length+b.length≤n→(mrg a b).Perm (a++b)
 | 0,a,b,h=>by
  obtain rfl:=List.eq_nil_of_length_eq_zero (show a.length=0 by omega)
  rw[ZiS];exact List.Perm.refl _
 |n+1,[],b,h=>by rw[ZiS];exact List.Perm.refl _
 |n+1,x :: a,[],h=>by rw[Zof,List.append_nil]
 |n+1,x :: a,y :: b,h=>by
  simp only[List.length_cons]at h
  cases hc:ltP y x with
  |true=>
   rw[ZsB _ _ hc]
   refine((Zvi n (x :: a) b (by simp only[List.length_cons];omega)).cons y).trans ?_
   exact List.perm_middle.symm
  |false=>
   rw[ZsC _ _ hc]
   exact(Zvi n a (y :: b) (by simp only[List.length_cons];omega)).cons x
theorem ZAG(l:Prs):(ZnI l).Perm l:=by
 have:∀n,n≤l.length→(ZnI (l.take n)).Perm (l.take n):=by
  intro n;induction n with
  |zero=>intro _;simp[ZnI]
  |succ n ih=>
   intro h;rw[List.take_succ_eq_append_getElem (show n<l.length by omega),Zqb];exact(Zvi _ _ _ (Nat.le_refl _)).trans ((ih (by omega)).append_right _)
 have h:=this l.length (Nat.le_refl _);rwa [List.take_length]at h
theorem Zua:∀(m l:Prs),SrtP l→StrP m→l.Perm m→l=m
 | [],l,_,_,h=>List.perm_nil.1 h
 |y :: m,l,hl,hm,h=>by
  cases l with
  |nil=>exact absurd h.length_eq (by simp)
  |cons x l=>
   have hl':=List.pairwise_cons.1 hl
   have hm':=List.pairwise_cons.1 hm
   by_cases e:x=y
   ·subst e
    rw[Zua m l hl'.2 hm'.2 h.cons_inv]
   ·have h1:y∈x :: l:=h.symm.subset (by simp)
    have h2:x∈y :: m:=h.subset (by simp)
    rcases List.mem_cons.1 h1 with h1|h1
    ·exact absurd h1.symm e
    ·rcases List.mem_cons.1 h2 with h2|h2
     ·exact absurd h2 e
     ·have q1:=hl'.1 y h1
      have q2:=hm'.1 x h2
      rw[q1]at q2;cases q2
theorem ZwE{xs l:Prs}(hl:StrP l)(h:xs.Perm l):ZnI xs=l:=Zua l _ (ZwF xs) hl ((ZAG xs).trans h)
theorem StrP.filter{l:Prs}(h:StrP l)(p:Zaa→Bool):StrP (l.filter p):=List.Pairwise.filter p h
theorem StrP.inj{l:Prs}(h:StrP l){x y:Zaa}(hx:x∈l)(hy:y∈l)(e:x.fEnd=y.fEnd):x=y:=by
 induction l with
 |nil=>cases hx
 |cons z l ih=>
  have hz:=List.pairwise_cons.1 h;have key:∀{w},w∈l→w.fEnd≠z.fEnd:=fun{w} hw ew=>by
   have:=Zoi.1 (hz.1 w hw);rw[Zqx.2 ew.symm]at this;omega
  rcases List.mem_cons.1 hx with h1|h1<;>rcases List.mem_cons.1 hy with h2|h2
  ·rw[h1,h2]
  ·exact absurd (by rw[←e,h1]) (key h2)
  ·exact absurd (by rw[e,h2]) (key h1)
  ·exact ih hz.2 h1 h2
theorem Zzp{a:Zaj}(h:a.ok)(s n:Int):0≤Zks a s n∧Zks a s n<(ZcA n:Int):=by
 obtain⟨_,_,h1,h2⟩:=ZrE a h s n;have:Zmi n=(ZcA n:Int):=by
  unfold Zmi ZcA
  repeat' split
  all_goals omega
 omega
def ZkO(sec nsh:Int)(k:Nat)(p:Zaa):Bool:=decide (Zks p.fEnd.fAddr sec nsh=(k:Int))
def ZhC(l:Prs)(sec nsh:Int)(k:Nat):Prs:=l.filter (ZkO sec nsh k)
def shF(a b:Prs):Zad:=⟨(a.length:Int),a++b⟩
abbrev PPs:=List (Prs×Prs)
def shP(ps:PPs):List Zad:=ps.map fun x=>shF x.1 x.2
theorem ZmQ(ps:PPs):(shP ps).length=ps.length:=by simp[shP]
theorem ZBq(ps:PPs){i:Nat}(hi:i<ps.length):(shP ps).getD i Zad.d=shF (ps.getD i ([],[])).1 (ps.getD i ([],[])).2:=by
 simp[shP,List.getD_eq_getElem?_getD,hi]
theorem ZxO(ps:PPs)(i:Nat)(a b:Prs):(shP ps).set i (shF a b)=shP (ps.set i (a,b)):=by
 simp[shP,List.map_set]
def ps0(l:Prs)(sec nsh:Int)(n:Nat):PPs:=(List.range n).map fun k=>(ZhC l sec nsh k,[])
theorem Zpt(l:Prs)(sec nsh:Int)(n:Nat):(ps0 l sec nsh n).length=n:=by simp[ps0]
theorem ZFq(l:Prs)(sec nsh:Int){n i:Nat}(hi:i<n):(ps0 l sec nsh n).getD i ([],[])=(ZhC l sec nsh i,[]):=by
 simp[ps0,List.getD_eq_getElem?_getD,hi]
theorem ZsZ{α:Type}(p q:α→Bool):∀(l:List α),(∀x∈l,p x=true→q x=false)→(l.filter p++l.filter q).Perm (l.filter fun x=>p x||q x)
 | [],_=>by simp
 |x :: l,h=>by
  have ih:=ZsZ p q l fun y hy=>h y (List.mem_cons_of_mem _ hy)
  have hx:=h x (by simp)
  cases hp:p x with
  |true=>
   rw[List.filter_cons_of_pos hp,List.filter_cons_of_neg (by simp[hx hp]),List.filter_cons_of_pos (by simp[hp])]
   exact ih.cons x
  |false=>
   rw[List.filter_cons_of_neg (by simp[hp])]
   cases hq:q x with
   |true=>
    rw[List.filter_cons_of_pos hq,List.filter_cons_of_pos (by simp[hq])]
    exact List.perm_middle.trans (ih.cons x)
   |false=>
    rw[List.filter_cons_of_neg (by simp[hq]),List.filter_cons_of_neg (by simp[hp,hq])]
    exact ih
theorem Zuk(l:Prs)(sec nsh:Int):∀(n:Nat),(((List.range n).map (ZhC l sec nsh)).flatten).Perm (l.filter fun p=>decide (0≤Zks p.fEnd.fAddr sec nsh∧Zks p.fEnd.fAddr sec nsh<(n:Int)))
 | 0=>by
  have:(l.filter fun p=>decide (0≤Zks p.fEnd.fAddr sec nsh∧Zks p.fEnd.fAddr sec nsh<((0:Nat):Int)))=[]:=by
   rw[List.filter_eq_nil_iff];intro p _;simp only[decide_eq_true_eq];omega
  rw[this];simp
 |n+1=>by
  rw[List.range_succ,List.map_append,List.flatten_append];simp only[List.map_cons,List.map_nil,List.flatten_cons,List.flatten_nil,List.append_nil];refine((Zuk l sec nsh n).append_right _).trans ?_;unfold ZhC;refine(ZsZ _ _ l fun p _ h=>?_).trans ?_
  ·simp only[ZkO,decide_eq_true_eq,decide_eq_false_iff_not]at h ⊢;omega
  ·have:(l.filter fun x=>(decide (0≤Zks x.fEnd.fAddr sec nsh∧Zks x.fEnd.fAddr sec nsh<(n:Int))||ZkO sec nsh n x))=l.filter fun p=>decide (0≤Zks p.fEnd.fAddr sec nsh∧Zks p.fEnd.fAddr sec nsh<((n+1:Nat):Int)):=by
    apply List.filter_congr;intro p _;unfold ZkO;rw[Bool.eq_iff_iff];simp only[Bool.or_eq_true,decide_eq_true_eq];omega
   rw[this]
theorem ZuW{l:Prs}(hok:∀p∈l,p.ok)(sec nsh:Int):((ps0 l sec nsh (ZcA nsh)).map (·.1)).flatten.Perm l:=by
 have h:=Zuk l sec nsh (ZcA nsh);have e:(l.filter fun p=>decide (0≤Zks p.fEnd.fAddr sec nsh∧Zks p.fEnd.fAddr sec nsh<(ZcA nsh:Int)))=l:=by
  rw[List.filter_eq_self];intro p hp;simp only[decide_eq_true_eq];exact Zzp (hok p hp).1.1 sec nsh
 rw[e]at h;have e2:(ps0 l sec nsh (ZcA nsh)).map (·.1)=(List.range (ZcA nsh)).map (ZhC l sec nsh):=by simp[ps0]
 rw[e2];exact h
def Zkl(L:List Prs)(i:Nat):Prs:=(L.take i).flatten++(L.drop (i+1)).flatten
theorem ZCn(L:List Prs){i:Nat}(hi:i<L.length):L.flatten.Perm (L.getD i []++Zkl L i):=by
 have e:L=L.take i++L.getD i [] :: L.drop (i+1):=by rw[←ZfK L [] i hi,List.take_append_drop]
 conv=>lhs;rw[e]
 rw[List.flatten_append,List.flatten_cons];unfold Zkl;rw[←List.append_assoc,←List.append_assoc];exact(List.perm_append_comm).append_right _
theorem ZAx(L:List Prs)(i:Nat)(x:Prs):Zkl (L.set i x) i=Zkl L i:=by
 unfold Zkl;rw[List.take_set_of_le (Nat.le_refl i),List.drop_set_of_lt (by omega)]
theorem ZDY(L:List Prs){i:Nat}(hi:i<L.length)(x:Prs):(L.set i x).flatten.Perm (x++Zkl L i):=by
 have h:=ZCn (L.set i x) (i:=i) (by simpa using hi);rw[ZrG L _ hi,ZAx]at h;exact h
theorem ZAy{L:List Prs}{i:Nat}{p:Zaa}(h:p∈Zkl L i):∃k,k≠i∧k<L.length∧p∈L.getD k []:=by
 unfold Zkl at h;rcases List.mem_append.1 h with h|h
 ·obtain⟨x,hx,hp⟩:=List.mem_flatten.1 h;obtain⟨k,hk,e⟩:=List.getElem_of_mem hx;simp only[List.length_take]at hk;rw[List.getElem_take]at e;exact⟨k,by omega,by omega,by rw[←Zdk L _ k (by omega)]at e;rw[e];exact hp⟩
 ·obtain⟨x,hx,hp⟩:=List.mem_flatten.1 h;obtain⟨k,hk,e⟩:=List.getElem_of_mem hx;simp only[List.length_drop]at hk;rw[List.getElem_drop]at e;exact⟨i+1+k,by omega,by omega,by rw[←Zdk L _ (i+1+k) (by omega)]at e;rw[e];exact hp⟩
theorem ZxV{l:Prs}{sec nsh:Int}{n i:Nat}{p:Zaa}(h:p∈Zkl ((ps0 l sec nsh n).map (·.1)) i):Zks p.fEnd.fAddr sec nsh≠(i:Int):=by
 obtain⟨k,h1,h2,h3⟩:=ZAy h;have hk:k<n:=by simpa[ps0]using h2
 have e:((ps0 l sec nsh n).map (·.1)).getD k []=ZhC l sec nsh k:=by simp[ps0,List.getD_eq_getElem?_getD,hk]
 rw[e]at h3;have:=(List.mem_filter.1 h3).2;unfold ZkO at this;rw[decide_eq_true_eq]at this;omega
theorem ZAk(l:Prs)(sec nsh:Int)(hl:l.length≤1000)(hok:∀p∈l,p.ok):Zfb l sec nsh=some (shP (ps0 l sec nsh (ZcA nsh))):=by
 have h8:=ZgO nsh;have inner:∀(v8:Nat)(w7:List Zad)(kg:Int→List Zad→Option (List Zad)),w7.length≤100→v8≤100→∀(k i fu:Nat),l.length-i=k→i≤l.length→k+1≤fu →
   ZbK l sec nsh (v8:Int) kg fu (i:Int) w7 (((ZhC (l.take i) sec nsh v8).length:Nat):Int) (ZhC (l.take i) sec nsh v8)=kg ((v8+1:Nat):Int) (w7++[shF (ZhC l sec nsh v8) []]):=by
  intro v8 w7 kg hw hv k;induction k with
  |zero=>
   intro i fu hk hi hf;obtain⟨fu,rfl⟩ : ∃x,fu=x+1:=⟨fu-1,by omega⟩;have e1:Zaw (v8:Int) 1=((v8+1:Nat):Int):=add1 (n:=v8+1) (by omega) (by simp only[maxLen];omega);unfold ZbK;rw[Zal,if_neg (by omega),List.take_of_length_le (by omega),Zay ⟨by simp;omega,by simp[maxLen];omega⟩,e1];unfold shF;rw[List.append_nil]
  |succ k ih=>
   intro i fu hk hi hf;obtain⟨fu,rfl⟩ : ∃x,fu=x+1:=⟨fu-1,by omega⟩;have hil:i<l.length:=by omega
   have e1:Zaw (i:Int) 1=((i+1:Nat):Int):=add1 (n:=i+1) (by omega) (by simp only[maxLen];omega);have hle:(ZhC (l.take i) sec nsh v8).length≤i:=by
    have:=List.length_filter_le (ZkO sec nsh v8) (l.take i);simp only[List.length_take]at this;unfold ZhC;omega
   have htk:l.take (i+1)=l.take i++[l.getD i Zaa.d]:=by rw[List.take_succ_eq_append_getElem hil,Zdk l _ i hil]
   have hp:=(ZrE (l.getD i Zaa.d).fEnd.fAddr (hok _ (Zhd l _ i hil)).1.1 sec nsh).2.1;unfold ZbK;rw[Zal,if_pos (by omega),Zay ⟨by omega,by omega⟩,Int.toNat_natCast,hp,ZaL,Zco];have e2:∀(b:Bool),ZkO sec nsh v8 (l.getD i Zaa.d)=b→ZhC (l.take (i+1)) sec nsh v8=ZhC (l.take i) sec nsh v8++(if b=true then[l.getD i Zaa.d]else[]):=by
    intro b hb;unfold ZhC;rw[htk,List.filter_append];cases b with
    |true=>rw[List.filter_cons_of_pos hb];rfl
    |false=>rw[List.filter_cons_of_neg (by rw[hb];decide)];rfl
   by_cases h:Zks (l.getD i Zaa.d).fEnd.fAddr sec nsh=(v8:Int)
   ·rw[if_pos h,Zay ⟨by simp only[List.length_append,List.length_singleton];omega,by simp only[List.length_append,List.length_singleton,maxLen];omega⟩,e1];have e3:Zaw (((ZhC (l.take i) sec nsh v8).length:Nat):Int) 1=(((ZhC (l.take i) sec nsh v8).length+1:Nat):Int):=add1 (n:=(ZhC (l.take i) sec nsh v8).length+1) (by omega) (by simp only[maxLen];omega);have:=ih (i+1) fu (by omega) (by omega) (by omega);rw[e2 true (by unfold ZkO;rw[decide_eq_true_eq];exact h)]at this;simp only[if_true,List.length_append,List.length_singleton]at this;rw[e3];exact this
   ·rw[if_neg h,e1];have:=ih (i+1) fu (by omega) (by omega) (by omega);rw[e2 false (by unfold ZkO;rw[decide_eq_false_iff_not];exact h)]at this;simp only[Bool.false_eq_true,if_false,List.append_nil]at this;exact this
 have outer:∀(k i fu:Nat),ZcA nsh-i=k→i≤ZcA nsh→k+1≤fu→Zbu l sec nsh fu (i:Int) (shP (ps0 l sec nsh i))=some (shP (ps0 l sec nsh (ZcA nsh))):=by
  intro k;induction k with
  |zero=>
   intro i fu hk hi hf;obtain⟨fu,rfl⟩ : ∃x,fu=x+1:=⟨fu-1,by omega⟩;have:i=ZcA nsh:=by omega
   subst this;unfold Zbu;rw[Zuj,ZaL,Zal,if_neg (by omega)]
  |succ k ih=>
   intro i fu hk hi hf;obtain⟨fu,rfl⟩ : ∃x,fu=x+1:=⟨fu-1,by omega⟩;unfold Zbu;rw[Zuj,ZaL,Zal,if_pos (by omega)];have h:=inner i (shP (ps0 l sec nsh i)) (Zbu l sec nsh fu) (by rw[ZmQ,Zpt];omega) (by omega) l.length 0 ((((l.length:Nat):Int)-(0:Int)).toNat+2) (by omega) (by omega) (by omega);have e0:ZhC (l.take 0) sec nsh i=[]:=by simp[ZhC]
   rw[e0]at h;have e:shP (ps0 l sec nsh i)++[shF (ZhC l sec nsh i) []]=shP (ps0 l sec nsh (i+1)):=by
    unfold shP ps0;rw[List.range_succ];simp
   rw[e]at h;refine h.trans ?_;exact ih (i+1) fu (by omega) (by omega) (by omega)
 exact outer (ZcA nsh) 0 1000000 (by omega) (by omega) (by omega)
theorem ZFs(a b:Prs)(h:(a++b).length≤10000):Zfc (shF a b)=some a:=by
 have hl:(a++b).length=a.length+b.length:=List.length_append;have main:∀(k i fu:Nat),a.length-i=k→i≤a.length→k+1≤fu→Zch fu (i:Int) (a.take i) (shF a b)=some a:=by
  intro k;induction k with
  |zero=>
   intro i fu hk hi hf;obtain⟨fu,rfl⟩ : ∃x,fu=x+1:=⟨fu-1,by omega⟩;unfold Zch;rw[Zal,if_neg (by show ¬((i:Int)<(a.length:Int));omega),List.take_of_length_le (by omega)]
  |succ k ih=>
   intro i fu hk hi hf;obtain⟨fu,rfl⟩ : ∃x,fu=x+1:=⟨fu-1,by omega⟩;have hil:i<a.length:=by omega
   have e1:Zaw (i:Int) 1=((i+1:Nat):Int):=add1 (n:=i+1) (by omega) (by simp only[maxLen];omega);have e2:(a++b).getD i Zaa.d=a.getD i Zaa.d:=by simp[List.getD_eq_getElem?_getD,List.getElem?_append_left hil]
   have e3:a.take (i+1)=a.take i++[a.getD i Zaa.d]:=by rw[List.take_succ_eq_append_getElem hil,Zdk a _ i hil]
   unfold Zch;rw[Zal,if_pos (by show (i:Int)<(a.length:Int);omega),Zal,if_pos (by show (i:Int)<(((a++b).length:Nat):Int);omega)];show (need (0≤(i:Int)∧(i:Int)<(((a++b).length:Nat):Int)) _)=_;rw[Zay ⟨by omega,by omega⟩,Int.toNat_natCast];show (need _ _)=_;rw[show (shF a b).fSlots=a++b from rfl,e2,←e3,Zay ⟨by simp only[List.length_take];omega,by simp only[List.length_take,maxLen];omega⟩,e1];exact ih (i+1) fu (by omega) (by omega) (by omega)
 exact main a.length 0 1000000 (by omega) (by omega) (by omega)
theorem ZBY(ps:PPs)(h1:ps.length≤100)(h2:∀x∈ps,(x.1++x.2).length≤1000):ZdM (shP ps)=some (ZnI (ps.map (·.1)).flatten):=by
 have hlen:∀i,i≤ps.length→((ps.take i).map (·.1)).flatten.length≤i * 1000:=by
  intro i;induction i with
  |zero=>intro _;simp
  |succ i ih=>
   intro h;have hi:i<ps.length:=by omega
   have:=h2 _ (Zhd ps ([],[]) i hi);rw[List.length_append]at this;rw[List.take_succ_eq_append_getElem hi,List.map_append,List.flatten_append,List.length_append];have e:ps[i]=ps.getD i ([],[]):=(Zdk ps _ i hi).symm;simp only[List.map_cons,List.map_nil,List.flatten_cons,List.flatten_nil,List.append_nil,e];have:=ih (by omega);omega
 have main:∀(k i fu:Nat),ps.length-i=k→i≤ps.length→k+1≤fu→Zcq (shP ps) fu (i:Int) ((ps.take i).map (·.1)).flatten=some (ZnI (ps.map (·.1)).flatten):=by
  intro k;induction k with
  |zero=>
   intro i fu hk hi hf;obtain⟨fu,rfl⟩ : ∃x,fu=x+1:=⟨fu-1,by omega⟩;have:=hlen ps.length (Nat.le_refl _);rw[List.take_length]at this;unfold Zcq;rw[ZmQ,Zal,if_neg (by omega),List.take_of_length_le (by omega),ZAo _ (by omega)];rfl
  |succ k ih=>
   intro i fu hk hi hf;obtain⟨fu,rfl⟩ : ∃x,fu=x+1:=⟨fu-1,by omega⟩;have hil:i<ps.length:=by omega
   have e1:Zaw (i:Int) 1=((i+1:Nat):Int):=add1 (n:=i+1) (by omega) (by simp only[maxLen];omega);have h3:=h2 _ (Zhd ps ([],[]) i hil);have e3:((ps.take i).map (·.1)).flatten++(ps.getD i ([],[])).1=((ps.take (i+1)).map (·.1)).flatten:=by
    rw[List.take_succ_eq_append_getElem hil,List.map_append,List.flatten_append,Zdk ps _ i hil];simp
   have h4:=hlen (i+1) (by omega);unfold Zcq;rw[ZmQ,Zal,if_pos (by omega),Zay ⟨by omega,by omega⟩,Int.toNat_natCast,ZBq ps hil,ZFs _ _ (by omega),ZaL,e3,Zay ⟨by omega,by unfold maxLen;omega⟩,e1];exact ih (i+1) fu (by omega) (by omega) (by omega)
 unfold ZdM;have:=main ps.length 0 ((((shP ps).length:Nat)-(0:Int)).toNat+2) (by omega) (by omega) (by rw[ZmQ];omega);simpa using this
theorem ZCT{inn out:Int}{bans bans2:List Zab}{book book2:List Zac}{sh:List Zad}{n:Nat}(hn:n≤100){peers:Prs}(hp:peers.length≤1000){d:Int}(h1:inn=cntP peers true)(h2:out=d) :
  Zdi (memM inn out bans book sh n fun _=>Zkt) ⟨bans2,book2,peers⟩ d=some true:=by
 have c1:∀(kg:Int→Int→ZaC→Zap→Option Bool)(v8:Int)(k i fu:Nat),n+2-i=k→i≤n+2→k+1≤fu→Zcs d inn v8 (memM inn out bans book sh n fun _=>Zkt) ⟨bans2,book2,peers⟩ kg fu (i:Int)=some true:=by
  intro kg v8 k;induction k with
  |zero=>
   intro i fu hk hi hf;obtain⟨fu,rfl⟩ : ∃x,fu=x+1:=⟨fu-1,by omega⟩;unfold Zcs;show (bif(decide ((i:Int)<(((lks n fun _=>Zkt).length:Nat):Int)))then _ else _)=_;rw[ZsE,Zal,if_neg (by omega)];show (bif(inn==inn)then some (out==d)else some false)=_;rw[beq_self_eq_true,cond_true,h2,beq_self_eq_true]
  |succ k ih=>
   intro i fu hk hi hf;obtain⟨fu,rfl⟩ : ∃x,fu=x+1:=⟨fu-1,by omega⟩;have e1:Zaw (i:Int) 1=((i+1:Nat):Int):=add1 (n:=i+1) (by omega) (by simp only[maxLen];omega);unfold Zcs;show (bif(decide ((i:Int)<(((lks n fun _=>Zkt).length:Nat):Int)))then _ else _)=_;rw[ZsE,Zal,if_pos (by omega)];show (need (0≤(i:Int)∧(i:Int)<(((lks n fun _=>Zkt).length:Nat):Int)) _)=_;rw[ZsE,Zay ⟨by omega,by omega⟩,Int.toNat_natCast];show (bif(((lks n fun _=>Zkt).getD i Zat.d).fBy != 0)then _ else _)=_;rw[Zyc _ (by omega)];show (bif(decide (((((lks n fun _=>Zkt).getD i Zat.d).fShare.length:Nat):Int)>0))then _ else _)=_;rw[Zyc _ (by omega),e1];exact ih (i+1) fu (by omega) (by omega) (by omega)
 have c0:∀(k i fu:Nat),peers.length-i=k→i≤peers.length→k+1≤fu→Zbq d fu (cntP (peers.take i) true) (i:Int) (memM inn out bans book sh n fun _=>Zkt) ⟨bans2,book2,peers⟩=some true:=by
  intro k;induction k with
  |zero=>
   intro i fu hk hi hf;obtain⟨fu,rfl⟩ : ∃x,fu=x+1:=⟨fu-1,by omega⟩;unfold Zbq;rw[Zal,if_neg (by show ¬((i:Int)<((peers.length:Nat):Int));omega),List.take_of_length_le (by omega),←h1];exact c1 _ _ (n+2) 0 1000000 (by omega) (by omega) (by omega)
  |succ k ih=>
   intro i fu hk hi hf;obtain⟨fu,rfl⟩ : ∃x,fu=x+1:=⟨fu-1,by omega⟩;have hil:i<peers.length:=by omega
   have e1:Zaw (i:Int) 1=((i+1:Nat):Int):=add1 (n:=i+1) (by omega) (by simp only[maxLen];omega);have e3:peers.take (i+1)=peers.take i++[peers.getD i Zaa.d]:=by rw[List.take_succ_eq_append_getElem hil,Zdk peers _ i hil]
   have hc:=Zlh (peers.take i) true;have e4:cntP (peers.take (i+1)) true=cntP (peers.take i) true+(if(peers.getD i Zaa.d).fIn=true then 1 else 0):=by
    unfold cntP;rw[e3,List.countP_append];generalize peers.getD i Zaa.d=q;cases h:q.fIn<;>simp[h]
   have hl:(peers.take i).length≤1000:=by simp;omega
   unfold Zbq;rw[Zal,if_pos (by show (i:Int)<((peers.length:Nat):Int);omega)];show (need (0≤(i:Int)∧(i:Int)<((peers.length:Nat):Int)) _)=_;rw[Zay ⟨by omega,by omega⟩,Int.toNat_natCast,e1];have:=ih (i+1) fu (by omega) (by omega) (by omega);rw[e4]at this;show (bif(peers.getD i Zaa.d).fIn then _ else _)=_;cases hin:(peers.getD i Zaa.d).fIn with
   |true=>
    rw[hin,if_pos rfl]at this;rw[cond_true,ZfP (by omega) (by omega)];exact this
   |false=>
    rw[hin,if_neg (by decide),Int.add_zero]at this;rw[cond_false];exact this
 have:=c0 peers.length 0 1000000 (by omega) (by omega) (by omega);have e0:cntP (peers.take 0) true=0:=by simp[cntP]
 rw[e0]at this;exact this
theorem ZDP(c:ZaB)(s:Zap)(hok:∀p∈s.fPeers,p.ok)(h1:s.fPeers.length≤100)(h2:s.fBook.length≤100) :
  Zgl c s=some (memM (cntP s.fPeers true) (cntP s.fPeers false+Zen s.fBook 2) s.fBans s.fBook (shP (ps0 s.fPeers c.fSecret c.fShards (ZcA c.fShards))) (ZcA c.fShards) fun _=>Zkt):=by
 have h8:=ZgO c.fShards;have hc:=Zlh s.fPeers false;have hb:0≤Zen s.fBook 2∧Zen s.fBook 2≤100:=by
  unfold Zen;have:=List.countP_le_length (p:=fun x:Zac=>decide (x.fState=2)) (l:=s.fBook);omega
 have e2:Zaw ((ZcA c.fShards:Nat):Int) 2=((ZcA c.fShards+2:Nat):Int):=by rw[ZfP (by omega) (by omega)];omega
 unfold Zgl;rw[ZmS _ _ (by unfold maxLen;omega),ZaL,ZmS _ _ (by unfold maxLen;omega),ZaL,Zwh _ _ (by unfold maxLen;omega),ZaL,ZAk _ _ _ (by omega) hok,ZaL];simp only[ZmQ,Zpt,e2];rw[Zay ⟨by omega,by omega,by omega,by omega⟩,ZfP (by omega) (by omega)];have e3:List.replicate ((ZcA c.fShards+2:Nat):Int).toNat Zat.d=lks (ZcA c.fShards) fun _=>Zkt:=by
  rw[Int.toNat_natCast];apply List.ext_getElem
  ·simp[lks]
  ·intro i h1 h2;simp[lks];rfl
 rw[e3];rfl
theorem ZAi{inn out:Int}{bans:List Zab}{book:List Zac}{ps:PPs}{n:Nat}{f:Nat→Zat}(h1:ps.length≤100)(h2:∀x∈ps,(x.1++x.2).length≤1000){peers:Prs}(hp:StrP peers)(hperm:((ps.map (·.1)).flatten).Perm peers) :
  Zct (memM inn out bans book (shP ps) n f)=some ⟨bans,book,peers⟩:=by
 unfold Zct;show ((ZdM (shP ps)).bind fun x1=>some (Zap.mk bans book x1))=_;rw[ZBY ps h1 h2,ZaL,ZwE hp hperm]
theorem ZtD(s:Zap)(h1:s.fBans.length≤1000000)(h2:s.fBook.length≤1000000)(h3:s.fPeers.length≤1000000):ZcG s s=some true:=by
 unfold ZcG;rw[ZuM _ h1,ZaL,cond_true,ZuL _ h2,ZaL,cond_true,Zpc _ h3];rfl
theorem Zrj(s:Zap)(h1:s.fPeers.length≤1000)(h2:s.fBook.length≤1000):ZbC s=some (cntP s.fPeers false+Zen s.fBook 2):=by
 have hc:=Zlh s.fPeers false;have hb:0≤Zen s.fBook 2∧Zen s.fBook 2≤1000:=by
  unfold Zen;have:=List.countP_le_length (p:=fun x:Zac=>decide (x.fState=2)) (l:=s.fBook);omega
 unfold ZbC;rw[ZmS _ _ (by unfold maxLen;omega),ZaL,Zwh _ _ (by unfold maxLen;omega),ZaL,ZfP (by omega) (by omega)]
theorem ZFE(n a b:Int):Zba n a b=some (decide (n≥a)&&decide (n≤b)):=by
 unfold Zba;cases decide (n≥a)<;>rfl
theorem Zvv{α:Type}{c:Bool}{x y:Option α}(h1:∃b,x=some b)(h2:∃b,y=some b):∃b,(bif c then x else y)=some b:=by
 cases c
 ·exact h2
 ·exact h1
theorem ZFn(c:ZaB):∃b,Zeg c=some b:=by
 unfold Zeg;simp only[Zcj,ZcK,ZFE,ZaL]
 repeat' first|exact⟨_,rfl⟩|apply Zvv
theorem ZFo(p:Zaa)(h:p.ok):∃b,Zff p=some b:=by
 unfold Zff;rw[ZnZ _ h.1,ZaL]
 repeat' first|exact⟨_,rfl⟩|apply Zvv
theorem ZFm(l:Prs)(hl:l.length≤1000)(hok:∀p∈l,p.ok):∃b,ZgK l=some b∧(b=true→StrP l):=by
 have inner:∀(v3:Nat)(kg:Int→Option Bool)(Q:Prop),v3<l.length→(∃b,kg ((v3+1:Nat):Int)=some b∧(b=true→Q))→∀(k i fu:Nat),v3-i=k→i≤v3→k+1≤fu →
   ∃b,Zci l (v3:Int) kg fu (i:Int)=some b∧(b=true→Q∧∀j,i≤j→j<v3→cmpE (l.getD j Zaa.d).fEnd (l.getD v3 Zaa.d).fEnd<0):=by
  intro v3 kg Q hv hkg k;induction k with
  |zero=>
   intro i fu hk hi hf;obtain⟨fu,rfl⟩ : ∃x,fu=x+1:=⟨fu-1,by omega⟩;have e1:Zaw (v3:Int) 1=((v3+1:Nat):Int):=add1 (n:=v3+1) (by omega) (by simp only[maxLen];omega);unfold Zci;rw[Zal,if_neg (by omega),e1];obtain⟨b,h1,h2⟩:=hkg;exact⟨b,h1,fun hb=>⟨h2 hb,fun j h3 h4=>by omega⟩⟩
  |succ k ih=>
   intro i fu hk hi hf;obtain⟨fu,rfl⟩ : ∃x,fu=x+1:=⟨fu-1,by omega⟩;have e1:Zaw (i:Int) 1=((i+1:Nat):Int):=add1 (n:=i+1) (by omega) (by simp only[maxLen];omega);unfold Zci;rw[Zal,if_pos (by omega),Zay ⟨by omega,by omega⟩,Zay ⟨by omega,by omega⟩,Int.toNat_natCast,Int.toNat_natCast,ZuS,ZaL,Zal,e1];by_cases h:cmpE (l.getD i Zaa.d).fEnd (l.getD v3 Zaa.d).fEnd≥0
   ·rw[if_pos h];exact⟨_,rfl,fun e=>by cases e⟩
   ·rw[if_neg h];obtain⟨b,h1,h2⟩:=ih (i+1) fu (by omega) (by omega) (by omega);refine⟨b,h1,fun hb=>⟨(h2 hb).1,fun j h3 h4=>?_⟩⟩;by_cases hj:j=i
    ·subst hj;omega
    ·exact(h2 hb).2 j (by omega) h4
 have outer:∀(k i fu:Nat),l.length-i=k→i≤l.length→k+1≤fu→∃b,Zbv l fu (i:Int)=some b∧(b=true→∀q j,i≤q→j<q→q<l.length→cmpE (l.getD j Zaa.d).fEnd (l.getD q Zaa.d).fEnd<0):=by
  intro k;induction k with
  |zero=>
   intro i fu hk hi hf;obtain⟨fu,rfl⟩ : ∃x,fu=x+1:=⟨fu-1,by omega⟩;unfold Zbv;rw[Zal,if_neg (by omega)];exact⟨_,rfl,fun _ q j h1 h2 h3=>by omega⟩
  |succ k ih=>
   intro i fu hk hi hf;obtain⟨fu,rfl⟩ : ∃x,fu=x+1:=⟨fu-1,by omega⟩;obtain⟨b1,hb1⟩:=ZFo _ (hok _ (Zhd l Zaa.d i (by omega)));unfold Zbv;rw[Zal,if_pos (by omega),Zay ⟨by omega,by omega⟩,Int.toNat_natCast,hb1,ZaL];cases b1 with
   |false=>exact⟨_,rfl,fun e=>by cases e⟩
   |true=>
    rw[Bool.not_true,cond_false];obtain⟨b,h1,h2⟩:=inner i (Zbv l fu) _ (by omega) (ih (i+1) fu (by omega) (by omega) (by omega)) i 0 (((i:Int)-(0:Int)).toNat+2) (by omega) (by omega) (by omega);refine⟨b,h1,fun hb q j h3 h4 h5=>?_⟩;obtain⟨h6,h7⟩:=h2 hb;by_cases hq:q=i
    ·subst hq;exact h7 j (Nat.zero_le _) h4
    ·exact h6 q j (by omega) h4 h5
 obtain⟨b,h1,h2⟩:=outer l.length 0 ((((l.length:Nat):Int)-(0:Int)).toNat+2) (by omega) (by omega) (by omega);refine⟨b,h1,fun hb=>?_⟩;unfold StrP;rw[List.pairwise_iff_getElem];intro j q hj hq hlt;have:=h2 hb q j (Nat.zero_le _) hlt hq;rw[Zdk l _ j hj,Zdk l _ q hq]at this;exact Zoi.2 this
def upR(l:Prs)(e:Zac):Prop:=e.fState=3↔0≤ZeP l e.fEnd∧(l.getD (ZeP l e.fEnd).toNat Zaa.d).fIn=false
structure RtS (c:ZaB) (s:Zap):Prop where
 conf:Zeg c=some true
 peers:StrP s.fPeers
 book:ZBy s.fBook=true
 up:∀e∈s.fBook,upR s.fPeers e
theorem ZFl(c:ZaB)(s:Zap)(hs:s.ok)(h1:s.fBans.length≤20)(h2:s.fBook.length≤20)(h3:s.fPeers.length≤20):∃b,ZeY c s=some b∧(b=true→RtS c s):=by
 obtain⟨⟨_,okb⟩,⟨_,oke⟩,⟨_,okp⟩,_⟩:=hs;have c1:∀(v5:Int)(kg:Int→Zap→Option Bool)(k i fu:Nat),s.fPeers.length-i=k→i≤s.fPeers.length→k+1≤fu→∃b,ZbJ v5 s kg fu (i:Int)=some b:=by
  intro v5 kg k;induction k with
  |zero=>
   intro i fu hk hi hf;obtain⟨fu,rfl⟩ : ∃x,fu=x+1:=⟨fu-1,by omega⟩;unfold ZbJ;rw[Zal,if_neg (by omega)];exact⟨_,rfl⟩
  |succ k ih=>
   intro i fu hk hi hf;obtain⟨fu,rfl⟩ : ∃x,fu=x+1:=⟨fu-1,by omega⟩;have e1:Zaw (i:Int) 1=((i+1:Nat):Int):=add1 (n:=i+1) (by omega) (by simp only[maxLen];omega);unfold ZbJ;rw[Zal,if_pos (by omega),Zay ⟨by omega,by omega⟩,Int.toNat_natCast,e1,ZDD _ _ (by unfold maxLen;omega),ZaL];exact Zvv (Zvv ⟨_,rfl⟩ (ih (i+1) fu (by omega) (by omega) (by omega))) (ih (i+1) fu (by omega) (by omega) (by omega))
 have c0:∀(k i fu:Nat),s.fBook.length-i=k→i≤s.fBook.length→k+1≤fu→∃b,Zbf fu (i:Int) s=some b∧(b=true→∀j,i≤j→j<s.fBook.length→upR s.fPeers (s.fBook.getD j Zac.d)):=by
  intro k;induction k with
  |zero=>
   intro i fu hk hi hf;obtain⟨fu,rfl⟩ : ∃x,fu=x+1:=⟨fu-1,by omega⟩;unfold Zbf;rw[Zal,if_neg (by omega)];obtain⟨b,hb⟩:=c1 (i:Int) (Zbf fu) s.fPeers.length 0 1000000 (by omega) (by omega) (by omega);exact⟨b,hb,fun _ j h4 h5=>by omega⟩
  |succ k ih=>
   intro i fu hk hi hf;obtain⟨fu,rfl⟩ : ∃x,fu=x+1:=⟨fu-1,by omega⟩;have e1:Zaw (i:Int) 1=((i+1:Nat):Int):=add1 (n:=i+1) (by omega) (by simp only[maxLen];omega);obtain⟨b,hb1,hb2⟩:=ih (i+1) fu (by omega) (by omega) (by omega);have hlt:=ZoO s.fPeers (s.fBook.getD i Zac.d).fEnd;have fin:∀{P:Prop},(P↔upR s.fPeers (s.fBook.getD i Zac.d))→P→b=true→∀j,i≤j→j<s.fBook.length→upR s.fPeers (s.fBook.getD j Zac.d):=fun hP hp hb j h4 h5=>by
    by_cases hj:j=i
    ·subst hj;exact hP.1 hp
    ·exact hb2 hb j (by omega) h5
   unfold Zbf;rw[Zal,if_pos (by omega),Zay ⟨by omega,by omega⟩,Int.toNat_natCast,e1,Zij _ _ (by unfold maxLen;omega),ZaL,Zal];by_cases hf0:ZeP s.fPeers (s.fBook.getD i Zac.d).fEnd≥0
   ·rw[if_pos hf0,Zay ⟨hf0,hlt⟩];cases hq:(((s.fBook.getD i Zac.d).fState==3) == !(s.fPeers.getD (ZeP s.fPeers (s.fBook.getD i Zac.d).fEnd).toNat Zaa.d).fIn)with
    |false=>exact⟨_,rfl,fun e=>by cases e⟩
    |true=>
     refine⟨b,hb1,fin Iff.rfl ?_⟩;rw[beq_iff_eq]at hq;unfold upR;rw[←beq_iff_eq,hq];generalize (s.fPeers.getD (ZeP s.fPeers (s.fBook.getD i Zac.d).fEnd).toNat Zaa.d).fIn=z;exact⟨fun h=>⟨hf0,by cases z<;>first|rfl|cases h⟩,fun h=>by rw[h.2];rfl⟩
   ·rw[if_neg hf0];cases hq:(((s.fBook.getD i Zac.d).fState==3)==false)with
    |false=>exact⟨_,rfl,fun e=>by cases e⟩
    |true=>
     refine⟨b,hb1,fin Iff.rfl ?_⟩;rw[beq_iff_eq]at hq;unfold upR;rw[←beq_iff_eq,hq];exact⟨fun h=>(by cases h),fun h=>absurd h.1 hf0⟩
 obtain⟨b1,hb1⟩:=ZFn c;obtain⟨b2,hb2,_⟩:=ZAp s.fBans (by unfold maxLen;omega) okb;obtain⟨b4,hb4,hb4'⟩:=ZFm s.fPeers (by omega) okp;obtain⟨b7,hb7,hb7'⟩:=c0 s.fBook.length 0 1000000 (by omega) (by omega) (by omega);unfold ZeY;rw[hb1,ZaL];cases b1 with
 |false=>exact⟨_,rfl,fun e=>by cases e⟩
 |true=>
  rw[Bool.not_true,cond_false,hb2,ZaL];cases b2 with
  |false=>exact⟨_,rfl,fun e=>by cases e⟩
  |true=>
   rw[Bool.not_true,cond_false,ZuT _ (by unfold maxLen;omega) oke,ZaL];cases hb3:ZBy s.fBook with
   |false=>exact⟨_,rfl,fun e=>by cases e⟩
   |true=>
    rw[Bool.not_true,cond_false,hb4,ZaL];cases b4 with
    |false=>exact⟨_,rfl,fun e=>by cases e⟩
    |true=>
     rw[Bool.not_true,cond_false,ZmS _ _ (by unfold maxLen;omega),ZaL,Zrj _ (by omega) (by omega),ZaL];cases decide (((s.fBans.length:Nat):Int)>c.fMaxBans)with
     |true=>exact⟨_,rfl,fun e=>by cases e⟩
     |false=>
      rw[cond_false];cases decide (((s.fBook.length:Nat):Int)>c.fMaxBook)with
      |true=>exact⟨_,rfl,fun e=>by cases e⟩
      |false=>
       rw[cond_false];cases decide (cntP s.fPeers true>c.fMaxIn)with
       |true=>exact⟨_,rfl,fun e=>by cases e⟩
       |false=>
        rw[cond_false];cases decide (cntP s.fPeers false+Zen s.fBook 2>c.fMaxOut)with
        |true=>exact⟨_,rfl,fun e=>by cases e⟩
        |false=>
         rw[cond_false];refine⟨b7,hb7,fun hb=>⟨hb1,hb4' rfl,hb3,fun e he=>?_⟩⟩;obtain⟨j,hj,rfl⟩:=List.getElem_of_mem he;have:=hb7' hb j (Nat.zero_le _) hj;rwa [Zdk s.fBook _ j hj]at this
theorem ZFh(s:Zap):∃b,Zfj s=some b∧(b=true→s.fBans.length≤20∧s.fBook.length≤20∧s.fPeers.length≤20):=by
 unfold Zfj;rw[Zal,Zal];by_cases h1:((s.fBans.length:Nat):Int)≤20
 ·rw[if_pos h1];by_cases h2:((s.fBook.length:Nat):Int)≤20
  ·rw[if_pos h2];exact⟨_,rfl,fun h=>by rw[decide_eq_true_eq]at h;omega⟩
  ·rw[if_neg h2];exact⟨_,rfl,fun e=>by cases e⟩
 ·rw[if_neg h1];exact⟨_,rfl,fun e=>by cases e⟩
theorem ZzJ{l:Prs}{e:Zag}:ZeP l e<0↔∀p∈l,p.fEnd≠e:=by
 unfold ZeP;rw[ZpZ];simp
theorem Zvu{l:Prs}{e:Zag}(h:0≤ZeP l e):∃k:Nat,k<l.length∧ZeP l e=(k:Int)∧(l.getD k Zaa.d).fEnd=e∧∀j,j<k→(l.getD j Zaa.d).fEnd≠e:=by
 obtain⟨k,h1,h2,⟨x,h3,h4⟩,h5⟩:=ZoJ (fun x:Zaa=>decide (x.fEnd=e)) l 0 h;refine⟨k,h1,by unfold ZeP;rw[h2,Nat.zero_add],?_,fun j hj=>?_⟩
 ·have:l.getD k Zaa.d=x:=by rw[List.getD_eq_getElem?_getD,h3];rfl
  rw[this];exact of_decide_eq_true h4
 ·have:=h5 j hj;obtain⟨y,h6,h7⟩:=this;have e2:l.getD j Zaa.d=y:=by rw[List.getD_eq_getElem?_getD,h6];rfl
  rw[e2];exact of_decide_eq_false h7
def butK(l:Prs)(k:Nat):Prs:=l.take k++l.drop (k+1)
theorem ZqB{l:Prs}{k:Nat}(hk:k<l.length):l.Perm (l.getD k Zaa.d :: butK l k):=by
 have e:l=l.take k++l.getD k Zaa.d :: l.drop (k+1):=by rw[←ZfK l _ k hk,List.take_append_drop]
 conv=>lhs;rw[e]
 exact List.perm_middle
theorem Zsd{l:Prs}{k:Nat}(hk:k<l.length)(y:Zaa):(l.set k y).Perm (y :: butK l k):=by
 have h:=ZqB (l:=l.set k y) (k:=k) (by simpa using hk);rw[ZrG l _ hk]at h;have e:butK (l.set k y) k=butK l k:=by
  unfold butK;rw[List.take_set_of_le (Nat.le_refl k),List.drop_set_of_lt (by omega)]
 rwa [e]at h
theorem ZCU{l:Prs}(hs:StrP l){e:Zag}{k:Nat}(hk:k<l.length)(he:(l.getD k Zaa.d).fEnd=e):butK l k=Zlj l [e]:=by
 have e1:l=l.take k++l.getD k Zaa.d :: l.drop (k+1):=by rw[←ZfK l _ k hk,List.take_append_drop]
 have hs':=hs;rw[e1]at hs';unfold StrP at hs';rw[List.pairwise_append,List.pairwise_cons]at hs';obtain⟨_,⟨h2,_⟩,h3⟩:=hs';unfold Zlj
 conv=>rhs;rw[e1]
 rw[List.filter_append,List.filter_cons_of_neg (by rw[he];simp)];unfold butK;congr 1
 ·symm;rw[List.filter_eq_self];intro p hp;have:=Zoi.1 (h3 p hp (l.getD k Zaa.d) List.mem_cons_self);have hne:p.fEnd≠e:=fun h=>by rw[h,←he,Zqx.2 rfl]at this;omega
  simp[hne]
 ·symm;rw[List.filter_eq_self];intro p hp;have:=Zoi.1 (h2 p hp);have hne:p.fEnd≠e:=fun h=>by rw[h,←he,Zqx.2 rfl]at this;omega
  simp[hne]
theorem ZvR{l:Prs}(h:StrP l)(k:Nat):StrP (butK l k):=by
 have e:(butK l k).Sublist l:=by
  unfold butK
  conv=>rhs;rw[←List.take_append_drop k l]
  refine List.Sublist.append (List.Sublist.refl _) ?_;have:l.drop (k+1)=(l.drop k).drop 1:=by rw[List.drop_drop]
  rw[this];exact List.drop_sublist 1 _
 exact List.Pairwise.sublist e h
theorem StrP.set{l:Prs}(h:StrP l){k:Nat}(hk:k<l.length){y:Zaa}(he:y.fEnd=(l.getD k Zaa.d).fEnd):StrP (l.set k y):=by
 unfold StrP at h ⊢;rw[List.pairwise_iff_getElem]at h ⊢;intro i j hi hj hij;simp only[List.length_set]at hi hj;have hh:=Zoi.1 (h i j hi hj hij);rw[Zdk l _ k hk]at he;rw[Zoi];simp only[List.getElem_set];by_cases h1:k=i<;>by_cases h2:k=j
 ·omega
 ·subst h1;rw[if_pos rfl,if_neg h2,he];exact hh
 ·subst h2;rw[if_neg h1,if_pos rfl,he];exact hh
 ·rw[if_neg h1,if_neg h2];exact hh
def oneI(b:Bool):Int:=if b=true then 1 else 0
theorem Ztp{a b:Prs}(h:a.Perm b)(t:Bool):cntP a t=cntP b t:=by
 unfold cntP;rw[h.countP_eq]
theorem Zxg(p:Zaa)(l:Prs)(t:Bool):cntP (p :: l) t=oneI (p.fIn==t)+cntP l t:=by
 unfold cntP oneI;rw[List.countP_cons];cases p.fIn==t<;>simp<;>omega
theorem ZEd(a b:Prs)(t:Bool):cntP (a++b) t=cntP a t+cntP b t:=by
 unfold cntP;rw[List.countP_append];omega
theorem Zto{l:Prs}{k:Nat}(hk:k<l.length)(t:Bool):cntP l t=oneI ((l.getD k Zaa.d).fIn==t)+cntP (butK l k) t:=by
 rw[Ztp (ZqB hk) t,Zxg]
theorem ZCI{l:Prs}{k:Nat}(hk:k<l.length){y:Zaa}(he:y.fIn=(l.getD k Zaa.d).fIn)(t:Bool):cntP (l.set k y) t=cntP l t:=by
 rw[Ztp (Zsd hk y) t,Zxg,Zto hk t,he]
theorem Ztn(l:List Zac)(ends:List Zag):Zen (l.map (ZkC ends)) 2=Zen l 2:=by
 unfold Zen;rw[List.countP_map];congr 2;funext e;simp only[Function.comp,ZkC];split
 ·rename_i h;split
  ·simp[h]
  ·rfl
 ·rfl
theorem Zxf{l:List Zac}{ends:List Zag}(h:∀e∈l,e.fState=3→e.fEnd ∉ ends):l.map (ZkC ends)=l:=by
 have:l.map (ZkC ends)=l.map id:=by
  apply List.map_congr_left;intro e he;unfold ZkC;split
  ·rename_i h3;rw[if_neg (by simpa using h e he h3)];rfl
  ·rfl
 rw[this,List.map_id]
section
variable {l:Prs} {sec nsh:Int} {n i:Nat} (hi:i < n) {e:Zag} (he:Zks e.fAddr sec nsh = (i:Int))
include hi he
omit hi in
theorem ZDK{p:Zaa}(hp:p∈l)(h:p.fEnd=e):p∈ZhC l sec nsh i:=by
 unfold ZhC;rw[List.mem_filter];exact⟨hp,by unfold ZkO;rw[decide_eq_true_eq,h];exact he⟩
omit hi he in
theorem ZuY{p:Zaa}(h:p∈ZhC l sec nsh i):p∈l:=(List.mem_filter.1 h).1
theorem Zwq:(ZeP (ZhC l sec nsh i) e<0↔ZeP l e<0):=by
 have _u:=hi;rw[ZzJ,ZzJ];exact⟨fun h p hp e2=>h p (ZDK he hp e2) e2,fun h p hp=>h p (ZuY hp)⟩
omit hi he in
theorem ZBK(hs:StrP l){k k':Nat}(hk:k<l.length)(hk':k'<(ZhC l sec nsh i).length)(h1:(l.getD k Zaa.d).fEnd=e)(h2:((ZhC l sec nsh i).getD k' Zaa.d).fEnd=e):(ZhC l sec nsh i).getD k' Zaa.d=l.getD k Zaa.d:=
 hs.inj (ZuY (Zhd _ _ k' hk')) (Zhd _ _ k hk) (h2.trans h1.symm)
end
theorem Zmh{l:Prs}(hok:∀p∈l,p.ok)(sec nsh:Int){i:Nat}(hi:i<ZcA nsh)(x b:Prs) :
  (((ps0 l sec nsh (ZcA nsh)).set i (x,b)).map (·.1)).flatten.Perm (x++Zkl ((ps0 l sec nsh (ZcA nsh)).map (·.1)) i)∧l.Perm (ZhC l sec nsh i++Zkl ((ps0 l sec nsh (ZcA nsh)).map (·.1)) i):=by
 have hlen:((ps0 l sec nsh (ZcA nsh)).map (·.1)).length=ZcA nsh:=by simp[ps0]
 have e:((ps0 l sec nsh (ZcA nsh)).set i (x,b)).map (·.1)=((ps0 l sec nsh (ZcA nsh)).map (·.1)).set i x:=by rw[List.map_set]
 have e2:((ps0 l sec nsh (ZcA nsh)).map (·.1)).getD i []=ZhC l sec nsh i:=by simp[ps0,List.getD_eq_getElem?_getD,hi]
 refine⟨by rw[e];exact ZDY _ (by omega) x,?_⟩;have h:=ZCn ((ps0 l sec nsh (ZcA nsh)).map (·.1)) (i:=i) (by omega);rw[e2]at h;exact(ZuW hok sec nsh).symm.trans h
theorem Zwp{l:Prs}(hok:∀p∈l,p.ok)(sec nsh:Int){i:Nat}(hi:i<ZcA nsh){k k':Nat}(hk:k<l.length)(hk':k'<(ZhC l sec nsh i).length)(hq:(ZhC l sec nsh i).getD k' Zaa.d=l.getD k Zaa.d) :
  (butK (ZhC l sec nsh i) k'++Zkl ((ps0 l sec nsh (ZcA nsh)).map (·.1)) i).Perm (butK l k):=by
 obtain⟨_,h2⟩:=Zmh hok sec nsh hi [] [];have h3:=((ZqB hk).symm.trans h2).trans ((ZqB hk').append_right _);rw[hq,List.cons_append]at h3;exact h3.cons_inv.symm
theorem ZDW{a b:Zaj}(ha:a.ok)(hr:ZeR a=true)(hb:b.ok)(h:hasS (Zgu a) b=true):b=a:=by
 unfold Zgu at h;rw[if_pos hr]at h;unfold hasS at h;simp only[Bool.and_eq_true,decide_eq_true_eq]at h;obtain⟨_,⟨h1,h2⟩,h3⟩:=h;have hw:wid b=wid a:=by unfold wid;rw[h2]
 exact ZrT (Znw hb h1) (Znw ha hr) h2.symm fun i hi=>by
  have:=h3 i (by show i<(((wid a:Nat):Int)).toNat;rw[Int.toNat_natCast];omega);exact this
def ZyS(c:ZaB)(s:Zap)(x:ZaA)(m0:ZaC)(p:Pr Zaq):Prop:=∃(r:Zaq)(inn out:Int)(bans:List Zab)(book:List Zac)(ps:PPs)(peers:Prs)(st:Nat),Ex p m0 r (memM inn out bans book (shP ps) (ZcA c.fShards) fun _=>Zkt) st 1∧st≤390∧ZaX c s x=some (⟨bans,book,peers⟩,r)∧StrP peers∧((ps.map (·.1)).flatten).Perm peers∧ps.length≤100∧(∀y∈ps,(y.1++y.2).length≤1000)∧inn=cntP peers true∧out=cntP peers false+Zen book 2∧bans.length≤1000∧book.length≤1000∧peers.length≤1000∧r.fPeers.length≤1000
theorem ZBk{f:Nat→Zat}{k:Nat}(h:f k=Zkt)(a:Zat):updL (updL f k a) k Zkt=f:=by rw[←h];exact ZBm f k a
theorem Ziw{inn out:Int}{bans:List Zab}{book:List Zac}{sh:List Zad}{n:Nat}{f:Nat→Zat}(hn1:1≤n)(hn8:n≤8)(hps:sh.length=n){k:Nat}(hk:k<n+2)(hf:f k=Zkt)(mark:Bool) :
  Ex (keyP 3 (k:Int) mark) (memM inn out bans book sh n (updL f k Zjw)) () (memM inn out bans book sh n f) 1 (bn mark):=by
 have h:=ZGd (inn:=inn) (out:=out) (bans:=bans) (book:=book) (f:=updL f k Zjw) hn1 hn8 hps hk [] (ZBl f k Zjw) mark;have e:updL (updL f k Zjw) k ⟨0,[]⟩=f:=ZBk hf Zjw;rwa [e]at h
theorem ZyJ(i:Nat):(2+(i:Int))=((2+i:Nat):Int):=by omega
theorem ZDJ(p:Zaa)(ms now:Int):(ZpO p ms).fEnd=p.fEnd∧(ZpO p ms).fIn=p.fIn∧(Zrm p now).fEnd=p.fEnd∧(Zrm p now).fIn=p.fIn:=by
 have h1:(ZpO p ms).fEnd=p.fEnd∧(ZpO p ms).fIn=p.fIn:=by
  unfold ZpO ZhF;simp only[Zal,Zco]
  repeat' split
  all_goals exact⟨rfl,rfl⟩
 have h2:(Zrm p now).fEnd=p.fEnd∧(Zrm p now).fIn=p.fIn:=by
  unfold Zrm Zgc;rw[ZnV,ZaL];exact⟨rfl,rfl⟩
 exact⟨h1.1,h1.2,h2.1,h2.2⟩
section
variable {c:ZaB} {s:Zap} {x:ZaA} (hx:x.ok) (hs:s.ok) (hR:RtS c s) (h20:s.fBans.length≤20∧s.fBook.length≤20∧s.fPeers.length≤20)
def iP(c:ZaB)(x:ZaA):Nat:=(pt c x).toNat
def bP(c:ZaB)(s:Zap)(x:ZaA):Prs:=ZhC s.fPeers c.fSecret c.fShards (iP c x)
def lP(c:ZaB)(s:Zap):PPs:=ps0 s.fPeers c.fSecret c.fShards (ZcA c.fShards)
def mP(c:ZaB)(s:Zap)(f:Nat→Zat):ZaC:=memM (cntP s.fPeers true) (cntP s.fPeers false+Zen s.fBook 2) s.fBans s.fBook (shP (lP c s)) (ZcA c.fShards) f
def fL:Nat→Zat:=fun _=>Zkt
def ZFp(c:ZaB)(s:Zap)(x:ZaA):Prs:=Zkl ((lP c s).map (·.1)) (iP c x)
theorem Zxs(c:ZaB)(s:Zap)(x:ZaA):(bP c s x).length≤s.fPeers.length:=List.length_filter_le _ _
theorem ZpY(c:ZaB)(s:Zap):(shP (lP c s)).length=ZcA c.fShards:=by rw[ZmQ];exact Zpt _ _ _ _
include hx in
theorem Zjx:iP c x<ZcA c.fShards∧pt c x=(iP c x:Int):=by
 have h:=Zzp hx.2.1.1 c.fSecret c.fShards;have e:pt c x=Zks x.fEnd.fAddr c.fSecret c.fShards:=rfl;unfold iP;omega
include hx in
theorem ZzE:(shP (lP c s)).getD (iP c x) Zad.d=⟨((bP c s x).length:Int),bP c s x++[]⟩:=by
 have h:=(Zjx (c:=c) hx).1;rw[ZBq _ (by unfold lP;rw[Zpt];exact h)];unfold lP;rw[ZFq _ _ _ h];rfl
theorem ZuV{now rest:Prs}(hl:(now++rest).length≤1000)(h20:s.fPeers.length≤20)(i:Nat):((lP c s).set i (now,rest)).length≤100∧∀y∈(lP c s).set i (now,rest),(y.1++y.2).length≤1000:=by
 have h8:=ZgO c.fShards;refine⟨by simp[lP,ps0];omega,fun y hy=>?_⟩;rcases List.mem_or_eq_of_mem_set hy with hy|rfl
 ·unfold lP ps0 at hy;obtain⟨k,_,rfl⟩:=List.mem_map.1 hy;have:=List.length_filter_le (ZkO c.fSecret c.fShards k) s.fPeers;simp only[List.append_nil];unfold ZhC;omega
 ·exact hl
theorem Zwo(h20:s.fPeers.length≤20):(lP c s).length≤100∧∀y∈lP c s,(y.1++y.2).length≤1000:=by
 have h8:=ZgO c.fShards;refine⟨by simp[lP,ps0];omega,fun y hy=>?_⟩;unfold lP ps0 at hy;obtain⟨k,_,rfl⟩:=List.mem_map.1 hy;have:=List.length_filter_le (ZkO c.fSecret c.fShards k) s.fPeers;simp only[List.append_nil];unfold ZhC;omega
include hx hs h20
theorem ZtA{f:Nat→Zat}(hf:f (2+iP c x)=Zkt):Ex (ZtK (iP c x:Int) x.fEnd) (mP c s f) (bP c s x,ZeP (bP c s x) x.fEnd) (mP c s (updL f (2+iP c x) Zjw)) 22 0:=by
 have h8:=ZgO c.fShards;have hi:=(Zjx (c:=c) hx).1;have hb:=Zxs c s x;have hok:∀p∈bP c s x,p.ok:=fun p hp=>hs.2.2.1.2 p (ZuY hp);unfold ZtK;rw[ZyJ];refine(ZvK h8.1 h8.2 (ZpY c s) (by omega) hf false).seq (s2:=21) (c2:=0) ?_ (by omega) rfl;exact(ZGb h8.1 h8.2 (ZpY c s) hi (ZzE hx) hok (by omega)).seq (.ret _ _ 0) (by omega) rfl
theorem Ex_wr(now:Prs)(hnow:now.length≤100)(f:Nat→Zat):Ex (ZpH (iP c x:Int) (bP c s x) now) (mP c s f) () (memM (cntP s.fPeers true) (cntP s.fPeers false+Zen s.fBook 2) s.fBans s.fBook (shP ((lP c s).set (iP c x) (now,(bP c s x).drop now.length))) (ZcA c.fShards) f) (now.length+1) 0:=by
 have _u:=hs;have h8:=ZgO c.fShards;have hi:=(Zjx (c:=c) hx).1;have hb:=Zxs c s x;have h:=ZAa (inn:=cntP s.fPeers true) (out:=cntP s.fPeers false+Zen s.fBook 2) (bans:=s.fBans) (book:=s.fBook) (f:=f) h8.1 h8.2 (ZpY c s) hi (bP c s x) [] now (by rw[List.append_nil];omega) (by omega) (ZzE hx);rw[List.append_nil]at h;have e:=ZxO (lP c s) (iP c x) now ((bP c s x).drop now.length);rw[←e];exact h
omit h20 hx in
theorem Zrk(h20:s.fBook.length≤20∧s.fPeers.length≤20):(0≤cntP s.fPeers true∧cntP s.fPeers true≤20)∧(0≤cntP s.fPeers false+Zen s.fBook 2∧cntP s.fPeers false+Zen s.fBook 2≤40):=by
 have _u:=hs;have h1:=Zlh s.fPeers true;have h2:=Zlh s.fPeers false;have h3:=List.countP_le_length (p:=fun x:Zac=>decide (x.fState=2)) (l:=s.fBook);have h4:0≤Zen s.fBook 2∧Zen s.fBook 2≤20:=by unfold Zen;omega
 omega
theorem ZmL(hB:ZhD x=true)(hk:x.fKind=2∨x.fKind=11∨x.fKind=12):ZaX c s x=Zcu c s x:=by
 have _u:=hs;have _w:=h20;have fin2:∀r:Option (Zap×Zaq),(r.bind fun y=>some (y.1,y.2))=r:=fun r=>by cases r<;>rfl
 have e9:(x.fKind==9)=false:=beq_false_of_ne (by omega);unfold ZaX Zdr;rw[ZmR x hx,ZaL,hB,Bool.not_true,cond_false,Zco,if_neg (by omega),Zco,if_neg (by omega),Zco,if_neg (by omega),Zco,if_neg (by omega),Zco,if_neg (by omega),Zco,if_neg (by omega),Zco,if_neg (by omega),e9,cond_false,Zco,if_neg (by omega),Zco,if_neg (by omega),fin2]
omit hs h20 in
theorem ZAU(hB:ZhD x=false):ZaX c s x=some (s,ZjI 1):=by
 unfold ZaX;rw[ZmR x hx,ZaL,hB,Bool.not_false,cond_true];rfl
theorem ZGC{e:Zag}{k:Nat}(hk:k<s.fPeers.length)(he:ZeP s.fPeers e=(k:Int)):ZfG s.fPeers e=some (butK s.fPeers k,0):=by
 have _u:=hx;have _v:=hs;have e1:Zaw (k:Int) 1=((k+1:Nat):Int):=add1 (n:=k+1) (by omega) (by simp only[maxLen];omega);unfold ZfG;simp only[List.nil_append];rw[Zij _ _ (by unfold maxLen;omega),ZaL,he,Zal,if_neg (by omega),Zay ⟨by omega,by omega⟩,Int.toNat_natCast,Zay ⟨by simp;omega,by simp[maxLen];omega⟩,e1,Zay ⟨by omega,by omega⟩,Int.toNat_natCast,Zay ⟨by simp;omega,by simp[maxLen];omega⟩];rfl
theorem set30{k:Nat}{y:Zaa}(hk:k<s.fPeers.length)(he:ZeP s.fPeers y.fEnd=(k:Int)):ZcY s.fPeers y=some (s.fPeers.set k y):=by
 have _u:=hx;have _v:=hs;unfold ZcY;simp only[List.nil_append];rw[Zij _ _ (by unfold maxLen;omega),ZaL,he,Zal,if_neg (by omega),Zay ⟨by omega,by unfold maxLen;omega⟩,Zay ⟨by omega,by omega⟩,Int.toNat_natCast]
include hR
theorem ZvJ(hB:ZhD x=true)(hk:x.fKind=2∨x.fKind=5∨x.fKind=11∨x.fKind=12)(hno:ZeP s.fPeers x.fEnd<0){p:Pr Zaq}(hp:Ex p (mP c s fL) (ZjI 6) (mP c s fL) 390 1):ZyS c s x (mP c s fL) p:=by
 have h8:=ZgO c.fShards;have hd:ZaX c s x=some (s,ZjI 6):=by
  rcases hk with h|h|h
  ·rw[ZmL hx hs h20 hB (by omega)];unfold Zcu;rw[Zij _ _ (by unfold maxLen;omega),ZaL,Zal,if_pos hno];rfl
  ·unfold ZaX;have fin2:∀r:Option (Zap×Zaq),(r.bind fun y=>some (y.1,y.2))=r:=fun r=>by cases r<;>rfl
   rw[ZmR x hx,ZaL,hB,Bool.not_true,cond_false,Zco,if_neg (by omega),Zco,if_neg (by omega),Zco,if_neg (by omega),Zco,if_pos h,fin2];unfold Zdq;rw[Zij _ _ (by unfold maxLen;omega),ZaL,Zal,if_pos hno];rfl
  ·rw[ZmL hx hs h20 hB (by omega)];unfold Zcu;rw[Zij _ _ (by unfold maxLen;omega),ZaL,Zal,if_pos hno];rfl
 obtain⟨q1,q2⟩:=Zwo (c:=c) h20.2.2;exact⟨ZjI 6,_,_,s.fBans,s.fBook,lP c s,s.fPeers,390,hp,Nat.le_refl _,hd,hR.peers,ZuW hs.2.2.1.2 _ _,q1,q2,rfl,rfl,by omega,by omega,by omega,Nat.zero_le _⟩
theorem ZDl(hB:ZhD x=false):ZyS c s x (mP c s fL) ZvL:=by
 have h8:=ZgO c.fShards;obtain⟨q1,q2⟩:=Zwo (c:=c) h20.2.2;have hp:Ex ZvL (mP c s fL) (ZjI 1) (mP c s fL) 390 1:=(ZGc h8.1 h8.2 (ZpY c s) true).seq (.ret _ _ 0) (by omega) rfl;exact⟨ZjI 1,_,_,s.fBans,s.fBook,lP c s,s.fPeers,390,hp,Nat.le_refl _,ZAU hx hB,hR.peers,ZuW hs.2.2.1.2 _ _,q1,q2,rfl,rfl,by omega,by omega,by omega,Nat.zero_le _⟩
theorem ZCm(hyes:0≤ZeP s.fPeers x.fEnd):∃k k':Nat,k<s.fPeers.length∧ZeP s.fPeers x.fEnd=(k:Int)∧(s.fPeers.getD k Zaa.d).fEnd=x.fEnd∧k'<(bP c s x).length∧ZeP (bP c s x) x.fEnd=(k':Int)∧(bP c s x).getD k' Zaa.d=s.fPeers.getD k Zaa.d:=by
 have _u:=hs;have _v:=h20;obtain⟨hi,hp⟩:=Zjx (c:=c) hx;obtain⟨k,h1,h2,h3,_⟩:=Zvu hyes;have h4:0≤ZeP (bP c s x) x.fEnd:=by
  have:=Zwq (l:=s.fPeers) hi (e:=x.fEnd) (sec:=c.fSecret) (nsh:=c.fShards) hp;have h5:¬ZeP s.fPeers x.fEnd<0:=by omega
  have h6:=fun h=>h5 (this.1 h);unfold bP;omega
 obtain⟨k',h5,h6,h7,_⟩:=Zvu h4;exact⟨k,k',h1,h2,h3,h5,h6,ZBK hR.peers h1 h5 h3 h7⟩
theorem ZBR:ZeP (bP c s x) x.fEnd<0↔ZeP s.fPeers x.fEnd<0:=by
 have _u:=hR;have _v:=hs;have _w:=h20;obtain⟨hi,hp⟩:=Zjx (c:=c) hx;exact Zwq (l:=s.fPeers) hi (e:=x.fEnd) (sec:=c.fSecret) (nsh:=c.fShards) hp
theorem ZyT{f:Nat→Zat}(hf:f (2+iP c x)=Zkt):Ex (ZxY (iP c x:Int)) (mP c s (updL f (2+iP c x) Zjw)) (ZjI 6) (mP c s f) 1 1:=by
 have _u:=hR;have _v:=hs;have _w:=h20;have h8:=ZgO c.fShards;have hi:=(Zjx (c:=c) hx).1;unfold ZxY;rw[ZyJ];exact(Ziw h8.1 h8.2 (ZpY c s) (by omega) hf true).seq (.ret _ _ 0) (by omega) rfl
theorem ZyR(hB:ZhD x=true)(hk:x.fKind=11∨x.fKind=12∨x.fKind=5)(hyes:0≤ZeP s.fPeers x.fEnd)(y:Zaa)(rep:Zaq)(hrep:rep.fPeers.length≤1000)
  (hye:∀k:Nat,k<s.fPeers.length→ZeP s.fPeers x.fEnd=(k:Int)→y.fEnd=(s.fPeers.getD k Zaa.d).fEnd∧y.fIn=(s.fPeers.getD k Zaa.d).fIn)
  (hdo:∀k:Nat,k<s.fPeers.length→ZeP s.fPeers x.fEnd=(k:Int)→ZcY s.fPeers y=some (s.fPeers.set k y)→ZaX c s x=some (⟨s.fBans,s.fBook,s.fPeers.set k y⟩,rep)) {q:Pr Zaq}
  (hq:q=(ZwD (iP c x:Int) (ZeP (bP c s x) x.fEnd) y).bind fun _=>(keyP 3 (2+(iP c x:Int)) false).bind fun _=>.ret rep) {p:Pr Zaq} (hp:∀r m st,Ex q (mP c s (updL fL (2+iP c x) Zjw)) r m st 1→Ex p (mP c s fL) r m (st+100) 1):ZyS c s x (mP c s fL) p:=by
 have h8:=ZgO c.fShards;obtain⟨hi,hpt⟩:=Zjx (c:=c) hx;obtain⟨k,k',h1,h2,h3,h4,h5,h6⟩:=ZCm hx hs hR h20 hyes;obtain⟨ye,yi⟩:=hye k h1 h2;have hb:=Zxs c s x;have hset:=set30 hx hs h20 (y:=y) h1 (by rw[ye,h3];exact h2);have hd:=hdo k h1 h2 hset;have hst:=Zrl (inn:=cntP s.fPeers true) (out:=cntP s.fPeers false+Zen s.fBook 2) (bans:=s.fBans) (book:=s.fBook) (f:=updL fL (2+iP c x) Zjw) h8.1 h8.2 (ZpY c s) hi (ZzE hx) (by rw[List.append_nil];omega) k' (by rw[List.append_nil];omega) y true;rw[List.append_nil,if_pos h4]at hst;have e1:(⟨((bP c s x).length:Int),(bP c s x).set k' y⟩ : Zad)=shF ((bP c s x).set k' y) []:=by unfold shF;simp
 rw[e1,ZxO]at hst;have hq2:Ex q (mP c s (updL fL (2+iP c x) Zjw)) rep (memM (cntP s.fPeers true) (cntP s.fPeers false+Zen s.fBook 2) s.fBans s.fBook (shP ((lP c s).set (iP c x) ((bP c s x).set k' y,[]))) (ZcA c.fShards) fL) 2 1:=by
  rw[hq,h5,ZyJ];unfold ZwD;refine hst.seq (s2:=1) (c2:=0) ?_ (by omega) rfl;exact(Ziw h8.1 h8.2 (by rw[ZmQ,List.length_set];exact Zpt _ _ _ _) (by omega) rfl false).seq (.ret _ _ 0) (by omega) rfl
 have hlen2:((bP c s x).set k' y++[]).length≤1000:=by simp;omega
 obtain⟨q1,q2⟩:=ZuV (c:=c) (s:=s) hlen2 h20.2.2 (iP c x);refine⟨rep,_,_,s.fBans,s.fBook,_,s.fPeers.set k y,2+100,hp _ _ _ hq2,by omega,hd,hR.peers.set h1 ye,?_,q1,q2,(ZCI h1 yi true).symm,by rw[ZCI h1 yi false],by omega,by omega,by rw[List.length_set];omega,hrep⟩;refine(Zmh hs.2.2.1.2 c.fSecret c.fShards hi _ _).1.trans ?_;refine((Zsd h4 y).append_right _).trans ?_;rw[List.cons_append];exact((Zwp hs.2.2.1.2 c.fSecret c.fShards hi h1 h4 h6).cons y).trans (Zsd h1 y).symm
theorem ZEy(hB:ZhD x=true)(hk:x.fKind=11∨x.fKind=12):ZyS c s x (mP c s fL) (ZDN (pt c x) x):=by
 obtain⟨hi,hpt⟩:=Zjx (c:=c) hx;have ho:=ZtA hx hs h20 (c:=c) (s:=s) (f:=fL) rfl;have hn:=ZBR hx hs hR h20 (c:=c) (s:=s);rw[hpt];unfold ZDN;by_cases hno:ZeP s.fPeers x.fEnd<0
 ·refine ZvJ hx hs hR h20 hB (by omega) hno ?_;refine ho.seq (s2:=1) (c2:=1) ?_ (by omega) rfl;rw[if_pos (hn.2 hno)];exact ZyT hx hs hR h20 rfl
 ·have hyes:0≤ZeP s.fPeers x.fEnd:=by omega
  have hno':¬ZeP (bP c s x) x.fEnd<0:=fun h=>hno (hn.1 h);have hat:∀k:Nat,k<s.fPeers.length→ZeP s.fPeers x.fEnd=(k:Int)→atP (bP c s x,ZeP (bP c s x) x.fEnd)=s.fPeers.getD k Zaa.d:=fun k h1 h2=>by
   obtain⟨k2,k',g1,g2,g3,g4,g5,g6⟩:=ZCm hx hs hR h20 hyes;have:k2=k:=by omega
   subst this;unfold atP;simp only;rw[g5,Int.toNat_natCast,g6]
  have pw:∀p:Zaa,(ZpO p x.fNum).fEnd=p.fEnd∧(ZpO p x.fNum).fIn=p.fIn∧(Zrm p x.fNow).fEnd=p.fEnd∧(Zrm p x.fNow).fIn=p.fIn:=fun p=>ZDJ p x.fNum x.fNow;rcases hk with h|h
  ·refine ZyR hx hs hR h20 hB (by omega) hyes (ZpO (atP (bP c s x,ZeP (bP c s x) x.fEnd)) x.fNum) ⟨0,endZ,(ZpO (atP (bP c s x,ZeP (bP c s x) x.fEnd)) x.fNum).fPing,0,[]⟩ (Nat.zero_le _) (fun k h1 h2=>?_) (fun k h1 h2 h3=>?_) rfl fun r m st hq=>?_
   ·rw[hat k h1 h2];exact⟨(pw _).1,(pw _).2.1⟩
   ·rw[hat k h1 h2]at h3 ⊢;rw[ZmL hx hs h20 hB (by omega)];unfold Zcu;rw[Zij _ _ (by unfold maxLen;omega),ZaL,Zal,if_neg hno,Zco,if_neg (by omega),Zco,if_pos h,Zay ⟨hyes,by omega⟩,h2,Int.toNat_natCast,(Zzn _ _).2,ZaL,h3];rfl
   ·refine ho.seq (s2:=st) (c2:=1) ?_ (by omega) rfl;rw[if_neg hno',if_pos h];exact hq
  ·refine ZyR hx hs hR h20 hB (by omega) hyes (Zrm (atP (bP c s x,ZeP (bP c s x) x.fEnd)) x.fNow) repZ (Nat.zero_le _) (fun k h1 h2=>?_) (fun k h1 h2 h3=>?_) rfl fun r m st hq=>?_
   ·rw[hat k h1 h2];exact⟨(pw _).2.2.1,(pw _).2.2.2⟩
   ·rw[hat k h1 h2]at h3;rw[hat k h1 h2,ZmL hx hs h20 hB (by omega)];unfold Zcu;rw[Zij _ _ (by unfold maxLen;omega),ZaL,Zal,if_neg hno,Zco,if_neg (by omega),Zco,if_neg (by omega),Zay ⟨hyes,by omega⟩,h2,Int.toNat_natCast,(ZyY _ _).2,ZaL,h3];rfl
   ·refine ho.seq (s2:=st) (c2:=1) ?_ (by omega) rfl;rw[if_neg hno',if_neg (by omega)];exact hq
end
end Go.Proofs.YtdjfoojllbfcgaaGreat
