import Derived.Test.YtdjfoojllbfcgaaGreatKPlSg
import Derived.Test.YtdjfoojllbfcgaaGreatKPlU
namespace Go.Proofs.YtdjfoojllbfcgaaGreat
set_option linter.unusedVariables false
set_option linter.unusedSimpArgs false
def inI(n a b:Int):Bool:=decide (a≤n)&&decide (n≤b)
def nowB(x:Zay):Bool:=inI x.fNow 0 1099511627776
def Zkn(x:Zay):Bool:=if x.fKind=1∨x.fKind=12∨x.fKind=13 then ZlG x.fEnd&&nowB x else if x.fKind=2 then ZlG x.fEnd else if x.fKind=3∨x.fKind=9 then nowB x else if x.fKind=4 then ZlG x.fEnd&&(nowB x&&inI x.fNum 0 1073741824)else if x.fKind=5 then ZlG x.fEnd&&(inI x.fNum 1 5&&nowB x)else if x.fKind=6 then ZgD x.fNet&&(inI x.fNum 1 1099511627776&&nowB x)else if x.fKind=7 then ZgD x.fNet else if x.fKind=8 then ZeR x.fEnd.fAddr&&nowB x else if x.fKind=10 then true else if x.fKind=11 then ZlG x.fEnd&&inI x.fNum 1 1048576 else false
def Zxp(x:Zay)(s:Int×Int)(p:Int):Bool:=if p=0 then ZlG x.fEnd else if p=1 then ZgD x.fNet else if p=2 then ZeR x.fEnd.fAddr else if p=3 then nowB x else if p=4 then inI x.fNum s.1 s.2 else true
theorem ZxY(x:Zay)(hx:x.ok)(s:Int×Int)(hs:ZjN x.fKind=some s)(p:Int):Zkh x p=some (Zxp x s p):=by
 have he:x.fEnd.ok:=hx.2.1;have hn:x.fNet.ok:=hx.2.2.1;unfold Zkh Zxp;simp only[Zhh,ZzZ _ he,ZjR _ hn.1,ZkT _ he.1,hs,Option.bind_some,nowB,inI,Zal]
 repeat' split
 all_goals first|rfl | (simp_all;done) | (simp_all;omega)
theorem ZxZ(x:Zay)(hx:x.ok)(s:Int×Int)(hs:ZjN x.fKind=some s)(l:List Int)(hl:l.length≤100):Zeh ((((l.length:Nat):Int)-(0:Int)).toNat+2) l (l.length:Int) 0 x=some (l.all (Zxp x s)):=by
 have hL:l.length≤maxLen:=by unfold maxLen;omega
 have main:∀fu (i:Nat),i≤l.length→l.length-i<fu→Zeh fu l (l.length:Int) (i:Int) x=some ((l.drop i).all (Zxp x s)):=by
  intro fu;induction fu with
  |zero=>intro i _ h;omega
  |succ fu ih=>
   intro i hi hf;unfold Zeh;simp only[Zal];by_cases h:i<l.length
   ·rw[if_pos (by omega),Zax ⟨by omega,by omega⟩,ZxY x hx s hs,Option.bind_some,add1 h hL,ZeB l (0:Int) i h,List.all_cons,Int.toNat_natCast];cases Zxp x s (l.getD i 0)with
    |true=>simp only[Bool.not_true,cond_false,Bool.true_and];exact ih (i+1) (by omega) (by omega)
    |false=>rfl
   ·rw[if_neg (by omega),List.drop_of_length_le (by omega)];rfl
 exact main _ 0 (by omega) (by omega)
theorem ZBP(k:Int):∃t,Zlj k=some t∧((t.toList==(⟨#[]⟩ : ByteArray).toList) = !(decide (1≤k)&&decide (k≤13))):=by
 unfold Zlj ZlO Zqb;simp only[Option.bind_some,Zal];by_cases h0:k<0
 ·rw[if_pos h0];refine⟨_,rfl,?_⟩;rw[decide_eq_false (show ¬1≤k by omega)];simp
 ·rw[if_neg h0];by_cases h1:k≥14
  ·have h2:k≥(([(⟨#[]⟩ : ByteArray),(⟨#[97,99,99,101,112,116]⟩ : ByteArray),(⟨#[108,101,97,118,101]⟩ : ByteArray),(⟨#[100,105,97,108]⟩ : ByteArray),(⟨#[114,101,115,117,108,116]⟩ : ByteArray),(⟨#[98,108,97,109,101]⟩ : ByteArray),(⟨#[98,97,110]⟩ : ByteArray),(⟨#[117,110,98,97,110]⟩ : ByteArray),(⟨#[98,97,110,110,101,100]⟩ : ByteArray),(⟨#[116,105,99,107]⟩ : ByteArray),(⟨#[108,105,115,116]⟩ : ByteArray),(⟨#[112,111,110,103]⟩ : ByteArray),(⟨#[119,111,114,107]⟩ : ByteArray),(⟨#[108,101,97,114,110]⟩ : ByteArray)]:List ByteArray).length:Int):=h1;rw[if_pos h2];refine⟨_,rfl,?_⟩;rw[decide_eq_true (show 1≤k by omega),decide_eq_false (show ¬k≤13 by omega)];simp
  ·obtain h|h|h|h|h|h|h|h|h|h|h|h|h|h:k=0∨k=1∨k=2∨k=3∨k=4∨k=5∨k=6∨k=7∨k=8∨k=9∨k=10∨k=11∨k=12∨k=13:=by omega
   all_goals subst h;exact⟨_,rfl,by decide +kernel⟩
theorem ZAd(x:Zay)(hx:x.ok):Zki x=some (Zkn x):=by
 obtain⟨t,h1,h2⟩:=ZBP x.fKind;unfold Zki;rw[h1,Option.bind_some,h2];by_cases hk:1≤x.fKind∧x.fKind≤13
 ·rw[decide_eq_true hk.1,decide_eq_true hk.2];simp only[Bool.and_self,Bool.not_true,cond_false];have key:∀(k:Int)(l:List Int)(s:Int×Int),x.fKind=k→ZiW k=some l→ZjN k=some s→l.length≤100→l.all (Zxp x s)=Zkn x→((ZiW x.fKind).bind fun x2=>Zeh ((((x2.length:Nat):Int)-(0:Int)).toNat+2) x2 ((x2.length:Nat):Int) (0:Int) x)=some (Zkn x):=by
   intro k l s e h3 h4 h5 h6;rw[e,h3,Option.bind_some,ZxZ x hx s (by rw[e];exact h4) l h5,h6]
  obtain h|h|h|h|h|h|h|h|h|h|h|h|h:x.fKind=1∨x.fKind=2∨x.fKind=3∨x.fKind=4∨x.fKind=5∨x.fKind=6∨x.fKind=7∨x.fKind=8∨x.fKind=9∨x.fKind=10∨x.fKind=11∨x.fKind=12∨x.fKind=13:=by omega
  all_goals exact key _ _ _ h rfl rfl (by simp) (by simp[Zkn,h,Zxp])
 ·have hf:(decide (1≤x.fKind)&&decide (x.fKind≤13))=false:=by
   rw[Bool.and_eq_false_iff,decide_eq_false_iff_not,decide_eq_false_iff_not];omega
  rw[hf];simp only[Bool.not_false,cond_true];unfold Zkn
  repeat' rw[if_neg (by omega)]
theorem Zzw(x:Zay)(hx:x.ok)(a b:Int)(s:ByteArray)(L:List Int)(hL:L.length=s.size)(h:∀i:Nat,i<s.size→((ZjH s i:Nat):Int)=L.getD i 0)(hs:s.size≤100) :
  Zbl a b x ((((s.size:Nat):Int)-(0:Int)).toNat+2) s 0=some (L.all fun c=>if c=101 then ZlG x.fEnd else if c=110 then ZgD x.fNet else if c=97 then ZeR x.fEnd.fAddr else if c=116 then nowB x else if c=107 then inI x.fNum a b else true):=by
 have he:x.fEnd.ok:=hx.2.1;have hn:x.fNet.ok:=hx.2.2.1;have main:∀fu (i:Nat),i≤s.size→s.size-i<fu→Zbl a b x fu s (i:Int)=some ((L.drop i).all fun c=>if c=101 then ZlG x.fEnd else if c=110 then ZgD x.fNet else if c=97 then ZeR x.fEnd.fAddr else if c=116 then nowB x else if c=107 then inI x.fNum a b else true):=by
  intro fu;induction fu with
  |zero=>intro i _ h;omega
  |succ fu ih=>
   intro i hi hf;unfold Zbl;simp only[Zal,Zhh,ZvL _ he,ZqA _ hn.1,ZpI _ he.1,Option.bind_some];by_cases hlt:i<s.size
   ·rw[if_pos (by omega),Zax ⟨by omega,by omega⟩,add1 (n:=s.size) hlt (by unfold maxLen;omega),ZeB L (0:Int) i (by omega),List.all_cons,Int.toNat_natCast,h i hlt,ih (i+1) (by omega) (by omega)];generalize hR:((L.drop (i+1)).all fun c=>if c=101 then ZlG x.fEnd else if c=110 then ZgD x.fNet else if c=97 then ZeR x.fEnd.fAddr else if c=116 then nowB x else if c=107 then inI x.fNum a b else true)=R;have two:∀q:Bool,(bif !q then some false else some R)=some (q&&R):=fun q=>by cases q<;>rfl
    simp only[two];have rng:∀n lo hi:Int,(if n<lo then some false else if n>hi then some false else some R)=some (inI n lo hi&&R):=fun n lo hi=>by
     unfold inI;by_cases h1:n<lo
     ·rw[if_pos h1,decide_eq_false (by omega)];rfl
     ·rw[if_neg h1,decide_eq_true (show lo≤n by omega)];by_cases h2:n>hi
      ·rw[if_pos h2,decide_eq_false (by omega)];rfl
      ·rw[if_neg h2,decide_eq_true (show n≤hi by omega)];rfl
    simp only[rng];unfold nowB
    repeat' split
    all_goals first|rfl|omega
   ·rw[if_neg (by omega),List.drop_of_length_le (by omega)];rfl
 exact main _ 0 (by omega) (by omega)
theorem Zxk(x:Zay)(hx:x.ok):Zfp x=some (Zkn x):=by
 unfold Zfp ZcP;simp only[Zal,Zhh];by_cases h1:x.fKind<1
 ·rw[if_pos h1];unfold Zkn
  repeat' rw[if_neg (by omega)]
 ·rw[if_neg h1];by_cases h2:x.fKind>13
  ·rw[if_pos h2];unfold Zkn
   repeat' rw[if_neg (by omega)]
  ·rw[if_neg h2];have key:∀(k a b:Int)(s:ByteArray)(L:List Int),x.fKind=k→Zfo k=some s→L.length=s.size→(∀i:Nat,i<s.size→((ZjH s i:Nat):Int)=L.getD i 0)→s.size≤100 →
     (L.all fun c=>if c=101 then ZlG x.fEnd else if c=110 then ZgD x.fNet else if c=97 then ZeR x.fEnd.fAddr else if c=116 then nowB x else if c=107 then inI x.fNum a b else true)=Zkn x →
     ((Zfo x.fKind).bind fun x1=>Zbl a b x ((((x1.size:Nat):Int)-(0:Int)).toNat+2) x1 (0:Int))=some (Zkn x):=by
    intro k a b s L e h3 h4 h5 h6 h7;rw[e,h3,Option.bind_some,Zzw x hx a b s L h4 h5 h6,h7]
   obtain h|h|h|h|h|h|h|h|h|h|h|h|h:x.fKind=1∨x.fKind=2∨x.fKind=3∨x.fKind=4∨x.fKind=5∨x.fKind=6∨x.fKind=7∨x.fKind=8∨x.fKind=9∨x.fKind=10∨x.fKind=11∨x.fKind=12∨x.fKind=13:=by omega
   ·rw[if_neg (by omega),if_neg (by omega),if_neg (by omega)];exact key 1 _ _ _ [101,116] h rfl rfl (by decide) (by decide) (by simp[Zkn,h])
   ·rw[if_neg (by omega),if_neg (by omega),if_neg (by omega)];exact key 2 _ _ _ [101] h rfl rfl (by decide) (by decide) (by simp[Zkn,h])
   ·rw[if_neg (by omega),if_neg (by omega),if_neg (by omega)];exact key 3 _ _ _ [116] h rfl rfl (by decide) (by decide) (by simp[Zkn,h])
   ·rw[if_neg (by omega),if_neg (by omega),if_neg (by omega)];exact key 4 _ _ _ [101,103,116,107] h rfl rfl (by decide) (by decide) (by simp[Zkn,h])
   ·rw[if_pos h];exact key 5 _ _ _ [101,107,116] h rfl rfl (by decide) (by decide) (by simp[Zkn,h])
   ·rw[if_neg (by omega),if_pos h];exact key 6 _ _ _ [110,107,116] h rfl rfl (by decide) (by decide) (by simp[Zkn,h])
   ·rw[if_neg (by omega),if_neg (by omega),if_neg (by omega)];exact key 7 _ _ _ [110] h rfl rfl (by decide) (by decide) (by simp[Zkn,h])
   ·rw[if_neg (by omega),if_neg (by omega),if_neg (by omega)];exact key 8 _ _ _ [97,116] h rfl rfl (by decide) (by decide) (by simp[Zkn,h])
   ·rw[if_neg (by omega),if_neg (by omega),if_neg (by omega)];exact key 9 _ _ _ [116] h rfl rfl (by decide) (by decide) (by simp[Zkn,h])
   ·rw[if_neg (by omega),if_neg (by omega),if_neg (by omega)];exact key 10 _ _ _ [] h rfl rfl (by decide) (by decide) (by simp[Zkn,h])
   ·rw[if_neg (by omega),if_neg (by omega),if_pos h];exact key 11 _ _ _ [101,107] h rfl rfl (by decide) (by decide) (by simp[Zkn,h])
   ·rw[if_neg (by omega),if_neg (by omega),if_neg (by omega)];exact key 12 _ _ _ [101,116] h rfl rfl (by decide) (by decide) (by simp[Zkn,h])
   ·rw[if_neg (by omega),if_neg (by omega),if_neg (by omega)];exact key 13 _ _ _ [101,116] h rfl rfl (by decide) (by decide) (by simp[Zkn,h])
def gv(v:Zae):Prop:=v.ok∧v.fBans.length≤5000∧v.fBook.length≤5000
structure Gd (l:List Zae):Prop where
 len:l.length≤400000
 val:∀v∈l,gv v
theorem Gd.drop{l:List Zae}(h:Gd l)(a:Nat):Gd (l.drop a):=⟨by have:=h.len;simp;omega,fun v hv=>h.val v (List.mem_of_mem_drop hv)⟩
def ZoB(k:Int):Zao:=⟨k,endZ,0,0,[]⟩
section
variable {c:ZaB} {x:Zay} (hx:x.ok)
include hx
end
def ZDm(gone:List Zah):Pr Unit:=(ZoN ⟨4,0,0⟩).bind fun v=>ZlF ⟨4,0,0⟩ ⟨0,ZlW,[],v.fBook.map (Zwz gone)⟩ false
def ZCg(gone:List Zaa):Pr Unit:=if cntP gone false>0 then(ZDm (Zqp gone)).bind fun _=>ZzI 2 (-(cntP gone false)) false 1000000 else .ret ()
def Zya(gone:List Zaa):Pr Unit:=(if cntP gone true>0 then ZzI 1 (-(cntP gone true)) false 1000000 else .ret ()).bind fun _=>ZCg gone
def Zvs:Pr Zao:=(keyP 8 0 true).bind fun _=>.ret (ZoB 1)
section
variable {c:ZaB} {x:Zay} (hx:x.ok) {l:List Zae} (hl:Gd l)
include hx hl
end
theorem Zru{n:Int}(h0:0≤n)(h1:n≤1000000):IntKind.wrap .i64 (0-n) = -n:=by
 have:=Zds (a:=0) (b:=n) (by omega) (by omega);unfold ZaR at this;omega
theorem ZsR(l:List Zaa):(Zqp l).length=l.length:=by simp[Zqp]
section
variable {c:ZaB} {x:Zay} (hx:x.ok) {l:List Zae} (hl:Gd l)
include hx hl
end
theorem ZAG(l:List Zaa)(hl:l.length≤1000000):Zle l=some (Zqp l):=by
 have hL:l.length≤maxLen:=by unfold maxLen;omega
 have main:∀fu (i:Nat) w,i≤l.length→l.length-i<fu→w=Zqp (l.take i)→Zgx fu l (l.length:Int) (i:Int) w=some (Zqp l):=by
  intro fu;induction fu with
  |zero=>intro i w _ h;omega
  |succ fu ih=>
   intro i w hi hf hw;unfold Zgx;simp only[Zal];by_cases h:i<l.length
   ·have hwl:w.length≤1000000:=by rw[hw];unfold Zqp;simp;omega
    rw[if_pos (by omega),Zax ⟨by omega,by omega⟩,add1 h hL,Zax ⟨by simp;omega,by simp[maxLen];omega⟩];refine ih (i+1) _ (by omega) (by omega) ?_;rw[hw];unfold Zqp;rw[List.take_succ_eq_append_getElem h,List.map_append,Int.toNat_natCast,ZgI l _ i h];rfl
   ·rw[if_neg (by omega),hw];have:i=l.length:=by omega
    rw[this,List.take_length]
 exact main _ 0 [] (by omega) (by omega) rfl
def Zrg:Pr (List Zab):=(ZoN ⟨3,0,0⟩).bind fun v=>.ret v.fBans
def Zym(x:Zay):Pr Zao:=(keyP 1 0 false).bind fun _=>Zrg.bind fun l=>if(ZnR l x.fNet).2=0 then(ZlF ⟨3,0,0⟩ ⟨0,ZlW,(ZnR l x.fNet).1,[]⟩ true).bind fun _=>(keyP 3 0 false).bind fun _=>.ret (ZoB 0)else(keyP 3 0 true).bind fun _=>.ret (ZoB (ZnR l x.fNet).2)
def Zvm(x:Zay):Pr Zao:=(keyP 2 0 false).bind fun _=>Zrg.bind fun l=>(keyP 4 0 true).bind fun _=>.ret ⟨0,endZ,0,Zyl l x.fEnd.fAddr x.fNow,[]⟩
def ZCD(x:Zay):Pr Zao:=(keyP 1 0 false).bind fun _=>Zrg.bind fun l=>if(l.length:Int)-((Zhk l x.fNow).length:Int)>0 then(ZlF ⟨3,0,0⟩ ⟨0,ZlW,Zhk l x.fNow,[]⟩ true).bind fun _=>(keyP 3 0 false).bind fun _=>.ret ⟨0,endZ,(l.length:Int)-((Zhk l x.fNow).length:Int),0,[]⟩else(keyP 3 0 true).bind fun _=>.ret ⟨0,endZ,(l.length:Int)-((Zhk l x.fNow).length:Int),0,[]⟩
def ZDd(c:ZaB):Pr Zao:=(keyP 2 0 false).bind fun _=>(keyP 1 1 false).bind fun _=>(Zrx c.fShards).bind fun _=>Zrg.bind fun b=>(ZoN ⟨4,0,0⟩).bind fun v=>(Zrn c.fShards.toNat 0 []).bind fun all=>(Znt c.fShards true).bind fun _=>(keyP 3 1 false).bind fun _=>(keyP 4 0 false).bind fun _=>.ret ⟨0,endZ,(b.length:Int),(v.fBook.length:Int),ZeM all.flatten⟩
theorem Zow(l:List Zae):Zhb ⟨l⟩=runT Zrg l:=by
 unfold Zhb;have e:Ziw=some ⟨3,0,0⟩:=rfl;rw[e,ZaP,ZoM];exact ZbD (fun _ _ _ _=>rfl) (fun _=>rfl)
theorem Zry{l:List Zae}{b:List Zab}{g:Zak}(h:runT Zrg l=some (.ret b g))(hl:Gl l):b.length≤800∧∀x∈b,x.ok:=by
 obtain⟨v,g1,h1,h2⟩:=Zxh h;have hv:=ZBg h1 hl;simp only[runT,Option.some.injEq,Tout.ret.injEq]at h2;rw[←h2.1];exact⟨hv.2.1,hv.1.2.2.1.2⟩
section
variable {c:ZaB} {x:Zay} (hx:x.ok) {l:List Zae} (hl:Gl l)
include hx hl
theorem ZCo:ZgN ⟨c,x⟩ ⟨l⟩=runT (Zym x) l:=by
 have _u:=hx;unfold ZgN;rw[ZoL];refine ZbD (fun _ a ha _=>?_) (fun _=>rfl);dsimp only;rw[Zow];refine ZbD (fun v d hd h=>?_) (fun _=>rfl);have hv:=Zry h (hl.drop a);dsimp only;have e:Ziw=some ⟨3,0,0⟩:=rfl;rw[ZCe _ _ (by omega),ZaP,Zhh];by_cases h0:(ZnR v x.fNet).2=0
 ·have e2:((ZnR v x.fNet).2 != 0)=false:=by rw[h0];rfl
  rw[if_pos h0,if_pos h0,e,ZaP,ZmP];refine ZbD (p:=ZlF ⟨3,0,0⟩ ⟨0,ZlW,(ZnR v x.fNet).1,[]⟩ true) (fun _ _ _ _=>?_) (fun _=>rfl);dsimp only;rw[e2,ZlT];refine ZbD (fun _ _ _ _=>?_) (fun _=>rfl);dsimp only;rw[h0];rfl
 ·have e2:((ZnR v x.fNet).2 != 0)=true:=by rw[bne_iff_ne];exact h0
  rw[if_neg h0,if_neg h0,e2,ZlT];exact ZbD (fun _ _ _ _=>rfl) (fun _=>rfl)
theorem ZAo:Zgi ⟨c,x⟩ ⟨l⟩=runT (Zvm x) l:=by
 unfold Zgi;rw[ZwT];refine ZbD (fun _ a ha _=>?_) (fun _=>rfl);dsimp only;rw[Zow];refine ZbD (fun v d hd h=>?_) (fun _=>rfl);have hv:=Zry h (hl.drop a);dsimp only;rw[(ZrN v x.fEnd.fAddr x.fNow (by unfold maxLen;omega) hv.2 hx.2.1.1).1,ZaP,Zzj];exact ZbD (fun _ _ _ _=>rfl) (fun _=>rfl)
theorem ZDA:Zhr ⟨c,x⟩ ⟨l⟩=runT (ZCD x) l:=by
 have _u:=hx;unfold Zhr;rw[ZoL];refine ZbD (fun _ a ha _=>?_) (fun _=>rfl);dsimp only;rw[Zow];refine ZbD (fun v d hd h=>?_) (fun _=>rfl);have hv:=Zry h (hl.drop a);have hsl:=ZtC v x.fNow;dsimp only;have e:Ziw=some ⟨3,0,0⟩:=rfl;rw[ZAf _ _ (by omega),ZaP,Zal];generalize Zhk v x.fNow=sw at hsl;by_cases h0:(v.length:Int)-(sw.length:Int)>0
 ·have e2:((v.length:Int)-(sw.length:Int)==0)=false:=beq_false_of_ne (by omega);rw[if_pos h0,if_pos h0,e,ZaP,ZmP];refine ZbD (p:=ZlF ⟨3,0,0⟩ ⟨0,ZlW,sw,[]⟩ true) (fun _ _ _ _=>?_) (fun _=>rfl);dsimp only;rw[e2,ZlT];exact ZbD (fun _ _ _ _=>rfl) (fun _=>rfl)
 ·have e2:((v.length:Int)-(sw.length:Int)==0)=true:=by rw[beq_iff_eq];omega
  rw[if_neg h0,if_neg h0,e2,ZlT];exact ZbD (fun _ _ _ _=>rfl) (fun _=>rfl)
omit hl in
theorem Zyi(all:List (List Zaa))(hall:all.length≤1000)(b4:Zao)(p0:Int)(p1:Zah)(p2 p3:Int)(l:List Zae):∀(k i fu:Nat)(w:List Zaa),all.length-i=k→i≤all.length→k+1≤fu→w.length+(all.drop i).flatten.length≤800 →
  Zdh fu all (all.length:Int) (i:Int) ⟨l⟩ ⟨c,x⟩ b4 p0 p1 p2 p3 w=runT ((Znt c.fShards true).bind fun _=>(keyP 3 1 false).bind fun _=>(keyP 4 0 false).bind fun _=>.ret (⟨p0,p1,p2,p3,ZeM (w++(all.drop i).flatten)⟩ : Zao)) l:=by
 have _u:=hx;intro k;induction k with
 |zero=>
  intro i fu w hk hi hf hb;obtain⟨fu,rfl⟩ : ∃x,fu=x+1:=⟨fu-1,by omega⟩;unfold Zdh;rw[Zal,if_neg (by omega),List.drop_eq_nil_of_le (by omega),ZpD];refine ZbD (fun _ _ _ _=>?_) (fun _=>rfl);dsimp only;rw[ZlT];refine ZbD (fun _ _ _ _=>?_) (fun _=>rfl);dsimp only;rw[Zzj];refine ZbD (fun _ _ _ _=>?_) (fun _=>rfl);dsimp only;rw[Zvy _ (by omega)];simp[runT]
 |succ k ih=>
  intro i fu w hk hi hf hb;obtain⟨fu,rfl⟩ : ∃x,fu=x+1:=⟨fu-1,by omega⟩;unfold Zdh;have e1:Zaw (i:Int) 1=((i+1:Nat):Int):=add1 (n:=i+1) (by omega) (by simp only[maxLen];omega);have hd:=ZeB all [] i (by omega);rw[hd,List.flatten_cons,List.length_append]at hb;rw[Zal,if_pos (by omega),Zax ⟨by omega,by omega⟩];simp only[Int.toNat_natCast];rw[Zax ⟨by rw[List.length_append];omega,by rw[List.length_append];unfold maxLen;omega⟩,e1,ih (i+1) fu _ (by omega) (by omega) (by omega) (by rw[List.length_append];omega),hd,List.flatten_cons,List.append_assoc]
theorem ZDD(hs0:0≤c.fShards)(hs:c.fShards≤1000):Zhs ⟨c,x⟩ ⟨l⟩=runT (ZDd c) l:=by
 unfold Zhs;rw[ZwT];refine ZbD (fun _ a1 _ _=>?_) (fun _=>rfl);dsimp only;rw[ZoL];refine ZbD (fun _ a2 _ _=>?_) (fun _=>rfl);dsimp only;rw[ZpC];refine ZbD (fun _ a3 _ _=>?_) (fun _=>rfl);dsimp only;rw[Zow];refine ZbD (fun b a4 _ _=>?_) (fun _=>rfl);dsimp only;rw[ZoM];refine ZbD (fun v a5 _ _=>?_) (fun _=>rfl);dsimp only;have hl5:=((((hl.drop a1).drop a2).drop a3).drop a4).drop a5;rw[ZtF c x hs0 hs _ hl5.len];refine ZbD (fun all a6 _ h=>?_) (fun _=>rfl);obtain⟨f1,f2,_⟩:=Zlv _ _ _ _ _ _ h;have:=hl5.len;simp only[List.length_nil,List.flatten_nil,Nat.zero_add]at f1 f2;dsimp only;have hr:=Zyi hx (c:=c) all (by omega) ⟨0,endZ,0,0,[]⟩ 0 endZ (b.length:Int) (v.fBook.length:Int) ((((((l.drop a1).drop a2).drop a3).drop a4).drop a5).drop a6) all.length 0 ((((all.length:Nat):Int)-(0:Int)).toNat+2) [] (by omega) (by omega) (by omega) (by simp only[List.length_nil,List.drop_zero];omega);rw[List.drop_zero,List.nil_append]at hr;exact hr
end
theorem Zuk{l:List Zae}(hl:Gl l)(gone:List Zaa)(hg:gone.length≤800):Zhz gone ⟨l⟩=runT (ZCg gone) l:=by
 have hc:=Zvk gone false;have he:=ZsR gone;unfold Zhz ZCg;rw[ZrO _ _ (by unfold maxLen;omega),ZaP,Zhh];by_cases h0:cntP gone false=0
 ·rw[if_pos h0,if_neg (by omega)];rfl
 ·rw[if_neg h0,if_pos (by omega),ZoM];unfold ZDm;rw[Pr.bind_assoc];refine ZbD (fun v a ha h=>?_) (fun _=>rfl);have hv:=ZBg h hl;dsimp only;rw[ZAG _ (by omega),ZaP,ZCc _ _ (by omega) (by unfold maxLen;omega),ZaP,ZmP];refine ZbD (p:=ZlF ⟨4,0,0⟩ ⟨0,ZlW,[],v.fBook.map (Zwz (Zqp gone))⟩ false) (fun _ _ _ _=>?_) (fun _=>rfl);dsimp only;rw[Zvq,Zru (by omega) (by omega)];exact Zja (fun _ _=>rfl) (fun _=>rfl)
theorem ZCw{l:List Zae}(hl:Gl l)(gone:List Zaa)(hg:gone.length≤800):Zlf ⟨l⟩ gone=runT (Zya gone) l:=by
 have hc:=Zvk gone true;unfold Zlf Zya;rw[ZrO _ _ (by unfold maxLen;omega),ZaP,Zal];by_cases h0:cntP gone true>0
 ·rw[if_pos h0,if_pos h0,Zvq,Zru (by omega) (by omega)];refine ZbD (fun _ e he _=>?_) (fun _=>rfl);dsimp only;exact Zuk (hl.drop e) gone hg
 ·rw[if_neg h0,if_neg h0,Pr.bind_ret];exact Zuk hl gone hg
def ZwX(n:Zaq):Nat→List (List Zaa)→Pr Unit|_,[]=>.ret ()|i,was :: r=>(if 0<(ofP was n true).length then ZAr (i:Int) was (ofP was n false)else .ret ()).bind fun _=>ZwX n (i+1) r
theorem ZzG(a b:List Zaa)(n:Zaq)(t:Bool):ofP (a++b) n t=ofP a n t++ofP b n t:=by unfold ofP;rw[List.filter_append]
theorem Zrt(a:List Zaa)(n:Zaq):(ofP a n true).length+(ofP a n false).length=a.length:=by
 unfold ofP;induction a with
 |nil=>rfl
 |cons x a ih=>
  cases h:hasS n x.fEnd.fAddr<;>simp[h]at ih ⊢<;>omega
def ZEL(c:ZaB)(x:Zay):Pr Zao:=Zrg.bind fun l=>if(addB l ⟨x.fNet,x.fNum⟩ c.fMaxBans).2=0 then(Zrn c.fShards.toNat 0 []).bind fun all=>(ZlF ⟨3,0,0⟩ ⟨0,ZlW,(addB l ⟨x.fNet,x.fNum⟩ c.fMaxBans).1,[]⟩ false).bind fun _=>(ZwX x.fNet 0 all).bind fun _=>(Zya (ofP all.flatten x.fNet true)).bind fun _=>.ret ⟨0,endZ,((ofP all.flatten x.fNet true).length:Int),0,[]⟩else .ret (ZoB (addB l ⟨x.fNet,x.fNum⟩ c.fMaxBans).2)
def banP(c:ZaB)(x:Zay):Pr Zao:=if x.fNum≤x.fNow then(keyP 8 0 true).bind fun _=>.ret (ZoB 3)else(keyP 1 0 false).bind fun _=>(keyP 1 1 false).bind fun _=>(Zrx c.fShards).bind fun _=>(ZEL c x).bind fun r=>(Znt c.fShards true).bind fun _=>(keyP 3 1 false).bind fun _=>(keyP 3 0 false).bind fun _=>.ret r
theorem Zyk{c:ZaB}{x:Zay}(hx:x.ok)(all:List (List Zaa))(hall:all.length≤1000)(hok:∀p∈all.flatten,p.fEnd.fAddr.ok)(hf8:all.flatten.length≤800)(b4:Zao):∀(k i fu:Nat)(l:List Zae),Gl l→all.length-i=k→i≤all.length→k+1≤fu →
  ZcM fu all (all.length:Int) (i:Int) (ofP (all.take i).flatten x.fNet true) ⟨l⟩ ⟨c,x⟩ b4=runT ((ZwX x.fNet i (all.drop i)).bind fun _=>(Zya (ofP all.flatten x.fNet true)).bind fun _=>.ret (⟨0,endZ,((ofP all.flatten x.fNet true).length:Int),0,[]⟩ : Zao)) l:=by
 intro k;induction k with
 |zero=>
  intro i fu l hl hk hi hf;obtain⟨fu,rfl⟩ : ∃x,fu=x+1:=⟨fu-1,by omega⟩;have hb:=Zrt all.flatten x.fNet;unfold ZcM;rw[Zal,if_neg (by omega),List.take_of_length_le (by omega),List.drop_eq_nil_of_le (by omega),ZCw hl _ (by omega)];exact ZbD (fun _ _ _ _=>rfl) (fun _=>rfl)
 |succ k ih=>
  intro i fu l hl hk hi hf;obtain⟨fu,rfl⟩ : ∃x,fu=x+1:=⟨fu-1,by omega⟩;have hlt:i<all.length:=by omega
  have hmem:all.getD i []∈all:=ZiE all [] i hlt;have hsub:∀p∈all.getD i [],p∈all.flatten:=fun p hp=>List.mem_flatten.2 ⟨_,hmem,hp⟩;have hd:=ZeB all [] i hlt;have htk:all.take (i+1)=all.take i++[all.getD i []]:=by rw[List.take_succ_eq_append_getElem hlt,ZgI all _ i hlt]
  have e3:all.flatten=(all.take (i+1)).flatten++(all.drop (i+1)).flatten:=by rw[←List.flatten_append,List.take_append_drop]
  have hle:(all.take i).flatten.length+(all.getD i []).length≤800:=by
   rw[htk]at e3;have:=congrArg List.length e3;simp only[List.flatten_append,List.length_append,List.flatten_cons,List.flatten_nil,List.append_nil]at this;omega
  have h1:=Zrt (all.take i).flatten x.fNet;have h2:=Zrt (all.getD i []) x.fNet;have e1:Zaw (i:Int) 1=((i+1:Nat):Int):=add1 (n:=i+1) (by omega) (by simp only[maxLen];omega);have enext:ofP (all.take i).flatten x.fNet true++ofP (all.getD i []) x.fNet true=ofP (all.take (i+1)).flatten x.fNet true:=by
   rw[htk,List.flatten_append,ZzG];simp
  unfold ZcM;rw[Zal,if_pos (by omega),Zax ⟨by omega,by omega⟩];simp only[Int.toNat_natCast];rw[Zxa _ _ hx.2.2.1.1 (by omega) (fun p hp=>hok p (hsub p hp)),ZaP,Zal,hd];simp only[ZwX];by_cases h0:0<(ofP (all.getD i []) x.fNet true).length
  ·rw[if_pos (by omega),if_pos h0,ZwS _ _ _ _ (by omega),Pr.bind_assoc];refine ZbD (fun _ a ha _=>?_) (fun _=>rfl);dsimp only;rw[Zax ⟨by rw[List.length_append];omega,by rw[List.length_append];unfold maxLen;omega⟩,e1,enext];exact ih (i+1) fu _ (hl.drop a) (by omega) (by omega) (by omega)
  ·have hn:ofP (all.getD i []) x.fNet true=[]:=List.eq_nil_of_length_eq_zero (by omega);rw[hn,List.append_nil]at enext;rw[if_neg (by omega),if_neg h0,Pr.bind_assoc,Pr.bind_ret,e1,enext];exact ih (i+1) fu l hl (by omega) (by omega) (by omega)
section
variable {c:ZaB} {x:Zay} (hx:x.ok) (hs0:0≤c.fShards) (hs:c.fShards≤1000) {l:List Zae} (hl:Gl l)
include hx hs0 hs hl
theorem ZCv:Zht ⟨c,x⟩ ⟨l⟩=runT (ZEL c x) l:=by
 have hban:(⟨x.fNet,x.fNum⟩ : Zab).ok:=⟨hx.2.2.1,hx.2.2.2.2.1,trivial⟩;unfold Zht;rw[Zow];refine ZbD (fun b a _ h=>?_) (fun _=>rfl);have hv:=Zry h hl;dsimp only;rw[ZDt _ _ _ (by omega) hban,ZaP];by_cases h0:(addB b ⟨x.fNet,x.fNum⟩ c.fMaxBans).2=0
 ·have e2:((addB b ⟨x.fNet,x.fNum⟩ c.fMaxBans).2 != 0)=false:=by rw[h0];rfl
  rw[if_pos h0,e2,cond_false,ZtF c x hs0 hs _ (hl.drop a).len];refine ZbD (fun all d _ h3=>?_) (fun _=>rfl);obtain⟨f1,f2,f3⟩:=Zlv _ _ _ _ _ _ h3;have hlen:=(hl.drop a).len;simp only[List.length_nil,List.flatten_nil,Nat.zero_add]at f1 f2;have e:Ziw=some ⟨3,0,0⟩:=rfl;dsimp only;rw[e,ZaP,ZmP];refine ZbD (p:=ZlF ⟨3,0,0⟩ ⟨0,ZlW,(addB b ⟨x.fNet,x.fNum⟩ c.fMaxBans).1,[]⟩ false) (fun _ e he _=>?_) (fun _=>rfl);dsimp only;have hr:=Zyk hx (c:=c) all (by omega) (f3 (fun p=>p.fEnd.fAddr.ok) (by simp) fun v hv=>((hl.drop a).val v hv).1.2.1.1.1) (by omega) ⟨0,endZ,0,0,[]⟩ all.length 0 ((((all.length:Nat):Int)-(0:Int)).toNat+2) _ (((hl.drop a).drop d).drop e) (by omega) (by omega) (by omega);rw[List.take_zero,List.drop_zero]at hr;exact hr
 ·have e2:((addB b ⟨x.fNet,x.fNum⟩ c.fMaxBans).2 != 0)=true:=by rw[bne_iff_ne];exact h0
  rw[if_neg h0,e2,cond_true];rfl
theorem ZDE:ZhW ⟨c,x⟩ ⟨l⟩=runT (banP c x) l:=by
 unfold ZhW banP;rw[Zal];by_cases h0:x.fNum≤x.fNow
 ·rw[if_pos h0,if_pos h0,Zzi];exact ZbD (fun _ _ _ _=>rfl) (fun _=>rfl)
 ·rw[if_neg h0,if_neg h0,ZoL];refine ZbD (fun _ a _ _=>?_) (fun _=>rfl);dsimp only;rw[ZoL];refine ZbD (fun _ b _ _=>?_) (fun _=>rfl);dsimp only;rw[ZpC];refine ZbD (fun _ d _ _=>?_) (fun _=>rfl);dsimp only;rw[ZCv hx hs0 hs (((hl.drop a).drop b).drop d)];refine ZbD (fun _ _ _ _=>?_) (fun _=>rfl);dsimp only;rw[ZpD];refine ZbD (fun _ _ _ _=>?_) (fun _=>rfl);dsimp only;rw[ZlT];refine ZbD (fun _ _ _ _=>?_) (fun _=>rfl);dsimp only;rw[ZlT];exact ZbD (fun _ _ _ _=>rfl) (fun _=>rfl)
omit hx hs0 hs hl in
theorem Zuj(c:ZaB)(x:Zay)(l:List Zae):ZgM ⟨c,x⟩ ⟨l⟩=runT Zvs l:=by
 unfold ZgM;rw[Zzi];exact ZbD (fun _ _ _ _=>rfl) (fun _=>rfl)
def Zzs(c:ZaB)(x:Zay):Pr Zao:=if Zkn x=true then(if x.fKind=6 then banP c x else if x.fKind=7 then Zym x else if x.fKind=8 then Zvm x else if x.fKind=9 then ZCD x else if x.fKind=10 then ZDd c else Zvs)else Zvs
theorem ZCs:ZiO c x l=(runT (Zzs c x) l).map Zpo:=by
 have fin:∀t:Option ZbT,(t.bind fun y=>some y)=t:=fun t=>by cases t<;>rfl
 unfold ZiO Zne ZlM Zzs;rw[ZAd x hx,ZaP];cases Zkn x with
 |false=>
  simp only[Bool.not_false,cond_true,ZaP,fin,Bool.false_eq_true,if_false];unfold Zea ZeO;simp only[Zuj];exact congrArg (Option.map Zpo) (Zja (fun _ _=>rfl) (fun _=>rfl))
 |true=>
  simp only[Bool.not_true,cond_false,if_true,Zhh];by_cases h6:x.fKind=6
  ·simp only[if_pos h6,ZaP,fin];unfold Zea ZeO;simp only[ZDE hx hs0 hs hl];exact congrArg (Option.map Zpo) (Zja (fun _ _=>rfl) (fun _=>rfl))
  ·by_cases h7:x.fKind=7
   ·simp only[if_neg h6,if_pos h7,ZaP,fin];unfold Zea ZeO;simp only[ZCo hx hl];exact congrArg (Option.map Zpo) (Zja (fun _ _=>rfl) (fun _=>rfl))
   ·by_cases h8:x.fKind=8
    ·simp only[if_neg h6,if_neg h7,if_pos h8,ZaP,fin];unfold Zea ZeO;simp only[ZAo hx hl];exact congrArg (Option.map Zpo) (Zja (fun _ _=>rfl) (fun _=>rfl))
    ·by_cases h9:x.fKind=9
     ·simp only[if_neg h6,if_neg h7,if_neg h8,if_pos h9,ZaP,fin];unfold Zea ZeO;simp only[ZDA hx hl];exact congrArg (Option.map Zpo) (Zja (fun _ _=>rfl) (fun _=>rfl))
     ·by_cases h10:x.fKind=10
      ·simp only[if_neg h6,if_neg h7,if_neg h8,if_neg h9,if_pos h10,ZaP,fin];unfold Zea ZeO;simp only[ZDD hx hl hs0 hs];exact congrArg (Option.map Zpo) (Zja (fun _ _=>rfl) (fun _=>rfl))
      ·simp only[if_neg h6,if_neg h7,if_neg h8,if_neg h9,if_neg h10,ZaP,fin];unfold Zea ZeO;simp only[Zuj];exact congrArg (Option.map Zpo) (Zja (fun _ _=>rfl) (fun _=>rfl))
end
section
variable {got:List Zae} (hG:Gd got) {a:Nat} (ha:a≤got.length)
include hG ha
theorem ZEp(gone:List Zah)(hg:gone.length≤400000):Wlk got a anyP anyW (ZDm gone) ((ZdS (wk got a) gone).map fun w=>(w,())):=by
 have hL:=hG.len;unfold ZdS ZDm;refine Wlk.seqPU (Ztd (by omega) ha _) (fun x b a' h1 h2 h3=>?_) (fun q b hb=>?_) trivial
 ·obtain⟨rfl,h3⟩:=h3;have hv:=hG.val _ h3;dsimp only;rw[Zuu _ _ (by have:=hv.2.2;omega) (by unfold maxLen;omega),ZaP,ZrF];exact Zvp (by omega) h2 _ _ _ ⟨by simp,by have:=hv.2.2;simp;omega⟩
 ·subst hb;dsimp only;rw[Zuu _ _ (by simp[valZ]) (by unfold maxLen;omega),ZaP,ZiX];rfl
omit hG ha in
theorem Zzx(q:Zas)(gone:List Zah)(hg:gone.length≤400000):ZdS (wt got q) gone=some (wt got q):=by
 unfold ZdS;rw[Zhw,ZaP];dsimp only;rw[Zuu _ _ (by simp[valZ]) (by unfold maxLen;omega),ZaP,ZiX];rfl
theorem Zyy(gone:List Zaa)(hg:gone.length≤400000)(b4:Zac):Wlk got a anyP anyW (ZCg gone) ((Zcv gone (cntP gone false) (wk got a) b4).map fun w=>(w,())):=by
 have hL:=hG.len;have hc:=Zvk gone false;have he:=ZsR gone;unfold Zcv ZCg;rw[Zal];by_cases h0:cntP gone false>0
 ·rw[if_pos h0,if_pos h0,ZtK _ (by omega),ZaP];refine Wlk.seqUU (ZEp hG ha _ (by omega)) (fun _ a' h1 h2 _=>?_) (fun q=>?_) trivial
  ·rw[ZrF,Zru (by omega) (by omega)];exact ZDX (by omega) h2 _ _ _
  ·rw[ZrF,Ztc]
 ·rw[if_neg h0,if_neg h0];exact Wlk.ret ha trivial
omit hG ha in
theorem ZrY(q:Zas)(gone:List Zaa)(hg:gone.length≤400000)(n:Int)(b4:Zac):Zcv gone n (wt got q) b4=some (wt got q):=by
 have he:=ZsR gone;unfold Zcv;rw[Zal,ZtK _ (by omega),ZaP,Zzx q _ (by omega),ZaP,ZrF,Ztc];split<;>rfl
theorem ZEq(gone:List Zaa)(hg:gone.length≤400000):Wlk got a anyP anyW (Zya gone) ((ZdT (wk got a) gone).map fun w=>(w,())):=by
 have hL:=hG.len;have hc:=Zvk gone true;unfold ZdT Zya;rw[ZmW _ _ (by unfold maxLen;omega),ZaP,ZmW _ _ (by unfold maxLen;omega),ZaP,Zal];by_cases h0:cntP gone true>0
 ·rw[if_pos h0,if_pos h0,Zru (by omega) (by omega)];refine Wlk.seqUU (ZDX (by omega) ha _ _ _) (fun _ a' h1 h2 _=>?_) (fun q=>?_) trivial
  ·exact Zyy hG h2 gone hg _
  ·exact ZrY q gone hg _ _
 ·rw[if_neg h0,if_neg h0,Pr.bind_ret];exact Zyy hG ha gone hg _
omit hG ha in
theorem Zzy(q:Zas)(gone:List Zaa)(hg:gone.length≤400000):ZdT (wt got q) gone=some (wt got q):=by
 unfold ZdT;rw[ZmW _ _ (by unfold maxLen;omega),ZaP,ZmW _ _ (by unfold maxLen;omega),ZaP,Zal,Ztc,ZaP,ZrY q gone hg];split<;>rfl
end
section
variable {c:ZaB} {x:Zay} (hx:x.ok) {got:List Zae} (hG:Gd got) {a:Nat} (ha:a≤got.length)
include hx hG ha
end
section
variable {c:ZaB} {x:Zay} (hx:x.ok) {got:List Zae} (hG:Gd got)
include hx hG
end
section
variable {c:ZaB} {x:Zay} (hx:x.ok) {got:List Zae} (hG:Gl got) {a:Nat} (ha:a≤got.length)
include hx hG ha
theorem ZCA:Wlk got a eqP anyW (Zym x) (Zfl x (wk got a)):=by
 have _u:=hx;have hL:=hG.len;unfold Zym Zrg Zfl;simp only[Pr.bind_assoc,Pr.bind_ret];have fin:∀(q:Zas)(v:Zae),v.fBans.length≤10000→∀K:(List Zab×Int)→Option (Zac×Zao),(∀r,∃d,K r=some (wt got q,d))→∃d,((ZeH v.fBans x.fNet).bind K)=some (wt got q,d)∧anyW d:=fun q v hv K hK=>by
  rw[ZvM _ _ hv,ZaP];obtain⟨d,hd⟩:=hK (ZnR v.fBans x.fNet);exact⟨d,hd,trivial⟩
 have kk:∀(q:Zas)(r:List Zab×Int),∃d,(bif(r.2==(0:Int))then(Zbe (wt got q) ⟨3,0,0⟩ ⟨0,ZlW,r.1,[]⟩ true).bind fun x4=>(Zaz x4 3 0 (r.2 != (0:Int))).bind fun x5=>some (x5,(⟨r.2,endZ,0,0,[]⟩ : Zao))
   else(Zaz (wt got q) 3 0 (r.2 != (0:Int))).bind fun x6=>some (x6,(⟨r.2,endZ,0,0,[]⟩ : Zao)))=some (wt got q,d):=fun q r=>by
  simp only[ZiX,Zhj,ZaP];cases(r.2==(0:Int))<;>exact⟨_,rfl⟩
 refine Wlk.seqU (Ztx (by omega) ha _ _ _) (fun _ a1 _ h1 _=>?_) (fun q=>?_);rotate_left
 ·rw[Zhw,ZaP];exact fin q valZ (by simp[valZ]) _ (kk q)
 refine Wlk.seqP (Ztd (by omega) h1 _) (fun v v' a2 _ h2 hv=>?_) (fun q b hb=>?_);rotate_left
 ·rw[hb];exact fin q valZ (by simp[valZ]) _ (kk q)
 obtain⟨rfl,hv⟩:=hv;have hvv:=hG.val v hv;have hdl:=ZBK v.fBans x.fNet;dsimp only;rw[ZvM _ _ (by omega),ZaP,Zhh];by_cases h0:(ZnR v.fBans x.fNet).2=0
 ·have e2:((ZnR v.fBans x.fNet).2 != 0)=false:=by rw[h0];rfl
  rw[if_pos h0,if_pos h0,e2];refine Wlk.seqU (Zvp (by omega) h2 _ _ _ ⟨by show (ZnR v.fBans x.fNet).1.length≤_;omega,Nat.zero_le _⟩) (fun _ a3 _ h3 _=>?_) (fun q=>?_)
  ·rw[h0];exact ZpK hG h3 _ _ _ _
  ·rw[Zhj];exact⟨_,rfl,trivial⟩
 ·have e2:((ZnR v.fBans x.fNet).2 != 0)=true:=by rw[bne_iff_ne];exact h0
  rw[if_neg h0,if_neg h0,e2];exact ZpK hG h2 _ _ _ _
theorem ZEc:Wlk got a eqP anyW (ZCD x) (ZfG x (wk got a)):=by
 have _u:=hx;have hL:=hG.len;unfold ZCD Zrg ZfG;simp only[Pr.bind_assoc,Pr.bind_ret];have fin:∀(q:Zas)(K:(List Zab×Int)→Option (Zac×Zao)),(∀r,∃d,K r=some (wt got q,d))→∃d,((Zem valZ.fBans x.fNow).bind K)=some (wt got q,d)∧anyW d:=fun q K hK=>by
  rw[ZvK _ _ (by simp[valZ]),ZaP];obtain⟨d,hd⟩:=hK (Zhk valZ.fBans x.fNow,((valZ.fBans.length:Int)-((Zhk valZ.fBans x.fNow).length:Int)));exact⟨d,hd,trivial⟩
 have kk:∀(q:Zas)(r:List Zab×Int),∃d,(bif decide (r.2>(0:Int))then(Zbe (wt got q) ⟨3,0,0⟩ ⟨0,ZlW,r.1,[]⟩ true).bind fun x4=>(Zaz x4 3 0 (r.2==(0:Int))).bind fun x5=>some (x5,(⟨0,endZ,r.2,0,[]⟩ : Zao))
   else(Zaz (wt got q) 3 0 (r.2==(0:Int))).bind fun x6=>some (x6,(⟨0,endZ,r.2,0,[]⟩ : Zao)))=some (wt got q,d):=fun q r=>by
  simp only[ZiX,Zhj,ZaP];cases decide (r.2>(0:Int))<;>exact⟨_,rfl⟩
 refine Wlk.seqU (Ztx (by omega) ha _ _ _) (fun _ a1 _ h1 _=>?_) (fun q=>?_);rotate_left
 ·rw[Zhw,ZaP];exact fin q _ (kk q)
 refine Wlk.seqP (Ztd (by omega) h1 _) (fun v v' a2 _ h2 hv=>?_) (fun q b hb=>?_);rotate_left
 ·rw[hb];exact fin q _ (kk q)
 obtain⟨rfl,hv⟩:=hv;have hvv:=hG.val v hv;have hsl:=ZtC v.fBans x.fNow;dsimp only;rw[ZvK _ _ (by omega),ZaP,Zal];dsimp only;generalize Zhk v.fBans x.fNow=sw at hsl;by_cases h0:(v.fBans.length:Int)-(sw.length:Int)>0
 ·have e2:((v.fBans.length:Int)-(sw.length:Int)==0)=false:=beq_false_of_ne (by omega);rw[if_pos h0,if_pos h0,e2];refine Wlk.seqU (Zvp (by omega) h2 _ _ _ ⟨by show sw.length≤_;omega,Nat.zero_le _⟩) (fun _ a3 _ h3 _=>?_) (fun q=>?_)
  ·exact ZpK hG h3 _ _ _ _
  ·rw[Zhj];exact⟨_,rfl,trivial⟩
 ·have e2:((v.fBans.length:Int)-(sw.length:Int)==0)=true:=by rw[beq_iff_eq];omega
  rw[if_neg h0,if_neg h0,e2];exact ZpK hG h2 _ _ _ _
theorem ZAw:Wlk got a eqP anyW (Zvm x) ((Zaz (wk got a) 2 0 false).bind fun x7=>(ZaY x7 ⟨3,0,0⟩).bind fun x8=>(Zaz x8.1 4 0 true).bind fun x9=>(ZdB x8.2.fBans x.fEnd.fAddr x.fNow).bind fun x10=>some (x9,(⟨0,endZ,0,x10,[]⟩ : Zao))):=by
 have hL:=hG.len;unfold Zvm Zrg;simp only[Pr.bind_assoc,Pr.bind_ret];have fin:∀(q:Zas),∃d,((Zaz (wt got q) 4 0 true).bind fun x9=>(ZdB valZ.fBans x.fEnd.fAddr x.fNow).bind fun x10=>some (x9,(⟨0,endZ,0,x10,[]⟩ : Zao)))=some (wt got q,d)∧anyW d:=fun q=>by
  rw[Zhj,ZaP,(ZrN valZ.fBans x.fEnd.fAddr x.fNow (by simp[valZ,maxLen]) (by simp[valZ]) hx.2.1.1).2];exact⟨_,rfl,trivial⟩
 refine Wlk.seqU (Ztx (by omega) ha _ _ _) (fun _ a1 _ h1 _=>?_) (fun q=>?_);rotate_left
 ·rw[Zhw,ZaP];exact fin q
 refine Wlk.seqP (Ztd (by omega) h1 _) (fun v v' a2 _ h2 hv=>?_) (fun q b hb=>?_);rotate_left
 ·rw[hb];exact fin q
 obtain⟨rfl,hv⟩:=hv;have hvv:=hG.val v hv;have hu:=(ZrN v.fBans x.fEnd.fAddr x.fNow (by unfold maxLen;omega) hvv.1.2.2.1.2 hx.2.1.1).2;simp only[hu,ZaP];exact ZpK hG h2 _ _ _ _
omit hx in
theorem ZAv(c:ZaB)(v:Zao):Wlk got a eqP anyW ((Znt c.fShards true).bind fun _=>(keyP 3 1 false).bind fun _=>(keyP 3 0 false).bind fun _=>.ret v) ((Zdi c (wk got a)).bind fun y=>some (y,v)):=by
 have hL:=hG.len;unfold Zdi;simp only[Option.bind_assoc,ZaP];refine Wlk.seqU (ZwW (by omega) ha _ _) (fun _ a1 h1 h2 _=>?_) (fun q=>?_)
 ·refine Wlk.seqU (Ztx (by omega) h2 _ _ _) (fun _ a2 h3 h4 _=>?_) (fun q=>?_)
  ·exact ZpK hG h4 _ _ _ _
  ·simp only[Zhj,ZaP];exact⟨_,rfl,trivial⟩
 ·simp only[Zhj,ZaP];exact⟨_,rfl,trivial⟩
omit hx ha in
theorem Ztz(c:ZaB)(q:Zas):Zdi c (wt got q)=some (wt got q):=by
 have hL:=hG.len;unfold Zdi;simp only[Zrc got (by omega),Zhj,ZaP]
end
theorem Gl.gd{l:List Zae}(h:Gl l):Gd l:=⟨by have:=h.len;omega,fun v hv=>⟨(h.val v hv).1,by have:=(h.val v hv).2.1;omega,by have:=(h.val v hv).2.2;omega⟩⟩
def fewL(b:List (List Zaa)):Prop:=b.length≤1000∧b.flatten.length≤900000
theorem Zre{got:List Zae}(q:Zas)(n:Nat)(hn:n≤1000)(b4:Zac):∀(k i fu:Nat)(ls:List (List Zaa)),n-i=k→i≤n→k+1≤fu→ls.length≤i→∃ls',ZbS (n:Int) fu (i:Int) ls (wt got q) b4=some (wt got q,ls')∧ls'.length≤n∧ls'.flatten=ls.flatten:=by
 intro k;induction k with
 |zero=>
  intro i fu ls hk hi hf hl;obtain⟨fu,rfl⟩ : ∃x,fu=x+1:=⟨fu-1,by omega⟩;unfold ZbS;rw[Zal,if_neg (by omega)];exact⟨_,rfl,by omega,rfl⟩
 |succ k ih=>
  intro i fu ls hk hi hf hl;obtain⟨fu,rfl⟩ : ∃x,fu=x+1:=⟨fu-1,by omega⟩;unfold ZbS;have e1:Zaw (i:Int) 1=((i+1:Nat):Int):=add1 (n:=i+1) (by omega) (by simp only[maxLen];omega);rw[Zal,if_pos (by omega),ZCq,ZaP,Zax ⟨by simp only[List.length_append,List.length_singleton];omega,by simp only[List.length_append,List.length_singleton,maxLen];omega⟩,e1];obtain⟨ls',h1,h2,h3⟩:=ih (i+1) fu (ls++[[]]) (by omega) (by omega) (by omega) (by simp only[List.length_append,List.length_singleton];omega);exact⟨ls',h1,h2,by rw[h3];simp⟩
theorem ZCy{got:List Zae}(hL:got.length≤800)(n:Nat)(hn:n≤1000)(b4:Zac):∀(k i fu a:Nat)(ls:List (List Zaa)),n-i=k→i≤n→k+1≤fu→ls.length=i→ls.flatten.length≤i * 801→a≤got.length →
  Wlk got a eqP fewL (Zrn k i ls) (ZbS (n:Int) fu (i:Int) ls (wk got a) b4):=by
 intro k;induction k with
 |zero=>
  intro i fu a ls hk hi hf hl hs ha;obtain⟨fu,rfl⟩ : ∃x,fu=x+1:=⟨fu-1,by omega⟩;unfold ZbS;rw[Zal,if_neg (by omega)];exact Wlk.ret ha rfl
 |succ k ih=>
  intro i fu a ls hk hi hf hl hs ha;obtain⟨fu,rfl⟩ : ∃x,fu=x+1:=⟨fu-1,by omega⟩;unfold ZbS Zrn;have e1:Zaw (i:Int) 1=((i+1:Nat):Int):=add1 (n:=i+1) (by omega) (by simp only[maxLen];omega);rw[Zal,if_pos (by omega),e1];refine Wlk.seqP (ZFx (by omega) ha _) (fun x b a' h1 h2 h3=>?_) (fun q b hb=>?_)
  ·obtain⟨rfl,h4,_⟩:=h3;dsimp only;rw[Zax ⟨by simp only[List.length_append,List.length_singleton];omega,by simp only[List.length_append,List.length_singleton,maxLen];omega⟩];refine ih (i+1) fu a' (ls++[x]) (by omega) (by omega) (by omega) (by simp only[List.length_append,List.length_singleton];omega) ?_ h2;simp only[List.flatten_append,List.length_append,List.flatten_cons,List.flatten_nil,List.append_nil];omega
  ·dsimp only;rw[Zax ⟨by simp only[List.length_append,List.length_singleton];omega,by simp only[List.length_append,List.length_singleton,maxLen];omega⟩];obtain⟨ls',h,h5,h6⟩:=Zre (got:=got) q n hn b4 k (i+1) fu (ls++[b]) (by omega) (by omega) (by omega) (by simp only[List.length_append,List.length_singleton];omega);refine⟨ls',h,by omega,?_⟩;rw[h6];simp only[List.flatten_append,List.length_append,List.flatten_cons,List.flatten_nil,List.append_nil];have:i * 801≤1000 * 801:=Nat.mul_le_mul_right _ (by omega);omega
section
variable {c:ZaB} {x:Zay} (hx:x.ok) (hs0:0≤c.fShards) (hs:c.fShards≤1000) {got:List Zae} (hG:Gl got) {a:Nat} (ha:a≤got.length)
include hs0 hs hG ha
omit hG ha in
theorem ZCx(q:Zas):∃ls,ZdF (wt got q) c.fShards=some (wt got q,ls)∧fewL ls:=by
 obtain⟨n,hn⟩ : ∃n:Nat,c.fShards=(n:Int):=⟨c.fShards.toNat,by omega⟩;unfold ZdF;rw[hn];obtain⟨ls,h1,h2,h3⟩:=Zre (got:=got) q n (by omega) ⟨[],0,opZ,false⟩ n 0 (((n:Int)-(0:Int)).toNat+2) [] (by omega) (by omega) (by omega) (by simp);exact⟨ls,h1,by omega,by rw[h3];simp⟩
theorem ZDY:Wlk got a (fun x b=>x=b∧b.length≤1000∧b.flatten.length≤800∧∀p∈b.flatten,p.ok) fewL (Zrn c.fShards.toNat 0 []) (ZdF (wk got a) c.fShards):=by
 have hL:=hG.len;obtain⟨n,hn⟩ : ∃n:Nat,c.fShards=(n:Int):=⟨c.fShards.toNat,by omega⟩;unfold ZdF;rw[hn,Int.toNat_natCast];have h:=Wlk.run (ZCy hL n (by omega) ⟨[],0,opZ,false⟩ n 0 (((n:Int)-(0:Int)).toNat+2) a [] (by omega) (by omega) (by omega) rfl (by simp) ha);refine Wlk.mono h (fun y b hy=>?_) (fun b hb=>hb);obtain⟨h1,g,h3⟩:=hy;cases h1;obtain⟨h0,h4,h5⟩:=Zlv _ _ _ _ _ _ h3;simp only[List.length_nil]at h0;refine⟨rfl,by omega,?_,h5 Zaa.ok (by simp) fun v hv=>(hG.val v (List.mem_of_mem_drop hv)).1.2.1⟩;simp only[List.length_drop,List.flatten_nil,List.length_nil]at h4;omega
theorem ZEd:Wlk got a eqP anyW (ZDd c) (ZfH c (wk got a)):=by
 have hL:=hG.len;have hL':got.length≤1000000:=by omega
 have wA:=fun q=>ZCx (got:=got) hs0 hs q;have tail:∀(q:Zas)(ls:List (List Zaa))(nb nv:Int),fewL ls→∃d,((ZbY (wt got q) c.fShards true).bind fun x7=>(Zaz x7 3 1 false).bind fun x8=>(Zaz x8 4 0 false).bind fun x10=>
   (Zdj ls).bind fun x11=>(ZcF x11).bind fun x12=>some (x10,(⟨0,endZ,nb,nv,x12⟩ : Zao)))=some (wt got q,d)∧anyW d:=fun q ls nb nv h=>by
  simp only[Zrc got hL',Zhj,ZaP,ZqO ls h.1 h.2,ZoC _ h.2];exact⟨_,rfl,trivial⟩
 have fin:∀(q:Zas)(ls:List (List Zaa))(nb nv:Int),fewL ls→∃d,((Zaz (wt got q) 3 1 false).bind fun x8=>(Zaz x8 4 0 false).bind fun x10=>
   (Zdj ls).bind fun x11=>(ZcF x11).bind fun x12=>some (x10,(⟨0,endZ,nb,nv,x12⟩ : Zao)))=some (wt got q,d)∧anyW d:=fun q ls nb nv h=>by
  simp only[Zhj,ZaP,ZqO ls h.1 h.2,ZoC _ h.2];exact⟨_,rfl,trivial⟩
 unfold ZDd Zrg ZfH;simp only[Pr.bind_assoc,Pr.bind_ret];refine Wlk.seqU (Ztx (by omega) ha _ _ _) (fun _ a1 _ h1 _=>?_) (fun q=>?_);rotate_left
 ·obtain⟨ls,hls,hfw⟩:=wA q;simp only[Zhj,ZlS got hL',Zhw,ZaP,hls];exact tail q ls _ _ hfw
 refine Wlk.seqU (Ztx (by omega) h1 _ _ _) (fun _ a2 _ h2 _=>?_) (fun q=>?_);rotate_left
 ·obtain⟨ls,hls,hfw⟩:=wA q;simp only[ZlS got hL',Zhw,ZaP,hls];exact tail q ls _ _ hfw
 refine Wlk.seqU (ZwU (by omega) h2 _) (fun _ a3 _ h3 _=>?_) (fun q=>?_);rotate_left
 ·obtain⟨ls,hls,hfw⟩:=wA q;simp only[Zhw,ZaP,hls];exact tail q ls _ _ hfw
 refine Wlk.seqP (Ztd (by omega) h3 _) (fun b b' a4 _ h4 hb=>?_) (fun q b _=>?_);rotate_left
 ·obtain⟨ls,hls,hfw⟩:=wA q;simp only[Zhw,ZaP,hls];exact tail q ls _ _ hfw
 obtain⟨rfl,hb⟩:=hb;refine Wlk.seqP (Ztd (by omega) h4 _) (fun v v' a5 _ h5 hv=>?_) (fun q v _=>?_);rotate_left
 ·obtain⟨ls,hls,hfw⟩:=wA q;simp only[ZaP,hls];exact tail q ls _ _ hfw
 obtain⟨rfl,hv⟩:=hv;refine Wlk.seqP (ZDY hs0 hs hG h5) (fun w ls a6 _ h6 hw=>?_) (fun q ls hfw=>tail q ls _ _ hfw);obtain⟨rfl,hw1,hw2,hw3⟩:=hw;have hfw:fewL w:=⟨hw1,by omega⟩;refine Wlk.seqU (ZwW (by omega) h6 _ _) (fun _ a7 _ h7 _=>?_) (fun q=>fin q w _ _ hfw);refine Wlk.seqU (Ztx (by omega) h7 _ _ _) (fun _ a8 _ h8 _=>?_) (fun q=>?_)
 ·have:=ZpK hG h8 (4:Int) 0 false (⟨0,endZ,((b.fBans.length:Nat):Int),((v.fBook.length:Nat):Int),ZeM w.flatten⟩ : Zao);rw[ZqO w hfw.1 hfw.2];simp only[ZaP,ZoC _ hfw.2];exact this
 ·simp only[Zhj,ZaP,ZqO w hfw.1 hfw.2,ZoC _ hfw.2];exact⟨_,rfl,trivial⟩
end
section
variable {c:ZaB} {x:Zay} (hx:x.ok) {got:List Zae} (hG:Gl got) (all:List (List Zaa)) (hall:all.length≤1000) (hok : ∀ p ∈ all.flatten,p.fEnd.fAddr.ok) (hf8:all.flatten.length≤800)
include hx hG hall hok hf8
omit hG in
theorem ZEY(i:Nat)(hlt:i<all.length):ZeF (all.getD i []) x.fNet false=some (ofP (all.getD i []) x.fNet false)∧(all.getD i []).length≤800:=by
 have _u:=hall;have hmem:all.getD i []∈all:=ZiE all [] i hlt;have hsub:∀p∈all.getD i [],p∈all.flatten:=fun p hp=>List.mem_flatten.2 ⟨_,hmem,hp⟩;have hle:(all.getD i []).length≤all.flatten.length:=(List.sublist_flatten_of_mem hmem).length_le;exact⟨Zuy _ _ _ hx.2.2.1.1 (by omega) fun p hp=>hok p (hsub p hp),by omega⟩
theorem ZqU(q:Zas)(b6:Zac)(b7:Zao):∀(k i fu:Nat),all.length-i=k→i≤all.length→k+1≤fu→∃d,ZbH fu (i:Int) all c x (wt got q) b6 b7=some (wt got q,d):=by
 have hgone:(ofP all.flatten x.fNet true).length≤400000:=by have:=ZuG all.flatten x.fNet true;omega
 intro k;induction k with
 |zero=>
  intro i fu hk hi hf;obtain⟨fu,rfl⟩ : ∃x,fu=x+1:=⟨fu-1,by omega⟩;unfold ZbH;rw[Zal,if_neg (by omega),ZqO all hall (by omega),ZaP,Zuy _ _ _ hx.2.2.1.1 (by omega) hok,ZaP,Zzy q _ hgone,ZaP,Ztz hG,ZaP];exact⟨_,rfl⟩
 |succ k ih=>
  intro i fu hk hi hf;obtain⟨fu,rfl⟩ : ∃x,fu=x+1:=⟨fu-1,by omega⟩;obtain⟨p1,p2⟩:=ZEY hx all hall hok hf8 i (by omega);have p3:=ZuG (all.getD i []) x.fNet false;have e1:Zaw (i:Int) 1=((i+1:Nat):Int):=add1 (n:=i+1) (by omega) (by simp only[maxLen];omega);unfold ZbH;rw[Zal,if_pos (by omega),Zax ⟨by omega,by omega⟩];simp only[Int.toNat_natCast,p1,ZaP,e1,ZAi got q (i:Int) (all.getD i []) (ofP (all.getD i []) x.fNet false) (by omega)];cases decide (((ofP (all.getD i []) x.fNet false).length:Int)<((all.getD i []).length:Int))<;>exact ih (i+1) fu (by omega) (by omega) (by omega)
theorem ZAx(b6:Zac)(b7:Zao):∀(k i fu a:Nat),all.length-i=k→i≤all.length→k+1≤fu→a≤got.length →
  Wlk got a eqP anyW ((ZwX x.fNet i (all.drop i)).bind fun _=>(Zya (ofP all.flatten x.fNet true)).bind fun _=>(Znt c.fShards true).bind fun _=>(keyP 3 1 false).bind fun _=>(keyP 3 0 false).bind fun _=>.ret (⟨0,endZ,((ofP all.flatten x.fNet true).length:Int),0,[]⟩ : Zao))
   (ZbH fu (i:Int) all c x (wk got a) b6 b7):=by
 have hL:=hG.len;have hgone:(ofP all.flatten x.fNet true).length≤400000:=by have:=ZuG all.flatten x.fNet true;omega
 intro k;induction k with
 |zero=>
  intro i fu a hk hi hf ha;obtain⟨fu,rfl⟩ : ∃x,fu=x+1:=⟨fu-1,by omega⟩;unfold ZbH;rw[Zal,if_neg (by omega),ZqO all hall (by omega),ZaP,Zuy _ _ _ hx.2.2.1.1 (by omega) hok,ZaP,List.drop_eq_nil_of_le (by omega)];simp only[ZwX,Pr.bind_ret];refine Wlk.seqU (ZEq hG.gd ha _ hgone) (fun _ a1 _ h1 _=>?_) (fun q=>?_)
  ·exact ZAv hG h1 c _
  ·rw[Ztz hG,ZaP];exact⟨_,rfl,trivial⟩
 |succ k ih=>
  intro i fu a hk hi hf ha;obtain⟨fu,rfl⟩ : ∃x,fu=x+1:=⟨fu-1,by omega⟩;obtain⟨p1,p2⟩:=ZEY hx all hall hok hf8 i (by omega);have p3:=ZuG (all.getD i []) x.fNet false;have p4:=Zrt (all.getD i []) x.fNet;have e1:Zaw (i:Int) 1=((i+1:Nat):Int):=add1 (n:=i+1) (by omega) (by simp only[maxLen];omega);unfold ZbH;rw[Zal,if_pos (by omega),Zax ⟨by omega,by omega⟩,ZeB all [] i (by omega)];simp only[Int.toNat_natCast,p1,ZaP,e1,ZwX,Pr.bind_assoc];rw[Zal];by_cases h0:0<(ofP (all.getD i []) x.fNet true).length
  ·rw[if_pos h0,if_pos (by omega)];refine Wlk.seqU (ZEP (by omega) ha _ _ _ (by omega)) (fun _ a1 _ h1 _=>?_) (fun q=>?_)
   ·exact ih (i+1) fu a1 (by omega) (by omega) (by omega) h1
   ·obtain⟨d,hd⟩:=ZqU hx hG all hall hok hf8 q b6 b7 k (i+1) fu (by omega) (by omega) (by omega);exact⟨d,hd,trivial⟩
  ·rw[if_neg h0,if_neg (by omega),Pr.bind_ret];exact ih (i+1) fu a (by omega) (by omega) (by omega) ha
end
section
variable {c:ZaB} {x:Zay} (hx:x.ok) (hs0:0≤c.fShards) (hs:c.fShards≤1000) {got:List Zae} (hG:Gl got) {a:Nat} (ha:a≤got.length)
include hx hs0 hs hG ha
theorem ZEZ:Wlk got a eqP anyW (banP c x) (Zgl c x (wk got a)):=by
 have hL:=hG.len;have hL':got.length≤1000000:=by omega
 have hban:(⟨x.fNet,x.fNum⟩ : Zab).ok:=⟨hx.2.2.1,hx.2.2.2.2.1,trivial⟩;unfold banP Zgl;rw[Zal];by_cases hn:x.fNum≤x.fNow
 ·rw[if_pos hn,if_pos hn];exact ZpK hG ha _ _ _ _
 rw[if_neg hn,if_neg hn];unfold ZEL Zrg;simp only[Pr.bind_assoc,Pr.bind_ret];refine Wlk.seqU (Ztx (by omega) ha _ _ _) (fun _ a1 _ h1 _=>?_) (fun q=>?_);rotate_left
 ·simp only[Zhj,ZlS got hL',Zhw,ZaP,ZmS,cond_true];exact⟨_,rfl,trivial⟩
 refine Wlk.seqU (Ztx (by omega) h1 _ _ _) (fun _ a2 _ h2 _=>?_) (fun q=>?_);rotate_left
 ·simp only[ZlS got hL',Zhw,ZaP,ZmS,cond_true];exact⟨_,rfl,trivial⟩
 refine Wlk.seqU (ZwU (by omega) h2 _) (fun _ a3 _ h3 _=>?_) (fun q=>?_);rotate_left
 ·simp only[Zhw,ZaP,ZmS,cond_true];exact⟨_,rfl,trivial⟩
 refine Wlk.seqP (Ztd (by omega) h3 _) (fun v v' a4 _ h4 hv=>?_) (fun q b _=>?_);rotate_left
 ·simp only[ZmS,cond_true];exact⟨_,rfl,trivial⟩
 obtain⟨rfl,hv⟩:=hv;have hvv:=hG.val v hv;have hal:=ZDy v.fBans ⟨x.fNet,x.fNum⟩ c.fMaxBans;simp only[ZrL,cond_false];rw[ZCU _ _ _ (by omega) hban,ZaP];generalize addB v.fBans ⟨x.fNet,x.fNum⟩ c.fMaxBans=ad at hal ⊢;by_cases h0:ad.2=0;rotate_left
 ·have e2:(ad.2 != 0)=true:=by rw[bne_iff_ne];exact h0
  rw[if_neg h0,e2,cond_true,Pr.bind_ret];exact ZAv hG h4 c _
 have e2:(ad.2 != 0)=false:=by rw[h0];rfl
 rw[if_pos h0,e2,cond_false];simp only[Pr.bind_assoc,Pr.bind_ret];refine Wlk.seqP (ZDY hs0 hs hG h4) (fun w ls a5 _ h5 hw=>?_) (fun q ls _=>?_);rotate_left
 ·simp only[ZmS,cond_true];exact⟨_,rfl,trivial⟩
 obtain⟨rfl,hw1,hw2,hw3⟩:=hw;have hok:∀p∈w.flatten,p.fEnd.fAddr.ok:=fun p hp=>(hw3 p hp).1.1;simp only[ZrL,cond_false];refine Wlk.seqU (Zvp (by omega) h5 _ _ _ ⟨by show ad.1.length≤_;omega,Nat.zero_le _⟩) (fun _ a6 _ h6 _=>?_) (fun q=>?_)
 ·exact ZAx hx hG w hw1 hok hw2 _ _ w.length 0 _ a6 (by omega) (by omega) (by omega) h6
 ·obtain⟨d,hd⟩:=ZqU hx hG w hw1 hok hw2 q _ _ w.length 0 ((((w.length:Nat):Int)-(0:Int)).toNat+2) (by omega) (by omega) (by omega);exact⟨d,hd,trivial⟩
end
section
variable {c:ZaB} {x:Zay} (hx:x.ok) (hs0:0≤c.fShards) (hs:c.fShards≤1000) {got:List Zae} (hG:Gl got)
include hx hs0 hs hG
theorem ZDC:Wlk got 0 eqP anyW (Zzs c x) (ZfI c x got):=by
 have wrong:Wlk got 0 eqP anyW Zvs ((Zaz (wk got 0) (8:Int) (0:Int) true).bind fun x2=>some (x2,ZoB 1)):=ZpK hG (Nat.zero_le _) _ _ _ _;have fin2:∀r:Option (Zac×Zao),(r.bind fun y=>some (y.1,y.2))=r:=fun r=>by cases r<;>rfl
 unfold Zzs ZfI;rw[Zxk x hx,ZaP];cases Zkn x with
 |false=>
  rw[Bool.not_false,cond_true,if_neg (by decide)];exact wrong
 |true=>
  rw[Bool.not_true,cond_false,if_pos rfl,Zal,Zal,Zhh,Zhh,Zhh,Zhh];by_cases hlo:x.fKind<6
  ·rw[if_pos hlo,if_neg (by omega),if_neg (by omega),if_neg (by omega),if_neg (by omega),if_neg (by omega)];exact wrong
  rw[if_neg hlo];by_cases hhi:x.fKind>10
  ·rw[if_pos hhi,if_neg (by omega),if_neg (by omega),if_neg (by omega),if_neg (by omega),if_neg (by omega)];exact wrong
  rw[if_neg hhi];by_cases h6:x.fKind=6
  ·rw[if_pos h6,if_pos h6,fin2];exact ZEZ hx hs0 hs hG (Nat.zero_le _)
  rw[if_neg h6,if_neg h6];by_cases h7:x.fKind=7
  ·rw[if_pos h7,if_pos h7,fin2];exact ZCA hx hG (Nat.zero_le _)
  rw[if_neg h7,if_neg h7];by_cases h8:x.fKind=8
  ·rw[if_pos h8,if_pos h8];exact ZAw hx hG (Nat.zero_le _)
  rw[if_neg h8,if_neg h8];by_cases h9:x.fKind=9
  ·rw[if_pos h9,if_pos h9,fin2];exact ZEc hx hG (Nat.zero_le _)
  rw[if_neg h9,if_neg h9,if_pos (show x.fKind=10 by omega),fin2];exact ZEd hs0 hs hG (Nat.zero_le _)
end
def Pr.all{α:Type}(Q:α→Prop):Pr α→Prop | .ret x=>Q x | .ask _ k=>∀v,(k v).all Q | .no=>True
theorem Pr.all_bind{α β:Type}{Q:α→Prop}{Q':β→Prop}{p:Pr α}{f:α→Pr β}(h:p.all Q)(hf:∀x,Q x→(f x).all Q'):(p.bind f).all Q':=by
 induction p with
 |ret x=>exact hf x h
 |ask o k ih=>exact fun v=>ih v (h v)
 |no=>trivial
theorem Pr.all_any{α:Type}(p:Pr α):p.all fun _=>True:=by
 induction p with
 |ret x=>trivial
 |ask o k ih=>exact fun v=>ih v
 |no=>trivial
theorem Pr.all_then{α β:Type}{Q':β→Prop}{p:Pr α}{f:α→Pr β}(hf:∀x,(f x).all Q'):(p.bind f).all Q':=Pr.all_bind (Pr.all_any p) fun x _=>hf x
theorem Pr.all_run{α:Type}{Q:α→Prop}:∀{p:Pr α}{l:List Zae}{x:α}{g:Zak},p.all Q→runT p l=some (.ret x g)→Q x
 | .ret y,l,x,g,h,e=>by simp[runT]at e;rw[←e.1];exact h
 | .ask o k,[],x,g,h,e=>by simp[runT]at e
 | .ask o k,v :: l,x,g,h,e=>Pr.all_run (h v) e
 | .no,l,x,g,h,e=>by simp[runT]at e
theorem Zxw(n a b:Int):Zbr n a b=some (decide (n≥a)&&decide (n≤b)):=by
 unfold Zbr;cases decide (n≥a)<;>rfl
theorem ZEC{α:Type}{c:Bool}{x y:Option α}(h1:∃b,x=some b)(h2:∃b,y=some b):∃b,(bif c then x else y)=some b:=by
 cases c
 ·exact h2
 ·exact h1
theorem ZEn(c:ZaB):∃b,ZdA c=some b:=by
 unfold ZdA;simp only[ZbQ,Zcp,Zxw,ZaP]
 repeat' first|exact⟨_,rfl⟩|apply ZEC
theorem got38(l:List Zae):∃b,ZhM l=some b∧(b=true→l.length≤80∧∀v∈l,v.fBans.length≤20∧v.fBook.length≤20):=by
 have main:∀fu (i:Nat),i≤80→i≤l.length→80-i<fu→(∀j:Nat,j<i→(l.getD j Zae.d).fBans.length≤20∧(l.getD j Zae.d).fBook.length≤20) →
   ∃b,Zdo l fu (i:Int)=some b∧(b=true→l.length≤80∧∀v∈l,v.fBans.length≤20∧v.fBook.length≤20):=by
  intro fu;induction fu with
  |zero=>intro i _ _ h;omega
  |succ fu ih=>
   intro i hi hil hf hall;unfold Zdo
   simp only[Zal];have fin:l.length≤i→∀v∈l,v.fBans.length≤20∧v.fBook.length≤20:=fun hle v hv=>by
    obtain⟨j,hj,rfl⟩:=List.getElem_of_mem hv;rw[←ZgI l Zae.d j hj];exact hall j (by omega)
   by_cases h1:(i:Int)<(l.length:Int)
   ·rw[if_pos h1];by_cases h2:(i:Int)<80
    ·rw[if_pos h2,Zax ⟨by omega,by omega⟩];simp only[Int.toNat_natCast];by_cases h3:((l.getD i Zae.d).fBans.length:Int)>20
     ·rw[if_pos h3];exact⟨false,rfl,fun h=>by cases h⟩
     ·rw[if_neg h3];by_cases h4:((l.getD i Zae.d).fBook.length:Int)>20
      ·rw[if_pos h4];exact⟨false,rfl,fun h=>by cases h⟩
      ·rw[if_neg h4];have e1:Zaw (i:Int) 1=((i+1:Nat):Int):=add1 (n:=81) (by omega) (by unfold maxLen;omega);rw[e1];refine ih (i+1) (by omega) (by omega) (by omega) fun j hj=>?_;by_cases e:j=i
       ·subst e;omega
       ·exact hall j (by omega)
    ·rw[if_neg h2];refine⟨_,rfl,fun h=>?_⟩;have:=of_decide_eq_true h;have hle:l.length≤i:=by omega
     exact⟨by omega,fin hle⟩
   ·rw[if_neg h1];refine⟨_,rfl,fun h=>?_⟩;have:=of_decide_eq_true h;exact⟨by omega,fin (by omega)⟩
 exact main _ 0 (by omega) (by omega) (by omega) (fun j hj=>by omega)
theorem Zzt(c:ZaB):ZbQ false c=some false:=by
 simp[ZbQ,Zcp,Zxw]
theorem ZCJ{c:ZaB}(h:ZdA c=some true):1≤c.fShards∧c.fShards≤8:=by
 unfold ZdA at h;simp only[Zxw,ZaP,Zzt]at h;cases h1:(decide (c.fMaxIn≥0)&&decide (c.fMaxIn≤65535))with
 |false=>rw[h1]at h;simp at h
 |true=>
  rw[h1,cond_true]at h;cases h2:(decide (c.fMaxOut≥0)&&decide (c.fMaxOut≤65535))with
  |false=>rw[h2]at h;simp at h
  |true=>
   rw[h2,cond_true]at h;cases h3:(decide (c.fShards≥1)&&decide (c.fShards≤8))with
   |false=>rw[h3]at h;simp at h
   |true=>
    rw[Bool.and_eq_true,decide_eq_true_eq,decide_eq_true_eq]at h3;omega
def Pr.on{α:Type}(Q:α→Prop)(p:Pr α)(l:List Zae):Prop:=∀v g,runT p l=some (.ret v g)→Q v
theorem Pr.on_bind{α β:Type}{Q:β→Prop}{p:Pr α}{f:α→Pr β}{l:List Zae}(h:∀x g,runT p l=some (.ret x g)→(f x).on Q g.fgot):(p.bind f).on Q l:=fun v g hr=>by
 obtain⟨x,g1,h1,h2⟩:=Zxh hr
 exact h x g1 h1 v g h2
theorem Pr.on_all{α:Type}{Q:α→Prop}{p:Pr α}{l:List Zae}(h:p.all Q):p.on Q l:=fun v g hr=>Pr.all_run h hr
theorem ZDe{got:List Zae}{p:Pr Zao}{r:Option (Zac×Zao)}(h:Wlk got 0 eqP anyW p r)(hp:p.on (fun v=>v.fPeers.length≤1000000) got) :
  ∃t w v,(runT p got).map Zpo=some t∧r=some (w,v)∧ZfC t w v=some true:=by
 rcases h with⟨v,b,a,h1,h2,h3,h4,h5⟩|⟨q,b,h1,h2,h3,h4⟩
 ·cases h5;rw[List.drop_zero]at h1;refine⟨_,_,_,by rw[h1];rfl,h2,?_⟩;unfold ZfC;simp only[ZrL,cond_false,Zpo,cond_true,Bool.not_false];have e1:ZdO Zas.d opZ=some true:=ZrP opZ ZuF;have e2:=ZoY v (hp _ _ h1);have e1':ZdO Zas.d (Zas.mk (0:Int) (0:Int) (Zap.mk (0:Int) (0:Int) (0:Int)) (0:Int) (0:Int) (Zae.mk (0:Int) (Zaa.mk (Zah.mk (Zag.mk false (0:Int) (0:Int)) (0:Int)) false (0:Int) (Zar.mk (0:Int) (0:Int)) (0:Int) (0:Int)) ([]:(List Zab)) ([]:(List Zad))) false)=some true:=e1;rw[e1',e2];rfl
 ·rw[List.drop_zero]at h1;refine⟨_,_,_,by rw[h1];rfl,h2,?_⟩;unfold ZfC;simp only[ZmS,cond_true,Zpo,Bool.not_false];have e1:ZdO q (wt got q).fOp=some true:=ZrP q h3;have e2:ZdR Zao.d (Zao.mk (0:Int) (Zah.mk (Zag.mk false (0:Int) (0:Int)) (0:Int)) (0:Int) (0:Int) ([]:(List Zaa)))=some true:=ZoY repZ (by simp[repZ]);rw[e1,e2];rfl
theorem ZCH(c:ZaB)(x:Zay)(got:List Zae)(hG:got.length≤800):(Zzs c x).on (fun v=>v.fPeers.length≤1000000) got:=by
 have wrong:Zvs.on (fun v=>v.fPeers.length≤1000000) got:=Pr.on_all (Pr.all_then fun _=>Nat.zero_le _);have any:∀{p:Pr Zao},(p.all fun v=>v.fPeers.length≤1000000)→p.on (fun v=>v.fPeers.length≤1000000) got:=fun h=>Pr.on_all h;unfold Zzs;split;rotate_left
 ·exact wrong
 split
 ·refine any ?_;unfold banP;split
  ·exact Pr.all_then fun _=>Nat.zero_le _
  ·refine Pr.all_then fun _=>Pr.all_then fun _=>Pr.all_then fun _=>Pr.all_bind (Q:=fun r=>r.fPeers.length≤1000000) (Pr.all_then fun l=>?_) fun r hr=>Pr.all_then fun _=>Pr.all_then fun _=>Pr.all_then fun _=>hr;split
   ·exact Pr.all_then fun _=>Pr.all_then fun _=>Pr.all_then fun _=>Pr.all_then fun _=>Nat.zero_le _
   ·exact Nat.zero_le _
 split
 ·refine any (Pr.all_then fun _=>Pr.all_then fun l=>?_);split
  ·exact Pr.all_then fun _=>Pr.all_then fun _=>Nat.zero_le _
  ·exact Pr.all_then fun _=>Nat.zero_le _
 split
 ·exact any (Pr.all_then fun _=>Pr.all_then fun l=>Pr.all_then fun _=>Nat.zero_le _)
 split
 ·refine any (Pr.all_then fun _=>Pr.all_then fun l=>?_);split
  ·exact Pr.all_then fun _=>Pr.all_then fun _=>Nat.zero_le _
  ·exact Pr.all_then fun _=>Nat.zero_le _
 split
 ·have sh:∀{α:Type}{p:Pr α}{l:List Zae}{v:α}{g:Zak},runT p l=some (.ret v g)→l.length≤800→g.fgot.length≤800:=fun h hl=>by
   obtain⟨a,h1,rfl⟩:=ZvE _ _ _ _ h;simp only[List.length_drop];omega
  refine Pr.on_bind fun _ g1 r1=>Pr.on_bind fun _ g2 r2=>Pr.on_bind fun _ g3 r3=>Pr.on_bind fun b g4 r4=>Pr.on_bind fun v g5 r5=>Pr.on_bind fun all g6 r6=>Pr.on_all ?_;have hl:=sh r5 (sh r4 (sh r3 (sh r2 (sh r1 hG))));obtain⟨_,h4,_⟩:=Zlv _ _ _ _ _ _ r6;simp only[List.flatten_nil,List.length_nil]at h4;refine Pr.all_then fun _=>Pr.all_then fun _=>Pr.all_then fun _=>?_;show (ZeM all.flatten).length≤1000000;rw[ZhO];omega
 ·exact wrong
theorem Zyb:Zeo=some true:=by decide +kernel
theorem gl_of{l:List Zae}(h:okL Zae.ok l)(h1:l.length≤80)(h2:∀v∈l,v.fBans.length≤20∧v.fBook.length≤20):Gl l:=
 ⟨by omega,fun v hv=>⟨h.2 v hv,by have:=(h2 v hv).1;omega,by have:=(h2 v hv).2;omega⟩⟩
theorem Ztv(c:ZaB)(x:Zay)(got:List Zae)(hc:c.ok)(hx:x.ok)(hg:okL Zae.ok got):Zfs c x got=some true:=by
 obtain⟨b,hb⟩:=ZEn c;obtain⟨d,hd,hd2⟩:=got38 got;unfold Zfs;rw[hb,ZaP];cases b with
 |false=>rw[Bool.not_false,cond_true,Zyb];rfl
 |true=>
  obtain⟨s1,s2⟩:=ZCJ hb;rw[Bool.not_true,cond_false,hd,ZaP];cases d with
  |false=>rw[Bool.not_false,cond_true,Zyb];rfl
  |true=>
   have hG:=gl_of hg (hd2 rfl).1 (hd2 rfl).2;obtain⟨t,w,v,h1,h2,h3⟩:=ZDe (ZDC hx (by omega) (by omega) hG (c:=c)) (ZCH c x got hG.len);rw[Bool.not_true,cond_false,h2,ZaP,ZCs hx (by omega) (by omega) hG,h1,ZaP,h3,Zyb];rfl
end Go.Proofs.YtdjfoojllbfcgaaGreat
