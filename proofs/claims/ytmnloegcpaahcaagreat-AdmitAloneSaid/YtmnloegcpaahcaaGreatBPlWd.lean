import Derived.Test.YtmnloegcpaahcaaGreatBPlXd
import Derived.Test.YtmnloegcpaahcaaGreatBPlTh
namespace Go.Proofs.YtmnloegcpaahcaaGreat
set_option linter.unusedSectionVars false
set_option linter.unusedVariables false
set_option linter.unusedSimpArgs false
def ZrD(x:ZaB):Zaa:=⟨x.fEnd,true,fitI x.fNow,⟨0,fitI x.fNow⟩,0,0⟩
def ZoX(x:ZaB)(l:List Zaa):List Zaa:=l++[ZrD x]
theorem Zjy(x:ZaB)(l:List Zaa):(ZoX x l).length=l.length+1:=by simp[ZoX]
theorem ZvY(c:ZaA)(x:ZaB)(l:List Zaa)(hl:l.length<=900000):Zez ⟨c,x⟩ l=some (ZoX x l):=by
 unfold Zez;have ec:Zbi l=some l:=by
  unfold Zbi;rw[Zar ⟨by omega,by unfold maxLen;omega⟩]
 have en:Zox x.fEnd true x.fNow=some (ZrD x):=by unfold Zox;rw[ZFK];rfl
 have b:=Zjy x l;unfold ZoX at b;rw[ec,ZaJ,en,ZaJ,Zar ⟨by omega,by unfold maxLen;omega⟩];rfl
theorem ZGm{all:List (List Zaa)}{l:List Zaa}(h:l∈all):l.length<=all.flatten.length:=by
 induction all with
 |nil=>cases h
 |cons y r ih=>
  simp only[List.flatten_cons,List.length_append];rcases List.mem_cons.1 h with rfl|h
  .omega
  .have:=ih h;omega
theorem ZAi(all:List (List Zaa))(i:Nat)(h:i<all.length):(all.take (i+1)).flatten=(all.take i).flatten++all[i]:=by
 rw[List.take_succ_eq_append_getElem h,List.flatten_append];simp
theorem ZvL(all:List (List Zaa))(i:Nat):(all.take i).flatten.length<=all.flatten.length:=by
 have:all.flatten=(all.take i).flatten++(all.drop i).flatten:=by rw[<-List.flatten_append,List.take_append_drop]
 rw[this,List.length_append];omega
theorem ZHl(all:List (List Zaa))(t:all.length<=1000)(u:all.flatten.length<=900000):ZcJ all=some all.flatten:=by
 have bY:∀(v3:Int)(v9:List (List Zaa))(v10 kj:Int)(j:Int->List (List Zaa)->Int->Int->Option (List Zaa))(k i fu:Nat),all.length-i=k->i<=all.length->k+1<=fu ->
   Zbr all v3 v9 v10 kj j fu all (all.length:Int) (i:Int) (all.take i).flatten=some all.flatten:=by
  intro v3 v9 v10 kj j k;induction k with
  |zero=>
   intro i fu b hi d;obtain⟨fu,rfl⟩ : ∃x,fu=x+1:=⟨fu-1,by omega⟩;unfold Zbr;rw[Zai,if_neg (by omega),List.take_of_length_le (by omega)]
  |succ k ih=>
   intro i fu b hi d;obtain⟨fu,rfl⟩ : ∃x,fu=x+1:=⟨fu-1,by omega⟩;have bt:i<all.length:=by omega
   have g:Zan (i:Int) 1=((i+1:Nat):Int):=add1 (n:=i+1) (by omega) (by simp only[maxLen];omega);have h:all.getD ((i:Int)).toNat []=all[i]:=ZbT all [] i bt;have o:=ZvL all (i+1);have hs:=ZAi all i bt;unfold Zbr;rw[Zai,if_pos (by omega),Zar (by omega),h,<-hs,Zar ⟨by omega,by unfold maxLen;omega⟩,g];exact ih (i+1) fu (by omega) (by omega) (by omega)
 have cw:∀(k i fu:Nat),all.length-i=k->i<=all.length->k+1<=fu->ZaV all fu ((all.take i).flatten.length:Int) all (all.length:Int) (i:Int)=some all.flatten:=by
  intro k;induction k with
  |zero=>
   intro i fu b hi d;obtain⟨fu,rfl⟩ : ∃x,fu=x+1:=⟨fu-1,by omega⟩;have o:=ZvL all i;have eg:Zcd ((all.take i).flatten.length:Int)=some []:=by
    unfold Zcd;rw[Zar ⟨by omega,by omega,by omega⟩]
   unfold ZaV;rw[Zai,if_neg (by omega),eg,ZaJ];exact bY _ _ _ _ _ all.length 0 _ (by omega) (by omega) (by omega)
  |succ k ih=>
   intro i fu b hi d;obtain⟨fu,rfl⟩ : ∃x,fu=x+1:=⟨fu-1,by omega⟩;have bt:i<all.length:=by omega
   have g:Zan (i:Int) 1=((i+1:Nat):Int):=add1 (n:=i+1) (by omega) (by simp only[maxLen];omega);have h:all.getD ((i:Int)).toNat []=all[i]:=ZbT all [] i bt;have o:=ZvL all (i+1);have hs:=ZAi all i bt;have hl:(all.take (i+1)).flatten.length=(all.take i).flatten.length+all[i].length:=by rw[hs,List.length_append]
   have p:Zan ((all.take i).flatten.length:Int) (all[i].length:Int)=((all.take (i+1)).flatten.length:Int):=by rw[Zcs (by omega) (by omega)];omega
   unfold ZaV;rw[Zai,if_pos (by omega),Zar (by omega),h,p,Zai,if_neg (by omega),g];exact ih (i+1) fu (by omega) (by omega) (by omega)
 unfold ZcJ;exact cw all.length 0 _ (by omega) (by omega) (by omega)
def Zhx(all:List (List Zaa))(e:Zal):Int:=ixOf (fun l=>decide (ZhO l e>=0)) all 0
theorem ZHU(all:List (List Zaa))(e:Zal)(b:all.length<=1000)(d:all.flatten.length<=900000):Zcb all e=some (Zhx all e):=by
 simp only[Zcb];have:=Zto all ([]:List Zaa) (fun l=>decide (ZhO l e>=0)) (by unfold maxLen;omega) (fun fu i=>ZaZ all e fu (all.length:Int) i) (fun i=>i) (fun fu i hi=>by
   have hle:=ZGm (ZeH all [] i hi);simp only[ZaZ,ZgL,Zai,Int.toNat_natCast];rw[if_pos (by omega),Zar ⟨by omega,by omega⟩,Ztg _ _ (by unfold maxLen;omega)];simp only[ZaJ,Bool.cond_eq_ite]) (fun fu=>by
   simp only[ZaZ,Zai];rw[if_neg (by omega)]) ((((all.length:Nat):Int)-(0:Int)).toNat+2) 0 (by omega) (by omega)
 simp only[Int.natCast_zero,List.drop_zero]at this;exact this
theorem ZCJ(all:List (List Zaa))(e:Zal):Zhx all e<(all.length:Int):=by
 have:=ZBI (fun l=>decide (ZhO l e>=0)) all 0;unfold Zhx;omega
theorem ZCK{all:List (List Zaa)}{e:Zal}(h:∃p∈all.flatten,p.fEnd=e):0<=Zhx all e:=by
 by_cases d:Zhx all e<0
 .exfalso;obtain⟨p,hp,he⟩:=h;obtain⟨l,hl,du⟩:=List.mem_flatten.1 hp;have g:=(ZqW (fun l=>decide (ZhO l e>=0)) all 0).1 d l hl;have j:ZhO l e<0:=by
   have:=of_decide_eq_false g;omega
  have b:=(ZqW (fun x:Zaa=>decide (x.fEnd=e)) l 0).1 j p du;rw[he]at b;simp at b
 .omega
def ZcQ(c:ZaA)(all:List (List Zaa)):Zal×Bool:=(ZeC all.flatten c.fQuota c.fSecret).getD (endZ,false)
theorem ZHw(c:ZaA)(all:List (List Zaa))(d:all.flatten.length<=800)(ho:∀p∈all.flatten,p.ok) :
  ZeC all.flatten c.fQuota c.fSecret=some (ZcQ c all)/\ZdI all.flatten c.fQuota c.fSecret=some (ZcQ c all)/\((ZcQ c all).2=true->0<=Zhx all (ZcQ c all).1):=by
 obtain⟨r,b,g,j⟩:=ZtO all.flatten c.fQuota c.fSecret d fun p hp=>(ho p hp).1.1;have e:ZcQ c all=r:=by unfold ZcQ;rw[b];rfl
 rw[e];refine⟨b,g,fun h=>ZCK ?_⟩;obtain⟨p,o,t,_⟩:=j h;exact⟨p,o,t⟩
def Zxb(c:ZaA)(x:ZaB):Pr (Zau×Bool):=(keyP 1 (2+pt c x) false).bind fun _=>(ZtR (pt c x)).bind fun l=>if ZhO l x.fEnd>=0 then(keyP 3 (2+pt c x) true).bind fun _=>.ret (Ziw 7,true)else(Zlv c.fMaxIn true 1000000).bind fun b=>if b=true then(Zqf (pt c x) l (ZoX x l)).bind fun _=>(keyP 3 (2+pt c x) false).bind fun _=>.ret (repZ,true)else(keyP 3 (2+pt c x) false).bind fun _=>.ret (repZ,false)
def Zhl(all:List (List Zaa))(i:Int):List Zaa:=all.getD i.toNat []
def ZlB(all:List (List Zaa))(e:Zal):List (List Zaa):=all.set (Zhx all e).toNat (ZuN (Zhl all (Zhx all e)) [e])
def ZqQ(c:ZaA)(x:ZaB)(all:List (List Zaa)):Pr (Zau×Bool):=if ZhO (Zhl all (pt c x)) x.fEnd>=0 then .ret (Ziw 7,true)else(Zlv c.fMaxIn true 1000000).bind fun b=>if b=true then(Zqf (pt c x) (Zhl all (pt c x)) (ZoX x (Zhl all (pt c x)))).bind fun _=>.ret (repZ,false)else if(ZcQ c all).2=true then(Zqf (Zhx all (ZcQ c all).1) (Zhl all (Zhx all (ZcQ c all).1)) (ZuN (Zhl all (Zhx all (ZcQ c all).1)) [(ZcQ c all).1])).bind fun _=>(Zqf (pt c x) (Zhl (ZlB all (ZcQ c all).1) (pt c x)) (ZoX x (Zhl (ZlB all (ZcQ c all).1) (pt c x)))).bind fun _=>.ret (⟨0,(ZcQ c all).1,1,0,[]⟩,true)else .ret (Ziw 5,true)
def ZxV(c:ZaA)(x:ZaB)(all:List (List Zaa)):Pr Zau:=(ZqQ c x all).bind fun q=>(Zux c.fShards q.2).bind fun _=>.ret q.1
def ZEq(c:ZaA)(x:ZaB):Pr Zau:=(Zsv c.fShards).bind fun _=>(ZAP c.fShards.toNat 0 []).bind fun all=>ZxV c x all
def Znb(c:ZaA)(x:ZaB):Pr Zau:=if ZjQ x=true then(keyP 2 0 false).bind fun _=>(Znh ⟨3,0,0⟩).bind fun v=>if Zrs v.fBans x.fEnd.fAddr x.fNow>0 then(keyP 4 0 true).bind fun _=>.ret ⟨8,endZ,0,Zrs v.fBans x.fEnd.fAddr x.fNow,[]⟩else(Zxb c x).bind fun q=>if q.2=true then(keyP 4 0 false).bind fun _=>.ret q.1 else(ZEq c x).bind fun r=>(keyP 4 0 false).bind fun _=>.ret r else ZFw
section
variable {c:ZaA} {x:ZaB} (hx:x.ok) {l:List Zag} (hl:Gl l)
include hx hl
omit hl in
theorem ZAA:ZgA ⟨c,x⟩=some (pt c x):=by
 unfold ZgA;rw[(Zsf x.fEnd.fAddr hx.2.1.1 c.fSecret c.fShards).1];rfl
theorem ZHJ:Zhd ⟨c,x⟩ ⟨l⟩=runT (Zxb c x) l:=by
 unfold Zhd;rw[ZAA hx,ZaJ];simp only[ZKY hx];rw[ZDW];refine Zdl (fun _ a ha h=>?_) (fun _=>rfl);dsimp only;have j:=(hl.drop a).len;rw[ZDV _ _ (by omega)];refine Zdl (fun w b hb g=>?_) (fun _=>rfl);dsimp only;have o:=ZIt g;rw[Ztg _ _ (by unfold maxLen;omega),ZaJ,Zai];by_cases h0:ZhO w x.fEnd>=0
 .rw[if_pos h0,if_pos h0,ZuE];exact Zdl (fun _ _ _ _=>rfl) (fun _=>rfl)
 .rw[if_neg h0,if_neg h0,Zwq];refine Zdl (fun ok d hd p=>?_) (fun _=>rfl);dsimp only;cases ok with
  |true=>
   rw[cond_true,if_pos rfl,ZvY c x w (by omega),ZaJ,Ztd _ _ _ _ (by rw[Zjy];omega)];refine Zdl (fun _ e he _=>?_) (fun _=>rfl);dsimp only;rw[ZuE];exact Zdl (fun _ _ _ _=>rfl) (fun _=>rfl)
  |false=>
   rw[cond_false,if_neg (by decide),ZuE];exact Zdl (fun _ _ _ _=>rfl) (fun _=>rfl)
variable (bU:1<=c.fShards) (hs:c.fShards<=8)
include bU hs
omit hl in
theorem pt_lt:0<=pt c x/\pt c x<c.fShards:=by
 obtain⟨_,_,b,d⟩:=Zsf x.fEnd.fAddr hx.2.1.1 c.fSecret c.fShards;have:ZmB c.fShards=c.fShards:=by unfold ZmB;rw[if_neg (by omega),if_neg (by omega)]
 unfold pt;omega
theorem ZCC(all:List (List Zaa))(ha:(all.length:Int)=c.fShards)(b:all.flatten.length<=800)(aC:∀p∈all.flatten,p.ok):Zgk ⟨c,x⟩ ⟨l⟩ all=runT (ZqQ c x all) l:=by
 have hp:=pt_lt hx bU hs;obtain⟨g,_,h⟩:=ZHw c all b aC;have hle:=fun(i:Nat) (hi:i<all.length)=>ZGm (ZeH all [] i hi);have ev:=hle (pt c x).toNat (by omega);unfold Zgk ZqQ;have hd:all.getD (pt c x).toNat ([]:List Zaa)=Zhl all (pt c x):=rfl;rw[ZAA hx,ZaJ,Zar (by omega),hd,Ztg _ _ (by unfold maxLen;unfold Zhl;omega),ZaJ,Zai];by_cases h0:ZhO (Zhl all (pt c x)) x.fEnd>=0
 .rw[if_pos h0,if_pos h0];rfl
 .rw[if_neg h0,if_neg h0,Zwq];refine Zdl (fun ok d hd o=>?_) (fun _=>rfl);dsimp only;cases ok with
  |true=>
   rw[cond_true,if_pos rfl,ZvY c x _ (by unfold Zhl;omega),ZaJ,Ztd _ _ _ _ (by rw[Zjy];unfold Zhl;omega)];exact Zdl (fun _ _ _ _=>rfl) (fun _=>rfl)
  |false=>
   rw[cond_false,if_neg (by decide),ZHl all (by omega) (by omega),ZaJ,g,ZaJ];cases j:(ZcQ c all).2 with
   |false=>
    rw[Bool.not_false,cond_true,if_neg (by decide)];rfl
   |true=>
    have t:=h j;have hk2:=ZCJ all (ZcQ c all).1;have hkl:=hle (Zhx all (ZcQ c all).1).toNat (by omega);have u:=ZFT (Zhl all (Zhx all (ZcQ c all).1)) [(ZcQ c all).1];have bx:(Zhl all (Zhx all (ZcQ c all).1)).length<=all.flatten.length:=hkl;have he:((ZlB all (ZcQ c all).1).getD (pt c x).toNat []).length<=800:=by
     unfold ZlB;simp only[List.getD_eq_getElem?_getD,List.getElem?_set];by_cases e:(Zhx all (ZcQ c all).1).toNat=(pt c x).toNat
     .rw[if_pos e];split
      .simp only[Option.getD_some];omega
      .simp
     .rw[if_neg e,<-List.getD_eq_getElem?_getD];omega
    have jU:all.getD (Zhx all (ZcQ c all).1).toNat ([]:List Zaa)=Zhl all (Zhx all (ZcQ c all).1):=rfl;have hd3:(all.set (Zhx all (ZcQ c all).1).toNat (ZuN (Zhl all (Zhx all (ZcQ c all).1)) [(ZcQ c all).1])).getD (pt c x).toNat ([]:List Zaa)=Zhl (ZlB all (ZcQ c all).1) (pt c x):=rfl;rw[Bool.not_true,cond_false,if_pos rfl,ZHU all _ (by omega) (by omega),ZaJ,Zar (by omega),jU,ZEr _ _ (by omega) (by simp[maxLen]),ZaJ,Ztd _ _ _ _ (by omega),hd3];refine Zdl (fun _ e he' _=>?_) (fun _=>rfl);dsimp only;rw[ZvY c x _ (by unfold Zhl;omega),ZaJ,Ztd _ _ _ _ (by rw[Zjy];unfold Zhl;omega)];exact Zdl (fun _ _ _ _=>rfl) (fun _=>rfl)
theorem ZJj:ZhJ ⟨c,x⟩ ⟨l⟩=runT (ZEq c x) l:=by
 obtain⟨n,d⟩ : ∃n:Nat,c.fShards=(n:Int):=⟨c.fShards.toNat,by omega⟩;have aK:∀(k i fu:Nat)(w:List (List Zaa))(l:List Zag)(b4:Zau),n-i=k->i<=n->k+1<=fu->w.length=i->Gl l->w.flatten.length+l.length<=800->(∀p∈w.flatten,p.ok) ->
   Zdx fu (n:Int) (i:Int) (w++List.replicate k []) ⟨l⟩ ⟨c,x⟩ b4=runT ((ZAP k i w).bind fun all=>ZxV c x all) l:=by
  intro k;induction k with
  |zero=>
   intro i fu w l b4 g hi j b hl eR aC;obtain⟨fu,rfl⟩ : ∃x,fu=x+1:=⟨fu-1,by omega⟩;unfold Zdx;rw[Zai,if_neg (by omega),List.replicate_zero,List.append_nil,ZCC hx hl bU hs w (by omega) (by omega) aC];simp only[ZAP,Pr.bind_ret];refine Zdl (fun q a ha h=>?_) (fun _=>rfl);dsimp only;rw[ZCF];exact Zdl (fun _ _ _ _=>rfl) (fun _=>rfl)
  |succ k ih=>
   intro i fu w l b4 g hi j b hl eR aC;obtain⟨fu,rfl⟩ : ∃x,fu=x+1:=⟨fu-1,by omega⟩;have hlen:=hl.len;unfold Zdx ZAP;have o:Zan (i:Int) 1=((i+1:Nat):Int):=add1 (n:=i+1) (by omega) (by simp only[maxLen];omega);rw[Zai,if_pos (by omega),ZDV _ _ (by omega),Pr.bind_assoc];refine Zdl (fun y a ha h=>?_) (fun _=>rfl);dsimp only;have es:(w++List.replicate (k+1) []).set (i:Int).toNat y=w++[y]++List.replicate k []:=by
    rw[Int.toNat_natCast,<-b,List.replicate_succ,List.set_append_right _ _ (Nat.le_refl _)];simp
   have t:=ZGf h;simp only at t;rw[Zar ⟨by omega,by simp;omega⟩,o,es];refine ih (i+1) fu (w++[y]) (l.drop a) b4 (by omega) (by omega) (by omega) (by simp;omega) (hl.drop a) ?_ ?_
   .simp only[List.flatten_append,List.length_append,List.flatten_cons,List.flatten_nil,List.append_nil];omega
   .intro p hp;simp only[List.flatten_append,List.flatten_cons,List.flatten_nil,List.append_nil,List.mem_append]at hp;rcases hp with hp|hp
    .exact aC p hp
    .exact ZIs h (Q:=Zaa.ok) (fun v u=>(hl.val v u).1.2.1) p hp
 unfold ZhJ ZEq;rw[ZCE];refine Zdl (fun _ a ha h=>?_) (fun _=>rfl);dsimp only;have z:=(hl.drop a).len;simp only[d,Int.toNat_natCast];rw[Zar ⟨by omega,by omega,by omega,by omega⟩];have:=aK n 0 (((n:Int)-(0:Int)).toNat+2) [] (l.drop a) (Zau.mk (0:Int) (Zal.mk (Zaf.mk false (0:Int) (0:Int)) (0:Int)) (0:Int) (0:Int) ([]:(List Zaa))) (by omega) (by omega) (by omega) rfl (hl.drop a) (by simpa using z) (by simp);rw[List.nil_append]at this;exact this
theorem ZFt:ZgK ⟨c,x⟩ ⟨l⟩=runT (Znb c x) l:=by
 unfold ZgK Znb;rw[ZFk x hx,ZaJ];cases ZjQ x with
 |false=>
  rw[Bool.not_false,cond_true,if_neg (by decide),ZJk];exact Zdl (fun _ _ _ _=>rfl) (fun _=>rfl)
 |true=>
  rw[Bool.not_true,cond_false,if_pos rfl,ZHI];refine Zdl (fun _ a ha h=>?_) (fun _=>rfl);dsimp only;rw[ZuD];refine Zdl (fun v b hb g=>?_) (fun _=>rfl);dsimp only;have j:=ZKl g (hl.drop a);rw[(Zzf v.fBans x.fEnd.fAddr x.fNow (by unfold maxLen;omega) (j.1.2.2.1.2) hx.2.1.1).1,ZaJ,Zai];by_cases h0:Zrs v.fBans x.fEnd.fAddr x.fNow>0
  .rw[if_pos h0,if_pos h0,Zza];exact Zdl (fun _ _ _ _=>rfl) (fun _=>rfl)
  .rw[if_neg h0,if_neg h0,ZHJ hx ((hl.drop a).drop b)];refine Zdl (fun q d hd _=>?_) (fun _=>rfl);dsimp only;cases o:q.2 with
   |true=>
    rw[Bool.not_true,cond_false,if_pos rfl,Zza];exact Zdl (fun _ _ _ _=>rfl) (fun _=>rfl)
   |false=>
    rw[Bool.not_false,cond_true,if_neg (by decide),ZJj hx (((hl.drop a).drop b).drop d) bU hs];refine Zdl (fun r e he _=>?_) (fun _=>rfl);dsimp only;rw[Zza];exact Zdl (fun _ _ _ _=>rfl) (fun _=>rfl)
theorem Zzb:Zhe c x l=(runT (Znb c x) l).map ZBt:=by
 unfold Zhe Zkn;rw[ZaJ];dsimp only;unfold Zlx;rw[ZFt hx hl bU hs];cases(runT (Znb c x) l).map ZBt<;>rfl
end
set_option linter.unusedSectionVars false
section
variable {ap out:Int} {ag:List Zae} {book:List Zac} {n:Nat} {f:Nat->Zat} (a7:1<=n) (aZ:n<=8)
include a7 aZ
theorem ZDY{sh:List Zab}(aQ:sh.length=n)(hi : -1000000<=ap/\ap<=1000000)(cd:Int)(h:ap>=cd)(ai:Bool):Ex (Zlv cd ai 1000000) (memM ap out ag book sh n f) false (memM ap out ag book sh n f) 1 0:=by
 have hl:=ZEb (ap:=ap) (out:=out) (ag:=ag) (book:=book) (f:=f) a7 aZ aQ 1 (.inl rfl) (by rw[if_pos rfl];exact Zvh (by omega) (by omega));unfold Zlv;refine hl.seq (s2:=0) (c2:=0) ?_ (by omega) rfl;dsimp only;rw[if_pos rfl,if_pos h];exact .ret _ _ _
theorem ZHQ{sh:List Zab}(aQ:sh.length=n)(hi : -1000000<=ap/\ap<=1000000)(cd:Int)(h:¬ap>=cd)(ai:Bool):Ex (Zlv cd ai 1000000) (memM ap out ag book sh n f) true (memM (ap+1) out ag book sh n f) 2 (bn ai):=by
 have hl:=ZEb (ap:=ap) (out:=out) (ag:=ag) (book:=book) (f:=f) a7 aZ aQ 1 (.inl rfl) (by rw[if_pos rfl];exact Zvh (by omega) (by omega));have b:=ZKK (ap:=ap) (out:=out) (ag:=ag) (book:=book) (f:=f) a7 aZ aQ 1 (.inl rfl) (ap+1) ai;rw[if_pos rfl,if_pos rfl,if_pos rfl]at b;unfold Zlv;refine hl.seq (s2:=1) (c2:=bn ai) ?_ (by omega) (Nat.zero_add _);dsimp only;rw[if_pos rfl,if_neg h,Zcs (by omega) (by omega)];exact b.seq (.ret _ _ 0) (by omega) rfl
theorem ZHM{ps:PPs}(aQ:ps.length=n){i:Nat}(hi:i<n)(al:Prs)(hlen:((ps.getD i ([],[])).1++(ps.getD i ([],[])).2).length<=5000)(eN:al.length<=5000) :
  Ex (Zqf (i:Int) (ps.getD i ([],[])).1 al) (memM ap out ag book (shP ps) n f) () (memM ap out ag book (shP (ps.set i (al,((ps.getD i ([],[])).1++(ps.getD i ([],[])).2).drop al.length))) n f) (al.length+1) 0:=by
 have h:=ZJm (ap:=ap) (out:=out) (ag:=ag) (book:=book) (f:=f) a7 aZ (by rw[ZlX];exact aQ) hi (ps.getD i ([],[])).1 (ps.getD i ([],[])).2 al hlen eN (ZxL ps (by omega));have e:=ZJS ps i al (((ps.getD i ([],[])).1++(ps.getD i ([],[])).2).drop al.length);rw[<-e];exact h
theorem ZEd{ps:PPs}(aQ:ps.length=n)(aC:∀y∈ps,(∀p∈y.1,p.ok)/\y.1.length<=100):∀(k i:Nat)(w:List Prs),i+k=n ->
  Ex (ZAP k i w) (memM ap out ag book (shP ps) n f) (w++(ps.map (·.1)).drop i) (memM ap out ag book (shP ps) n f) (k+((ps.map (·.1)).drop i).flatten.length) 0
 | 0,i,w,h=>by
  rw[List.drop_eq_nil_of_le (by simp;omega),List.append_nil]
  exact .ret _ _ _
 |k+1,i,w,h=>by
  have hi:i<ps.length:=by omega
  have e:(ps.map (·.1)).drop i=(ps.getD i ([],[])).1 :: (ps.map (·.1)).drop (i+1):=by
   rw[ZeQ (ps.map (·.1)) [] i (by simpa using hi)];congr 1;simp[List.getD_eq_getElem?_getD,hi]
  have b:=aC _ (ZeH ps ([],[]) i hi);have d:=ZHR (ap:=ap) (out:=out) (ag:=ag) (book:=book) (f:=f) a7 aZ (by rw[ZlX];exact aQ) (i:=i) (by omega) (l:=(ps.getD i ([],[])).1) (r:=(ps.getD i ([],[])).2) (ZxL ps hi) b.1 (by omega);have ih:=ZEd aQ aC k (i+1) (w++[(ps.getD i ([],[])).1]) (by omega);rw[List.append_assoc]at ih;rw[e];unfold ZAP;exact d.seq ih (by rw[List.flatten_cons,List.length_append];omega) rfl
end
theorem ZKj{x y:Zaa}(b:ltP y x=false)(d:x.fEnd≠y.fEnd):ltP x y=true:=by
 rw[ZDm]at b;rw[ZnS];have g:cmpE x.fEnd y.fEnd≠0:=fun h=>d (ZhM.1 h);have j:¬0<cmpE x.fEnd y.fEnd:=fun h=>b (ZiT.1 h);omega
theorem ZGw{x y:Zaa}(h:ltP x y=true):x.fEnd≠y.fEnd:=fun e=>by
 rw[ZnS,ZhM.2 e]at h
 exact absurd h (by decide)
theorem ZxK{l:Prs}(h:StrP l):SrtP l:=h.imp fun h=>ZDn h
theorem ZIa{l:Prs}(h:StrP l):dEnd l:=h.imp fun h=>ZGw h
theorem ZCN{l:Prs}(h:StrP l){p:Zaa}(b:∀q∈l,q.fEnd≠p.fEnd):StrP (mrg l [p])/\(mrg l [p]).Perm (p :: l):=by
 have hp:(mrg l [p]).Perm (p :: l):=(Zup _ l [p] (Nat.le_refl _)).trans (List.perm_append_singleton p l);have hd:(p :: l).Pairwise fun x y=>x.fEnd≠y.fEnd:=List.pairwise_cons.2 ⟨fun q d=>(b q d).symm,h.imp fun h=>ZGw h⟩;have jU:(mrg l [p]).Pairwise fun x y=>x.fEnd≠y.fEnd:=hd.perm hp.symm fun h=>h.symm;have hs:SrtP (mrg l [p]):=ZGt _ l [p] (Nat.le_refl _) (ZxK h) (List.pairwise_singleton _ _);exact⟨(hs.and jU).imp fun h=>ZKj h.1 h.2,hp⟩
theorem ZmA{ps:PPs}{i:Nat}(hi:i<ps.length)(a b:Prs):((ps.set i (a,b)).map (·.1)).flatten.Perm (a++ZnI (ps.map (·.1)) i)/\(ps.map (·.1)).flatten.Perm ((ps.getD i ([],[])).1++ZnI (ps.map (·.1)) i):=by
 have e:(ps.set i (a,b)).map (·.1)=(ps.map (·.1)).set i a:=by rw[List.map_set]
 have d:(ps.map (·.1)).getD i []=(ps.getD i ([],[])).1:=by simp[List.getD_eq_getElem?_getD,hi]
 refine⟨by rw[e];exact ZDA _ (by simpa using hi) a,?_⟩;have h:=ZBN (ps.map (·.1)) (i:=i) (by simpa using hi);rw[d]at h;exact h
theorem Zun(ps:PPs)(i:Nat):Zhl (ps.map (·.1)) (i:Int)=(ps.getD i ([],[])).1:=by
 unfold Zhl;rw[Int.toNat_natCast];by_cases h:i<ps.length
 .simp[List.getD_eq_getElem?_getD,h]
 .simp[List.getD_eq_getElem?_getD,h]
section
variable {c:ZaA} {s:Zas} {x:ZaB} (hx:x.ok) (hs:s.ok) (hR:i5 c s) (a8:s.fBans.length<=20/\s.fBook.length<=20/\s.fPeers.length<=20)
include hs hR a8
theorem Zrd:(lP c s).length=Zbk c.fShards/\c.fShards.toNat=Zbk c.fShards/\((lP c s).map (·.1)).flatten.Perm s.fPeers/\(∀y∈lP c s,(∀p∈y.1,p.ok)/\y.1.length<=100)/\∀y∈lP c s,y.2=[]:=by
 have hsh:=ZCS hR.conf;refine⟨ZuZ _ _ _ _,by unfold Zbk;rw[if_neg (by omega),if_neg (by omega)],Zyc hs.2.2.1.2 _ _,fun y b=>?_,fun y b=>?_⟩
 .unfold lP ps0 at b;obtain⟨k,_,rfl⟩:=List.mem_map.1 b;have:=List.length_filter_le (ZpK c.fSecret c.fShards k) s.fPeers;exact⟨fun p hp=>hs.2.2.1.2 p (Zuo hp),by show (ZhN s.fPeers c.fSecret c.fShards k).length<=100;unfold ZhN;omega⟩
 .unfold lP ps0 at b;obtain⟨k,_,rfl⟩:=List.mem_map.1 b;rfl
theorem ZAF:ZdI s.fPeers c.fQuota c.fSecret=some (ZcQ c ((lP c s).map (·.1)))/\((ZcQ c ((lP c s).map (·.1))).2=true->∃p∈s.fPeers,p.fEnd=(ZcQ c ((lP c s).map (·.1))).1/\p.fIn=true):=by
 obtain⟨_,_,bJ,_,_⟩:=Zrd hs hR a8 (c:=c);have ho:okPs s.fPeers:=fun p hp=>(hs.2.2.1.2 p hp).1.1;obtain⟨r,b,d,g⟩:=ZtO s.fPeers c.fQuota c.fSecret (by omega) ho;have h:=ZCt bJ.symm (ZIa hR.peers) c.fQuota c.fSecret (by omega) ho;have e:ZcQ c ((lP c s).map (·.1))=r:=by unfold ZcQ;rw[<-h,b];rfl
 rw[e];exact⟨d,g⟩
theorem ZAY{e:Zal}{p:Zaa}(hp:p∈s.fPeers)(he:p.fEnd=e):∃j:Nat,Zhx ((lP c s).map (·.1)) e=(j:Int)/\j<Zbk c.fShards/\∃k k':Nat,k<s.fPeers.length/\ZhO s.fPeers e=(k:Int)/\s.fPeers.getD k Zaa.d=p /\
  k'<((lP c s).getD j ([],[])).1.length/\ZuN ((lP c s).getD j ([],[])).1 [e]=butK ((lP c s).getD j ([],[])).1 k'/\(butK ((lP c s).getD j ([],[])).1 k'++ZnI ((lP c s).map (·.1)) j).Perm (butK s.fPeers k):=by
 obtain⟨hl,_,bJ,_,_⟩:=Zrd hs hR a8 (c:=c);have w0:=ZCK (all:=(lP c s).map (·.1)) (e:=e) ⟨p,bJ.symm.mem_iff.1 hp,he⟩;have w1:=ZCJ ((lP c s).map (·.1)) e;rw[List.length_map,hl]at w1;obtain⟨j,t⟩ : ∃j:Nat,Zhx ((lP c s).map (·.1)) e=(j:Int):=⟨(Zhx ((lP c s).map (·.1)) e).toNat,by omega⟩;have lQ:j<Zbk c.fShards:=by omega
 have hget:(lP c s).getD j ([],[])=(ZhN s.fPeers c.fSecret c.fShards j,[]):=ZBr _ _ _ lQ;obtain⟨b,E,_,⟨y,v,A⟩,_⟩:=Zsx (fun l=>decide (ZhO l e>=0)) ((lP c s).map (·.1)) 0 (by unfold Zhx at w0;exact w0);have hk0:b=j:=by unfold Zhx at t;omega
 subst hk0;have B:y=ZhN s.fPeers c.fSecret c.fShards b:=by
  have:((lP c s).map (·.1)).getD b []=y:=by rw[List.getD_eq_getElem?_getD,v];rfl
  rw[<-this,List.getD_eq_getElem?_getD,List.getElem?_map];rw[List.getD_eq_getElem?_getD]at hget;cases u:(lP c s)[b]? with
  |none=>rw[List.getElem?_eq_none_iff]at u;omega
  |some z=>rw[u]at hget;simp only[Option.map_some,Option.getD_some]at hget ⊢;rw[hget]
 have D:0<=ZhO (ZhN s.fPeers c.fSecret c.fShards b) e:=by rw[<-B];exact of_decide_eq_true A
 obtain⟨k',g,F,o,_⟩:=ZDB D;have iI:=ZeH (ZhN s.fPeers c.fSecret c.fShards b) Zaa.d k' g;have hin:Zmj e.fAddr c.fSecret c.fShards=(b:Int):=by
  have:=(List.mem_filter.1 iI).2;rw[<-o];exact of_decide_eq_true this
 have hH:0<=ZhO s.fPeers e:=by
  by_cases h:ZhO s.fPeers e<0
  .exact absurd he (Zuz.1 h p hp)
  .omega
 obtain⟨k,b1,b2,b3,_⟩:=ZDB hH;have dJ:=ZGl (l:=s.fPeers) (sec:=c.fSecret) (nsh:=c.fShards) (i:=b) hR.peers b1 g b3 o;refine⟨b,t,lQ,k,k',b1,b2,hR.peers.inj (ZeH _ _ k b1) hp (b3.trans he.symm),by rw[hget];exact g,?_,?_⟩
 .rw[hget];exact(ZHz (hR.peers.filter _) g o).symm
 .rw[hget];exact ZGk hs.2.2.1.2 c.fSecret c.fShards lQ b1 g dJ
end
def shA:Zat:=⟨0,[0]⟩
def fA:Nat->Zat:=updL fL 0 shA
theorem ZIQ{q:Nat}(h:2<=q):fA q=Zhn:=ZAZ _ _ (by omega)
def fA1(i:Nat):Nat->Zat:=updL fA (2+i) Zpf
def fAA(n:Nat):Nat->Zat:=updR fA 2 (n+2) Zpf
theorem ZLn{n q:Nat}(h:2<=q)(b:q<n+2):fAA n q=Zpf:=if_pos ⟨h,b⟩
theorem ZIR(n:Nat):updR (fAA n) 2 (n+2) Zhn=fA:=by
 funext q;unfold fAA updR;by_cases h:2<=q/\q<n+2
 .rw[if_pos h];exact(ZIQ h.1).symm
 .rw[if_neg h,if_neg h]
section
variable {c:ZaA} {s:Zas} {x:ZaB} (hx:x.ok) (hs:s.ok) (hR:i5 c s) (a8:s.fBans.length<=20/\s.fBook.length<=20/\s.fPeers.length<=20)
include hx hs hR a8
theorem ZCl(b:ZjQ x=true)(d:x.fKind=1):Zdp c s x=ZfI c s x:=by
 have cj:∀r:Option (Zas×Zau),(r.bind fun y=>some (y.1,y.2))=r:=fun r=>by cases r<;>rfl
 have g:(x.fKind==1)=true:=beq_iff_eq.2 d;unfold Zdp;rw[ZuT x hx,ZaJ,b,Bool.not_true,cond_false,g,cond_true,cj]
theorem ZLy:((lP c s).getD (iP c x) ([],[]))=(bP c s x,[]):=ZBr _ _ _ (Zyw (c:=c) hx).1
theorem ZHT(d:ZjQ x=true)(g:¬Zrs s.fBans x.fEnd.fAddr x.fNow>0){r:Zau}{ap out:Int}{ps:PPs}(aQ:ps.length=Zbk c.fShards){st:Nat}
  (h:Ex (Zxb c x) (mP c s fA) (r,true) (memM ap out s.fBans s.fBook (shP ps) (Zbk c.fShards) fA) st 1):Ex (Znb c x) (mP c s fL) r (memM ap out s.fBans s.fBook (shP ps) (Zbk c.fShards) fun _=>Zhn) (st+3) 1:=by
 have b:=Zij c.fShards;have j:Ex (keyP 2 0 false) (mP c s fL) () (mP c s fA) 1 0:=ZyY (f:=fL) b.1 b.2 (Zsw c s) rfl false;have o:Ex (Znh ⟨3,0,0⟩) (mP c s fA) ⟨0,ZoZ,s.fBans,[]⟩ (mP c s fA) 1 0:=Zsb b.1 b.2 (Zsw c s) (by omega) hs.1.2;have hd:=ZCG (ap:=ap) (out:=out) (ag:=s.fBans) (book:=s.fBook) (f:=fA) b.1 b.2 (by rw[ZlX];exact aQ) rfl false;rw[show updL fA 0 Zhn=fL from Zsd (f:=fL) rfl shA]at hd;unfold Znb;rw[if_pos d];refine j.seq (s2:=st+2) (c2:=1) ?_ (by omega) rfl;refine o.seq (s2:=st+1) (c2:=1) ?_ (by omega) rfl;dsimp only;rw[if_neg g];refine h.seq (s2:=1) (c2:=0) ?_ (by omega) rfl;dsimp only;rw[if_pos rfl];exact hd.seq (.ret _ _ 0) (by omega) rfl
theorem ZAW(d:ZjQ x=true)(g:¬Zrs s.fBans x.fEnd.fAddr x.fNow>0){r r0:Zau}{ap out:Int}{ps:PPs}(aQ:ps.length=Zbk c.fShards){st0 st:Nat}
  (h0:Ex (Zxb c x) (mP c s fA) (r0,false) (mP c s fA) st0 0)
  (h:Ex (ZEq c x) (mP c s fA) r (memM ap out s.fBans s.fBook (shP ps) (Zbk c.fShards) fA) st 1):Ex (Znb c x) (mP c s fL) r (memM ap out s.fBans s.fBook (shP ps) (Zbk c.fShards) fun _=>Zhn) (st0+st+3) 1:=by
 have b:=Zij c.fShards;have j:Ex (keyP 2 0 false) (mP c s fL) () (mP c s fA) 1 0:=ZyY (f:=fL) b.1 b.2 (Zsw c s) rfl false;have o:Ex (Znh ⟨3,0,0⟩) (mP c s fA) ⟨0,ZoZ,s.fBans,[]⟩ (mP c s fA) 1 0:=Zsb b.1 b.2 (Zsw c s) (by omega) hs.1.2;have hd:=ZCG (ap:=ap) (out:=out) (ag:=s.fBans) (book:=s.fBook) (f:=fA) b.1 b.2 (by rw[ZlX];exact aQ) rfl false;rw[show updL fA 0 Zhn=fL from Zsd (f:=fL) rfl shA]at hd;unfold Znb;rw[if_pos d];refine j.seq (s2:=st0+st+2) (c2:=1) ?_ (by omega) rfl;refine o.seq (s2:=st0+st+1) (c2:=1) ?_ (by omega) rfl;dsimp only;rw[if_neg g];refine h0.seq (s2:=st+1) (c2:=1) ?_ (by omega) rfl;dsimp only;rw[if_neg (by decide)];refine h.seq (s2:=1) (c2:=0) ?_ (by omega) rfl;exact hd.seq (.ret _ _ 0) (by omega) rfl
theorem ZHP{q:Zau×Bool}{ap out:Int}{ps:PPs}(aQ:ps.length=Zbk c.fShards){st:Nat}(cG:q.2=true)
  (h:Ex (ZqQ c x ((lP c s).map (·.1))) (mP c s (fAA (Zbk c.fShards))) q (memM ap out s.fBans s.fBook (shP ps) (Zbk c.fShards) (fAA (Zbk c.fShards))) st 0) :
  Ex (ZEq c x) (mP c s fA) q.1 (memM ap out s.fBans s.fBook (shP ps) (Zbk c.fShards) fA) (st+50) 1:=by
 have b:=Zij c.fShards;obtain⟨eO,g7,bJ,iN,fI⟩:=Zrd hs hR a8 (c:=c);have hal:=bJ.length_eq;have o:Ex (Zsv c.fShards) (mP c s fA) () (mP c s (fAA (Zbk c.fShards))) (Zbk c.fShards) 0:=ZFr (f:=fA) b.1 b.2 (Zsw c s) c.fShards rfl fun q d g=>ZIQ d;have p:Ex (ZAP c.fShards.toNat 0 []) (mP c s (fAA (Zbk c.fShards))) ((lP c s).map (·.1)) (mP c s (fAA (Zbk c.fShards))) 30 0:=by
  have ha:=ZEd (ap:=cntP s.fPeers true) (out:=cntP s.fPeers false+Zhm s.fBook 2) (ag:=s.fBans) (book:=s.fBook) (f:=fAA (Zbk c.fShards)) b.1 b.2 eO iN (Zbk c.fShards) 0 [] (by omega);rw[List.drop_zero,List.nil_append]at ha;rw[g7];exact ha.more (by omega)
 have j:=ZFs (ap:=ap) (out:=out) (ag:=s.fBans) (book:=s.fBook) (f:=fAA (Zbk c.fShards)) b.1 b.2 (by rw[ZlX];exact aQ) c.fShards rfl true (fun q d g=>ZLn d g);rw[ZIR]at j;unfold ZEq;refine o.seq (s2:=st+42) (c2:=1) ?_ (by omega) rfl;refine p.seq (s2:=st+10) (c2:=1) ?_ (by omega) rfl;unfold ZxV;refine h.seq (s2:=10) (c2:=1) ?_ (by omega) rfl;rw[cG];exact j.seq (.ret _ _ 0) (by omega) rfl
theorem ZFq (z:ZjQ x = true) (W:x.fKind = 1):ZKJ c s x (mP c s fL) (Znb c x):=by
  have d:=Zij c.fShards
  obtain ⟨hi,ev⟩:=Zyw (c:=c) hx
  obtain ⟨G,H⟩:=ZzI (c:=c) a8.2.2
  obtain ⟨eO,g7,bJ,iN,fI⟩:=Zrd hs hR a8 (c:=c)
  have hd:=ZCl hx hs hR a8 z W (c:=c) (s:=s)
  have iR:=ZAC hs ⟨a8.2.1,a8.2.2⟩
  have hb:=ZLx c s x
  have hnf:=ZLb hx hs hR a8 (c:=c) (s:=s)
  have jj:=ZLy hx hs hR a8 (c:=c)
  have en:ZgZ x.fEnd true x.fNow = some (ZrD x):=by unfold ZgZ; rw [ZGc]; rfl
  unfold ZfI at hd
  rw [(Zzf s.fBans x.fEnd.fAddr x.fNow (by unfold maxLen; omega) hs.1.2 hx.2.1.1).2,ZaJ,Zai] at hd
  by_cases o:Zrs s.fBans x.fEnd.fAddr x.fNow > 0
  . rw [if_pos o] at hd
    have I:Ex (keyP 2 0 false) (mP c s fL) () (mP c s fA) 1 0:=ZyY (f:=fL) d.1 d.2 (Zsw c s) rfl false
    have J:Ex (Znh ⟨3,0,0⟩) (mP c s fA) ⟨0,ZoZ,s.fBans,[]⟩ (mP c s fA) 1 0:=Zsb d.1 d.2 (Zsw c s) (by omega) hs.1.2
    have O:=ZCG (ap:=cntP s.fPeers true) (out:=cntP s.fPeers false + Zhm s.fBook 2) (ag:=s.fBans) (book:=s.fBook) (f:=fA) d.1 d.2 (Zsw c s) rfl true
    rw [show updL fA 0 Zhn = fL from Zsd (f:=fL) rfl shA] at O
    refine ⟨⟨8,endZ,0,Zrs s.fBans x.fEnd.fAddr x.fNow,[]⟩,_,_,s.fBans,s.fBook,lP c s,s.fPeers,3,?_,by omega,hd,hR.peers,bJ,G,H,rfl,rfl,by omega,by omega,by omega,Nat.zero_le _⟩
    unfold Znb
    rw [if_pos z]
    refine I.seq (s2:=2) (c2:=1) ?_ (by omega) rfl
    refine J.seq (s2:=1) (c2:=1) ?_ (by omega) rfl
    dsimp only
    rw [if_pos o]
    exact Ex.seq O (.ret _ _ 0) (by omega) rfl
  rw [if_neg o,ZuS _ _ (by unfold maxLen; omega),ZaJ,Zai] at hd
  have go:=fun {r:Zau} {ap out:Int} {ps:PPs} {st:Nat} =>ZHT hx hs hR a8 (c:=c) z o (r:=r) (ap:=ap) (out:=out) (ps:=ps) (st:=st)
  -- the first way is what it does with its part
  have qk : ∀ {p : Pr (Zau × Bool)} {q : Zau × Bool} {ap out : Int} {ps : PPs} {st cn : Nat}, ps.length = Zbk c.fShards ->
      ((if ZhO (bP c s x) x.fEnd >= 0 then (keyP 3 (2 + pt c x) true).bind fun _ =>.ret (Ziw 7,true)
        else (Zlv c.fMaxIn true 1000000).bind fun b =>if b = true then (Zqf (pt c x) (bP c s x) (ZoX x (bP c s x))).bind fun _ =>(keyP 3 (2 + pt c x) false).bind fun _ =>.ret (repZ,true)
          else (keyP 3 (2 + pt c x) false).bind fun _ =>.ret (repZ,false)) = p) ->
      Ex p (mP c s (fA1 (iP c x))) q (memM ap out s.fBans s.fBook (shP ps) (Zbk c.fShards) fA) st cn->Ex (Zxb c x) (mP c s fA) q (memM ap out s.fBans s.fBook (shP ps) (Zbk c.fShards) fA) (st + 22) cn:=fun aQ he h =>by
    have I:Ex (keyP 1 (2 + pt c x) false) (mP c s fA) () (mP c s (fA1 (iP c x))) 1 0:=by
      rw [ev,ZLu]
      exact ZHO (k:=2 + iP c x) (f:=fA) d.1 d.2 (Zsw c s) (by omega) (ZIQ (by omega)) false
    have J:Ex (ZtR (pt c x)) (mP c s (fA1 (iP c x))) (bP c s x) (mP c s (fA1 (iP c x))) ((bP c s x).length + 1) 0:=by
      rw [ev]
      exact ZHR d.1 d.2 (Zsw c s) hi (ZLj hx) (fun p hp =>hs.2.2.1.2 p (Zuo hp)) (by omega)
    subst he
    unfold Zxb
    rename_i st cn
    refine I.seq (s2:=st + 21) (c2:=cn) ?_ (by omega) (Nat.zero_add _)
    exact J.seq h (by omega) (Nat.zero_add _)
  have lR : ∀ (ap:Int) (ps:PPs) (ai:Bool),ps.length = Zbk c.fShards->Ex (keyP 3 (2 + pt c x) ai) (memM ap (cntP s.fPeers false + Zhm s.fBook 2) s.fBans s.fBook (shP ps) (Zbk c.fShards) (fA1 (iP c x))) () (memM ap (cntP s.fPeers false + Zhm s.fBook 2) s.fBans s.fBook (shP ps) (Zbk c.fShards) fA) 1 (bn ai):=fun ap ps ai aQ =>by
    rw [ev,ZLu]
    exact ZHN (k:=2 + iP c x) (f:=fA) d.1 d.2 (by rw [ZlX]; exact aQ) (by omega) (ZIQ (by omega)) ai
  by_cases hp:ZhO s.fPeers x.fEnd >= 0
  . rw [if_pos hp,no35,ZaJ] at hd
    have bm:ZhO (bP c s x) x.fEnd >= 0:=by
      have : ¬ ZhO (bP c s x) x.fEnd < 0:=fun h =>by have:=hnf.1 h; omega
      omega
    have D:=qk (ap:=cntP s.fPeers true) eO (if_pos bm) (Ex.seq (lR (cntP s.fPeers true) (lP c s) true eO) (.ret (Ziw 7,true) _ 0) (Nat.le_refl _) rfl)
    exact ⟨Ziw 7,_,_,s.fBans,s.fBook,lP c s,s.fPeers,_,go eO D,by omega,hd,hR.peers,bJ,G,H,rfl,rfl,by omega,by omega,by omega,Nat.zero_le _⟩
  have bm : ¬ ZhO (bP c s x) x.fEnd >= 0:=by
    have h:ZhO (bP c s x) x.fEnd < 0:=hnf.2 (by omega)
    omega
  have hne : ∀ q ∈ s.fPeers,q.fEnd ≠ (ZrD x).fEnd:=Zuz.1 (show ZhO s.fPeers x.fEnd < 0 by omega)
  rw [if_neg hp,en,ZaJ,Zmz _ _ (by unfold maxLen; omega),ZaJ,Zai] at hd
  by_cases hfull:cntP s.fPeers true >= c.fMaxIn
  rotate_left
  . rw [if_neg hfull,ZxZ _ _ (ZxK hR.peers) (by omega),ZaJ] at hd
    obtain ⟨p1,p2⟩:=ZCN hR.peers hne
    have hl2:(mrg s.fPeers [ZrD x]).length = s.fPeers.length + 1:=by rw [p2.length_eq]; rfl
    have L:=ZHM (ap:=cntP s.fPeers true + 1) (out:=cntP s.fPeers false + Zhm s.fBook 2) (ag:=s.fBans) (book:=s.fBook) (f:=fA1 (iP c x)) d.1 d.2 eO hi (ZoX x (bP c s x)) (by rw [jj]; simp only [List.append_nil]; omega) (by rw [Zjy]; omega)
    rw [jj,List.append_nil] at L
    dsimp only at L
    have hlen:((lP c s).set (iP c x) (ZoX x (bP c s x),(bP c s x).drop (ZoX x (bP c s x)).length)).length = Zbk c.fShards:=by rw [List.length_set]; exact eO
    have hl4:(ZoX x (bP c s x) ++ (bP c s x).drop (ZoX x (bP c s x)).length).length<=1000:=by simp only [List.length_append,List.length_drop,Zjy]; omega
    obtain ⟨Z,r2⟩:=ZIu (c:=c) (s:=s) hl4 a8.2.2 (iP c x)
    have D:=qk (q:=(repZ,true)) (ap:=cntP s.fPeers true + 1) (st:=30) (cn:=1) hlen (if_neg bm) (by
      refine (ZHQ d.1 d.2 (Zsw c s) (by omega) c.fMaxIn hfull true).seq (s2:=28) (c2:=0) ?_ (by omega) rfl
      rw [if_pos rfl,ev]
      refine L.seq (s2:=1) (c2:=0) ?_ (by rw [Zjy]; omega) rfl
      rw [<- ev]
      exact Ex.seq (lR _ _ false hlen) (.ret (repZ,true) _ 0) (by omega) rfl)
    refine ⟨repZ,_,_,s.fBans,s.fBook,_,mrg s.fPeers [ZrD x],_,go hlen D,by omega,hd,p1,?_,Z,r2,?_,?_,by omega,by omega,by omega,Nat.zero_le _⟩
    . refine (ZmA (by omega) _ _).1.trans ?_
      refine List.Perm.trans ?_ p2.symm
      have t:=(ZmA (ps:=lP c s) (i:=iP c x) (by omega) [] []).2
      rw [jj] at t
      unfold ZoX
      rw [List.append_assoc]
      exact List.perm_middle.trans ((t.symm.trans bJ).cons _)
    . rw [ZqJ p2,ZqK]; show _ = (1:Int) + _; omega
    . rw [ZqJ p2,ZqK]; show _ = (0:Int) + _ + _; omega
  -- all places are taken
  have hq0:=qk (q:=(repZ,false)) (ap:=cntP s.fPeers true) (ps:=lP c s) (st:=2) (cn:=0) eO (if_neg bm) (by
    refine (ZDY d.1 d.2 (Zsw c s) (by omega) c.fMaxIn hfull true).seq (s2:=1) (c2:=0) ?_ (by omega) rfl
    rw [if_neg (by decide)]
    exact Ex.seq (lR _ _ false eO) (.ret (repZ,false) _ 0) (by omega) rfl)
  have bx:Zhl ((lP c s).map (·.1)) (pt c x) = bP c s x:=by rw [ev,Zun,jj]
  obtain ⟨hch,hP⟩:=ZAF hs hR a8 (c:=c)
  rw [if_pos hfull,hch,ZaJ] at hd
  have sq : ∀ {q : Zau × Bool} {ap out : Int} {ps : PPs} {st cn : Nat} {p : Pr (Zau × Bool)}, (if (ZcQ c ((lP c s).map (·.1))).2 = true then
        (Zqf (Zhx ((lP c s).map (·.1)) (ZcQ c ((lP c s).map (·.1))).1) (Zhl ((lP c s).map (·.1)) (Zhx ((lP c s).map (·.1)) (ZcQ c ((lP c s).map (·.1))).1)) (ZuN (Zhl ((lP c s).map (·.1)) (Zhx ((lP c s).map (·.1)) (ZcQ c ((lP c s).map (·.1))).1)) [(ZcQ c ((lP c s).map (·.1))).1])).bind fun _ =>
        (Zqf (pt c x) (Zhl (ZlB ((lP c s).map (·.1)) (ZcQ c ((lP c s).map (·.1))).1) (pt c x)) (ZoX x (Zhl (ZlB ((lP c s).map (·.1)) (ZcQ c ((lP c s).map (·.1))).1) (pt c x)))).bind fun _ =>.ret (⟨0,(ZcQ c ((lP c s).map (·.1))).1,1,0,[]⟩,true)
      else .ret (Ziw 5,true)) = p->Ex p (mP c s (fAA (Zbk c.fShards))) q (memM ap out s.fBans s.fBook (shP ps) (Zbk c.fShards) (fAA (Zbk c.fShards))) st cn ->
      Ex (ZqQ c x ((lP c s).map (·.1))) (mP c s (fAA (Zbk c.fShards))) q (memM ap out s.fBans s.fBook (shP ps) (Zbk c.fShards) (fAA (Zbk c.fShards))) (st + 1) cn:=fun {q ap out ps st cn p} he h =>by
    subst he
    unfold ZqQ
    rw [bx,if_neg bm]
    refine (ZDY d.1 d.2 (Zsw c s) (by omega) c.fMaxIn hfull true).seq (s2:=st) (c2:=cn) ?_ (by omega) (Nat.zero_add _)
    rw [if_neg (by decide)]
    exact h
  generalize hT:ZcQ c ((lP c s).map (·.1)) = T at hd hP sq
  obtain ⟨e,b⟩:=T
  cases b with
  | false =>
    rw [Bool.not_false,cond_true,no35,ZaJ] at hd
    have g:=sq (ap:=cntP s.fPeers true) (out:=cntP s.fPeers false + Zhm s.fBook 2) (ps:=lP c s) (if_neg (fun h =>by cases h)) (.ret (Ziw 5,true) _ 0)
    have u:=ZHP hx hs hR a8 eO rfl g
    exact ⟨Ziw 5,_,_,s.fBans,s.fBook,lP c s,s.fPeers,_,ZAW hx hs hR a8 z o eO hq0 u,by omega,hd,hR.peers,bJ,G,H,rfl,rfl,by omega,by omega,by omega,Nat.zero_le _⟩
  | true =>
    obtain ⟨p,pm,pe,pin⟩:=hP rfl
    obtain ⟨j,w1,w2,k,k',E,g2,g3,R,M,U⟩:=ZAY hs hR a8 pm pe (c:=c)
    rw [Bool.not_true,cond_false,ZLt hx hs a8 E g2,ZaJ] at hd
    have hbl:(butK s.fPeers k).length + 1 = s.fPeers.length:=by have:=(ZoU E).length_eq; simp only [List.length_cons] at this; omega
    rw [ZxZ _ _ (ZxK (Zzj hR.peers k)) (by omega),ZaJ] at hd
    have lS : ∀ q ∈ butK s.fPeers k,q.fEnd ≠ (ZrD x).fEnd:=fun q D =>hne q ((ZoU E).symm.mem_iff.1 (List.mem_cons_of_mem _ D))
    obtain ⟨p1,p2⟩:=ZCN (Zzj hR.peers k) lS
    have hl2:(mrg (butK s.fPeers k) [ZrD x]).length = s.fPeers.length:=by rw [p2.length_eq]; simp only [List.length_cons]; omega
    obtain ⟨A,v⟩ : ∃ A,A = ((lP c s).getD j ([],[])).1:=⟨_,rfl⟩
    have g8:=ZeH (lP c s) ([],[]) j (by omega)
    have hj2:=fI _ g8
    have jX:=(iN _ g8).2
    rw [<- v] at R M U jX
    have hA20:A.length<=20:=by
      have g:=(ZmA (ps:=lP c s) (i:=j) (by omega) [] []).2.length_eq
      have u:=bJ.length_eq
      rw [List.length_append,<- v] at g
      omega
    have hkl:(butK A k').length + 1 = A.length:=by have:=(ZoU R).length_eq; simp only [List.length_cons] at this; omega
    -- who goes is taken out of his part
    have W1:=ZHM (ap:=cntP s.fPeers true) (out:=cntP s.fPeers false + Zhm s.fBook 2) (ag:=s.fBans) (book:=s.fBook) (f:=fAA (Zbk c.fShards)) d.1 d.2 eO w2 (butK A k') (by rw [hj2,<- v,List.append_nil]; omega) (by omega)
    rw [hj2,<- v,List.append_nil] at W1
    obtain ⟨gL,fQ⟩ : ∃ y,y = (lP c s).set j (butK A k',A.drop (butK A k').length):=⟨_,rfl⟩
    rw [<- fQ] at W1
    have eB:gL.length = Zbk c.fShards:=by rw [fQ,List.length_set]; exact eO
    have iS:gL.map (·.1) = ZlB ((lP c s).map (·.1)) e:=by
      rw [fQ,List.map_set]
      unfold ZlB
      rw [w1,Int.toNat_natCast,Zun,<- v,M]
    have lT:(gL.map (·.1)).flatten.Perm (butK s.fPeers k):=by
      rw [fQ]
      exact (ZmA (by omega) _ _).1.trans U
    have jY : ∀ y ∈ gL,(y.1 ++ y.2).length<=30:=fun y F =>by
      rw [fQ] at F
      rcases List.mem_or_eq_of_mem_set F with h | h
      . have g:=fI y h
        obtain ⟨i,cH,rfl⟩:=List.getElem_of_mem h
        have u:=(ZmA (ps:=lP c s) (i:=i) cH [] []).2.length_eq
        have t:=bJ.length_eq
        rw [List.length_append,ZbT _ _ i cH] at u
        rw [g,List.append_nil]
        omega
      . rw [h]; dsimp only; rw [List.length_append,List.length_drop]; omega
    -- who is new is written in his
    obtain ⟨B,jZ⟩ : ∃ B,B = (gL.getD (iP c x) ([],[])).1:=⟨_,rfl⟩
    obtain ⟨B2,i6⟩ : ∃ B2,B2 = (gL.getD (iP c x) ([],[])).2:=⟨_,rfl⟩
    have hsB:=jY _ (ZeH gL ([],[]) (iP c x) (by omega))
    rw [<- jZ,<- i6,List.length_append] at hsB
    have W2:=ZHM (ap:=cntP s.fPeers true) (out:=cntP s.fPeers false + Zhm s.fBook 2) (ag:=s.fBans) (book:=s.fBook) (f:=fAA (Zbk c.fShards)) d.1 d.2 eB hi (ZoX x B) (by rw [<- jZ,<- i6,List.length_append]; omega) (by rw [Zjy]; omega)
    rw [<- jZ,<- i6] at W2
    obtain ⟨kl,gM⟩ : ∃ y,y = gL.set (iP c x) (ZoX x B,(B ++ B2).drop (ZoX x B).length):=⟨_,rfl⟩
    rw [<- gM] at W2
    have hl3:kl.length = Zbk c.fShards:=by rw [gM,List.length_set]; exact eB
    have hB' : Zhl (ZlB ((lP c s).map (·.1)) e) (pt c x) = B:=by rw [<- iS,ev,Zun,jZ]
    have g:=sq (q:=(⟨0,e,1,0,[]⟩,true)) (ap:=cntP s.fPeers true) (out:=cntP s.fPeers false + Zhm s.fBook 2) (ps:=kl) (st:=60) (cn:=0) (if_pos rfl) (by
      dsimp only
      rw [w1,Zun,<- v,M,hB']
      refine Ex.seq W1 (s2:=35) (c2:=0) ?_ (by omega) rfl
      rw [ev]
      exact Ex.seq W2 (.ret _ _ 0) (by rw [Zjy]; omega) rfl)
    have u:=ZHP hx hs hR a8 hl3 rfl g
    have fP:(kl.map (·.1)).flatten.Perm (mrg (butK s.fPeers k) [ZrD x]):=by
      rw [gM]
      refine (ZmA (by omega) _ _).1.trans ?_
      refine List.Perm.trans ?_ p2.symm
      have t:=(ZmA (ps:=gL) (i:=iP c x) (by omega) [] []).2
      rw [<- jZ] at t
      unfold ZoX
      rw [List.append_assoc]
      exact List.perm_middle.trans ((t.symm.trans lT).cons _)
    have c1:=ZHo E true
    have c2:=ZHo E false
    rw [g3,pin] at c1 c2
    have o1:oneI (true == true) = 1:=rfl
    have o2:oneI (true == false) = 0:=rfl
    refine ⟨⟨0,e,1,0,[]⟩,_,_,s.fBans,s.fBook,kl,mrg (butK s.fPeers k) [ZrD x],_,ZAW hx hs hR a8 z o hl3 hq0 u,by omega,hd,p1,fP,by omega,fun y F =>?_,?_,?_,by omega,by omega,by omega,Nat.zero_le _⟩
    . rw [gM] at F
      rcases List.mem_or_eq_of_mem_set F with h | h
      . have:=jY y h; omega
      . rw [h]; dsimp only; rw [List.length_append,List.length_drop,List.length_append,Zjy]; omega
    . rw [ZqJ p2,ZqK]; show _ = (1:Int) + _; omega
    . rw [ZqJ p2,ZqK]; show _ = (0:Int) + _ + _; omega
end
theorem ZyT:Zdw=some true:=by decide +kernel
def ZGU(c:ZaA)(s:Zas)(x:ZaB)(mk:Int)(r:Zau)(m:ZaE):Option Bool:=(Zdp c s x).bind fun i4=>bif(mk==(1:Int))then(Zfv r i4.2).bind fun kw=>bif kw then(ZeW m).bind fun x13=>(Zfu x13 i4.1).bind fun ky=>bif ky then(Zdy i4.1).bind fun ko=>(ZgH m i4.1 ko).bind fun kD=>bif kD then(Zdw).bind fun kE=>some kE else some false else some false else some false else some false
theorem ZJp{c:ZaA}{s:Zas}{x:ZaB}{aY:List Zag}{t:Zcy}(h:Zhe c x aY=some t)(fu:Nat)(mk i:Int)(hi:i<400)(m:ZaE) :
  ZaH (fu+1) mk i aY c s x m=bif t.fDone then ZGU c s x mk t.fReply m else bif t.fBroken then some false else(Zbo m t.fOp).bind fun lU=>bif(!lU)then some false else
   (Zbe m t.fOp 0).bind fun cV=>need ((aY++([cV.2]:List Zag)).length * 136<=140737488355328/\(aY++([cV.2]:List Zag)).length<=maxLen) <|
   bif t.fOp.fMark then bif(t.fOp.fKind != (7:Int))then ZaH fu (Zan mk 1) (Zan i 1) (aY++[cV.2]) c s x cV.1 else bif(cV.2.fN==(1:Int))then ZaH fu (Zan mk 1) (Zan i 1) (aY++[cV.2]) c s x cV.1
    else ZaH fu mk (Zan i 1) (aY++[cV.2]) c s x cV.1
   else ZaH fu mk (Zan i 1) (aY++[cV.2]) c s x cV.1:=by
 have cj:∀r:Option Zcy,(r.bind fun y=>some y)=r:=fun r=>by cases r<;>rfl
 unfold Zhe at h
 conv=>lhs;unfold ZaH
 rw[Zai,if_pos hi];cases b:Zkn c x with
 |none=>rw[b]at h;cases h
 |some code=>
  rw[b]at h;rw[ZaJ]at h ⊢;cases code<;>(dsimp only at h ⊢;rw[cj]at h;rw[h,ZaJ];rfl)
theorem ZLf{c:ZaA}{s:Zas}{x:ZaB}(hx:x.ok)(dw:1<=c.fShards)(hsh:c.fShards<=8){m:ZaE}{r:Zau}{m':ZaE}{st cn:Nat}(h:Ex (Znb c x) m r m' st cn)(cX:st<=390) :
  ZaH 402 0 0 [] c s x m=ZGU c s x (cn:Int) r m':=by
 have gd:∀aY:List Zag,aY.length<=400->(∀v∈aY,gv0 v)->Gl aY:=fun aY d b=>⟨by omega,fun v u=>b v u⟩;have nx:∀aY:List Zag,aY.length<=400->(∀v∈aY,gv0 v)->Zhe c x aY=(runT (Znb c x) aY).map ZBt:=fun aY d b=>Zzb hx (gd aY d b) dw hsh;have hl:=ZIF (p:=Znb c x) (c0:=fun fu mk i aY m=>ZaH fu mk i aY c s x m) (F:=fun mk r m=>ZGU c s x mk r m)
  (fun fu mk i aY m r g hi d b y=>by
   have j:=nx aY d b;rw[y]at j;rw[ZJp j fu _ _ (by omega) m];rfl)
  (fun fu mk i aY m q m' v hi d i3 b y A B=>by
   have j:=nx aY d b;rw[y]at j;have D:Zan (mk:Int) 1=((mk+1:Nat):Int):=by rw[Zcs (by omega) (by omega)];omega
   have E:Zan (i:Int) 1=((i+1:Nat):Int):=by rw[Zcs (by omega) (by omega)];omega
   rw[ZJp j fu _ _ (by omega) m];show ((Zbo m q).bind fun lU=>bif(!lU)then some false else(Zbe m q 0).bind fun cV=>need ((aY++([cV.2]:List Zag)).length * 136<=140737488355328/\(aY++([cV.2]:List Zag)).length<=maxLen) <|
    bif q.fMark then bif(q.fKind != (7:Int))then ZaH fu (Zan (mk:Int) 1) (Zan (i:Int) 1) (aY++[cV.2]) c s x cV.1 else bif(cV.2.fN==(1:Int))then ZaH fu (Zan (mk:Int) 1) (Zan (i:Int) 1) (aY++[cV.2]) c s x cV.1
     else ZaH fu (mk:Int) (Zan (i:Int) 1) (aY++[cV.2]) c s x cV.1
    else ZaH fu (mk:Int) (Zan (i:Int) 1) (aY++[cV.2]) c s x cV.1)=_
   rw[A,ZaJ,Bool.not_true,cond_false,B,ZaJ,Zar ⟨by simp;omega,by simp[maxLen];omega⟩,D,E];unfold mkd;cases G:q.fMark with
   |false=>rw[cond_false,if_neg (fun h=>by cases h.1)];rfl
   |true=>
    rw[cond_true];by_cases o:q.fKind=7
    .have z:(q.fKind != 7)=false:=by rw[o];rfl
     rw[z,cond_false];by_cases t:v.fN=1
     .rw[if_pos ⟨rfl,.inr t⟩];dsimp only;rw[t];rfl
     .rw[if_neg (fun h=>h.2.elim (fun h=>h o) t),Nat.add_zero];dsimp only;rw[beq_false_of_ne t];rfl
    .have z:(q.fKind != 7)=true:=by rw[bne_iff_ne];exact o
     rw[z,cond_true,if_pos ⟨rfl,.inl o⟩])
  h 402 0 0 [] (Rs.nil _) (fun v u=>by cases u) rfl (Nat.le_refl _) (by omega) (by omega)
 rw[Nat.zero_add]at hl;exact hl
section
variable {c:ZaA} {s:Zas} {x:ZaB} (hx:x.ok) (hs:s.ok) (hR:i5 c s) (a8:s.fBans.length<=20/\s.fBook.length<=20/\s.fPeers.length<=20)
include hx hs hR a8
theorem ZHL(d:x.fKind=1):ZKJ c s x (mP c s fL) (Znb c x):=by
 cases b:ZjQ x with
 |false=>
  have:=ZHK hx hs hR a8 b (c:=c);unfold Znb;rw[b,if_neg (by decide)];exact this
 |true=>exact ZFq hx hs hR a8 b d
omit hx hs hR a8 in
theorem ZIP{r:Zau}{ap out:Int}{ag:List Zae}{book:List Zac}{ps:PPs}{peers:Prs}(hd:Zdp c s x=some (⟨ag,book,peers⟩,r))(b:StrP peers)(d:((ps.map (·.1)).flatten).Perm peers)(g:ps.length<=100)(h:∀y∈ps,(y.1++y.2).length<=1000)
  (j:ap=cntP peers true) (o:out=cntP peers false+Zhm book 2) (t:ag.length<=1000) (u:book.length<=1000) (p:peers.length<=1000) (kf:r.fPeers.length<=1000):ZGU c s x 1 r (memM ap out ag book (shP ps) (Zbk c.fShards) fun _=>Zhn)=some true:=by
 have h8':=Zij c.fShards;unfold ZGU;rw[hd,ZaJ];show (bif((1:Int)==1)then _ else _)=_;rw[show ((1:Int)==1)=true from rfl,cond_true];dsimp only;rw[Zwv r (by omega),ZaJ,cond_true,ZEn g h b d,ZaJ,Zwu _ (by show ag.length<=_;omega) (by show book.length<=_;omega) (by show peers.length<=_;omega),ZaJ,cond_true,ZtQ _ (by show peers.length<=_;omega) (by show book.length<=_;omega),ZaJ,ZHy (by omega) p j o,ZaJ,cond_true,ZyT];rfl
end
theorem Zuh(c:ZaA)(s:Zas)(x:ZaB)(A:c.ok)(hs:s.ok)(hx:x.ok):ZfC c s x=some true:=by
 obtain⟨b1,d,h1'⟩:=ZJR s;unfold ZfC;rw[d,ZaJ];cases b1 with
 |false=>rw[Bool.not_false,cond_true,ZyT];rfl
 |true=>
  obtain⟨n1,n2,n3⟩:=h1' rfl;obtain⟨b2,g,gc⟩:=ZJX c s hs n1 n2 n3;rw[Bool.not_true,cond_false,g,ZaJ];cases b2 with
  |false=>rw[Bool.not_false,cond_true,ZyT];rfl
  |true=>
   rw[Bool.not_true,cond_false];by_cases b:x.fKind=1;rotate_left
   .have e:(x.fKind != 1)=true:=by rw[bne_iff_ne];exact b
    rw[e,cond_true,ZyT];rfl
   .have e:(x.fKind != 1)=false:=by rw[b];rfl
    rw[e,cond_false,ZIC c s hs.2.2.1.2 (by omega) (by omega),ZaJ];obtain⟨r,ap,out,ag,book,ps,peers,st,h,j,o,p,t,u,v,y,z,q10,kz,kC,q13⟩:=ZHL hx hs (gc rfl) ⟨n1,n2,n3⟩ b (c:=c);have hsh:=ZCS (gc rfl).conf;have hl:=ZLf (s:=s) hx (by omega) (by omega) h j;refine Eq.trans hl ?_;exact ZIP o p t u v y z q10 kz kC q13
end Go.Proofs.YtmnloegcpaahcaaGreat
