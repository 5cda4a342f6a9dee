import Derived.Test.YtdjfoojllbfcgaaGreatLLeaA3
import Derived.Test.YtdjfoojllbfcgaaGreatLPlA
namespace Go.Proofs.YtdjfoojllbfcgaaGreat
set_option linter.unusedVariables false
set_option linter.unusedSimpArgs false
def ZkL:Zaa:=⟨⟨⟨false,0,0⟩,0⟩,false,0,⟨0,0⟩,0,0⟩
def valZ:Zae:=⟨0,ZkL,[],[]⟩
def locZ:Zav:=⟨0,0,0⟩
def opZ:ZaE:=⟨0,0,locZ,0,0,valZ,false⟩
def endZ:Zag:=⟨⟨false,0,0⟩,0⟩
def repZ:Zaq:=⟨0,endZ,0,0,[]⟩
def locN(l:Zav):Zav:=if l.fKind=1∨l.fKind=2∨l.fKind=3∨l.fKind=4 then⟨l.fKind,0,0⟩else if l.fKind=5 then⟨l.fKind,l.fShard,0⟩else if l.fKind=6 then l else locZ
def valN(k:Int)(v:Zae):Zae:=if k=1∨k=2∨k=5 then⟨v.fN,ZkL,[],[]⟩else if k=3 then⟨0,ZkL,v.fBans,[]⟩else if k=4 then⟨0,ZkL,[],v.fBook⟩else if k=6 then⟨0,v.fPeer,[],[]⟩else valZ
def opN(o:ZaE):ZaE:=if o.fKind=1∨o.fKind=2∨o.fKind=3∨o.fKind=4 then⟨o.fKind,o.fLock,locZ,0,0,valZ,o.fMark⟩else if o.fKind=5 then⟨o.fKind,0,locN o.fLoc,0,0,valZ,o.fMark⟩else if o.fKind=6 then⟨o.fKind,0,locN o.fLoc,0,0,valN o.fLoc.fKind o.fVal,o.fMark⟩else if o.fKind=7 then⟨o.fKind,0,locN o.fLoc,o.fOld,o.fNew,valZ,o.fMark⟩else if o.fKind=8 then⟨o.fKind,0,locZ,0,0,valZ,o.fMark⟩else opZ
theorem Zco(a b:Int){α:Type}(x y:α):(bif a==b then x else y)=if a=b then x else y:=by
 by_cases h:a=b
 ·subst h;simp
 ·rw[if_neg h,beq_false_of_ne h];rfl
theorem ZAt(l:Zav):ZjB l=some (locN l):=by
 obtain⟨k,s,t⟩:=l;unfold ZjB Zhh locN;simp only[Zco]
 repeat' split
 all_goals first|rfl | (simp_all [locZ];done) | (exfalso;omega)
theorem ZAd(k:Int)(v:Zae):Zmu k v=some (valN k v):=by
 unfold Zmu ZhT valN;simp only[Zco]
 repeat' split
 all_goals first|rfl | (simp_all [valZ,ZkL];done) | (exfalso;omega)
theorem ZAY(o:ZaE):Zmv o=some (opN o):=by
 unfold Zmv Zhi opN;simp only[Zco,ZAt,ZAd,Option.bind_some]
 repeat' split
 all_goals first|rfl | (simp_all [opZ,locZ,valZ,ZkL];done) | (exfalso;omega)
theorem ZaL{α β:Type}(x:α)(f:α→Option β):(some x).bind f=f x:=by simp
theorem ZFY(o:ZaE):Zcw ⟨[]⟩ o=some (.pan (opN o)):=by
 simp[Zcw,ZAY]
theorem ZEo(v:Zae)(r:List Zae)(o:ZaE):Zcw ⟨v :: r⟩ o=some (.ret v ⟨r⟩):=by
 have h:(((v :: r).length:Nat):Int)≠0:=by simp only[List.length_cons];omega
 unfold Zcw;simp only[Zco,if_neg h];rw[Zay (by simp only[List.length_cons];omega),Zay (by simp only[List.length_cons];omega)];rfl
section
variable {got:List Zae} (hL:got.length≤1000000) {a:Nat} (ha:a≤got.length)
include hL ha
end
def ZcA(p:Int):Nat:=if p<1 then 1 else if p>8 then 8 else p.toNat
theorem ZgO(p:Int):1≤ZcA p∧ZcA p≤8:=by unfold ZcA;split<;>(try split)<;>omega
theorem Zuj(p:Int):ZcS p=some (ZcA p:Int):=by
 unfold ZcS ZcA;simp only[Zal]
 repeat' split
 all_goals first|rfl | (congr 1;omega)|omega
theorem ZuM(l:List Zab)(h:l.length≤1000000):Zgj l l=some true:=by
 have main:∀(k i f:Nat),l.length-i=k→i≤l.length→k+1≤f→ZcD l l f i=some true:=by
  intro k;induction k with
  |zero=>
   intro i f hk hi hf;obtain⟨f,rfl⟩ : ∃x,f=x+1:=⟨f-1,by omega⟩;have hc:¬((i:Int)<(l.length:Int)):=by omega
   unfold ZcD;simp only[Zal,if_neg hc]
  |succ k ih=>
   intro i f hk hi hf;obtain⟨f,rfl⟩ : ∃x,f=x+1:=⟨f-1,by omega⟩;have hc:(i:Int)<(l.length:Int):=by omega
   have e1:Zaw (i:Int) 1=((i+1:Nat):Int):=add1 (n:=i+1) (by omega) (by simp only[maxLen];omega);unfold ZcD;simp only[Zal,if_pos hc,e1,decide_true,Bool.not_true,cond_false];rw[Zay (by omega),Zay (by omega)];exact ih (i+1) f (by omega) (by omega) (by omega)
 unfold Zgj;simp only[bne_self_eq_false,cond_false];exact main l.length 0 _ (by omega) (by omega) (by omega)
theorem ZuL(l:List Zac)(h:l.length≤1000000):Zgi l l=some true:=by
 have main:∀(k i f:Nat),l.length-i=k→i≤l.length→k+1≤f→ZcC l l f i=some true:=by
  intro k;induction k with
  |zero=>
   intro i f hk hi hf;obtain⟨f,rfl⟩ : ∃x,f=x+1:=⟨f-1,by omega⟩;have hc:¬((i:Int)<(l.length:Int)):=by omega
   unfold ZcC;simp only[Zal,if_neg hc]
  |succ k ih=>
   intro i f hk hi hf;obtain⟨f,rfl⟩ : ∃x,f=x+1:=⟨f-1,by omega⟩;have hc:(i:Int)<(l.length:Int):=by omega
   have e1:Zaw (i:Int) 1=((i+1:Nat):Int):=add1 (n:=i+1) (by omega) (by simp only[maxLen];omega);unfold ZcC;simp only[Zal,if_pos hc,e1,decide_true,Bool.not_true,cond_false];rw[Zay (by omega),Zay (by omega)];exact ih (i+1) f (by omega) (by omega) (by omega)
 unfold Zgi;simp only[bne_self_eq_false,cond_false];exact main l.length 0 _ (by omega) (by omega) (by omega)
theorem Zpc(l:List Zaa)(h:l.length≤1000000):Zew l l=some true:=by
 have main:∀(k i f:Nat),l.length-i=k→i≤l.length→k+1≤f→Zcp l l f i=some true:=by
  intro k;induction k with
  |zero=>
   intro i f hk hi hf;obtain⟨f,rfl⟩ : ∃x,f=x+1:=⟨f-1,by omega⟩;have hc:¬((i:Int)<(l.length:Int)):=by omega
   unfold Zcp;simp only[Zal,if_neg hc]
  |succ k ih=>
   intro i f hk hi hf;obtain⟨f,rfl⟩ : ∃x,f=x+1:=⟨f-1,by omega⟩;have hc:(i:Int)<(l.length:Int):=by omega
   have e1:Zaw (i:Int) 1=((i+1:Nat):Int):=add1 (n:=i+1) (by omega) (by simp only[maxLen];omega);unfold Zcp;simp only[Zal,if_pos hc,e1,decide_true,Bool.not_true,cond_false];rw[Zay (by omega),Zay (by omega)];exact ih (i+1) f (by omega) (by omega) (by omega)
 unfold Zew;simp only[bne_self_eq_false,cond_false];exact main l.length 0 _ (by omega) (by omega) (by omega)
theorem ZtE(r:Zaq)(h:r.fPeers.length≤1000000):ZcH r r=some true:=by
 unfold ZcH;simp only[beq_self_eq_true,decide_true,cond_true,Zpc _ h,ZaL]
inductive Pr (α:Type) where
 |ret (x:α)
 |ask (o:ZaE) (k:Zae→Pr α)
 |no
def Pr.bind{α β:Type}:Pr α→(α→Pr β)→Pr β | .ret x,f=>f x | .ask o k,f=>.ask o fun v=>(k v).bind f | .no,_=>.no
theorem Pr.bind_ret{α β:Type}(x:α)(f:α→Pr β):(Pr.ret x).bind f=f x:=rfl
theorem Pr.bind_ask{α β:Type}(o:ZaE)(k:Zae→Pr α)(f:α→Pr β):(Pr.ask o k).bind f=.ask o fun v=>(k v).bind f:=rfl
theorem Pr.bind_assoc{α β γ:Type}(p:Pr α)(f:α→Pr β)(g:β→Pr γ):(p.bind f).bind g=p.bind fun x=>(f x).bind g:=by
 induction p with
 |ret x=>rfl
 |ask o k ih=>simp only[Pr.bind_ask,ih]
 |no=>rfl
def runT{α:Type}:Pr α→List Zae→Option (Tout α) | .ret x,l=>some (.ret x ⟨l⟩) | .ask o _,[]=>some (.pan (opN o)) | .ask _ k,v :: l=>runT (k v) l | .no,_=>none
theorem ZDv{α:Type}(p:Pr α):∀(l:List Zae)(s:ByteArray),runT p l≠some (.bad s):=by
 induction p with
 |ret x=>intro l s h;simp[runT]at h
 |ask o k ih=>
  intro l s;cases l with
  |nil=>simp[runT]
  |cons v l=>exact ih v l s
 |no=>intro l s h;simp[runT]at h
theorem Zbh{α β:Type}{p:Pr α}{f:α→Pr β}{l:List Zae}{F:Tout α→Option (Tout β)}(h1:∀x a,a≤l.length→runT p l=some (.ret x ⟨l.drop a⟩)→F (.ret x ⟨l.drop a⟩)=runT (f x) (l.drop a))(h2:∀o,F (.pan o)=some (.pan o)) :
  (runT p l).bind F=runT (p.bind f) l:=by
 induction p generalizing l with
 |ret x=>
  have:=h1 x 0 (Nat.zero_le _) rfl;simpa[runT,Pr.bind]using this
 |ask o k ih=>
  cases l with
  |nil=>simp only[runT,Pr.bind,Option.bind_some,h2]
  |cons v l=>
   simp only[runT,Pr.bind];refine ih v fun x a ha h=>?_;exact h1 x (a+1) (by simp only[List.length_cons];omega) h
 |no=>rfl
theorem ZnY{α:Type}{p:Pr α}{l:List Zae}{F:Tout α→Option (Tout α)}(h1:∀x g,F (.ret x g)=some (.ret x g))(h2:∀o,F (.pan o)=some (.pan o)):(runT p l).bind F=runT p l:=by
 cases h:runT p l with
 |none=>rfl
 |some t=>
  cases t with
  |ret x g=>exact h1 x g
  |pan o=>exact h2 o
  |bad s=>exact absurd h (ZDv p l s)
def Zmn(l:Zav):Pr Zae:=.ask ⟨5,0,l,0,0,valZ,false⟩ .ret
def ZkJ(l:Zav)(v:Zae)(mark:Bool):Pr Unit:=.ask ⟨6,0,l,0,0,v,mark⟩ fun _=>.ret ()
def keyP(k lock:Int)(mark:Bool):Pr Unit:=.ask ⟨k,lock,locZ,0,0,valZ,mark⟩ fun _=>.ret ()
def ZFf(k old now:Int)(mark:Bool):Pr Bool:=.ask ⟨7,0,⟨k,0,0⟩,old,now,valZ,mark⟩ fun v=>.ret (v.fN==1)
theorem Zre{α:Type}(f:Zae→α)(o:ZaE)(l:List Zae):((Zcw ⟨l⟩ o).bind fun x=>match x with | .ret v g=>some (Tout.ret (f v) g) | .pan q=>some (.pan q) | .bad s=>some (.bad s))=runT (.ask o fun v=>.ret (f v)) l:=by
 cases l with
 |nil=>rw[ZFY];rfl
 |cons v r=>rw[ZEo];rfl
theorem ZqF(l:List Zae)(c:Zav):Zel ⟨l⟩ c false=runT (Zmn c) l:=Zre id _ l
theorem ZoD(l:List Zae)(c:Zav)(v:Zae)(mark:Bool):ZdO ⟨l⟩ c v mark=runT (ZkJ c v mark) l:=Zre (fun _=>()) _ l
theorem ZEu(l:List Zae)(k old now:Int)(mark:Bool):Zix ⟨l⟩ ⟨k,0,0⟩ old now mark=runT (ZFf k old now mark) l:=Zre (fun v=>v.fN==1) _ l
theorem ZrV(l:List Zae)(k:Int)(mark:Bool):ZeT ⟨l⟩ k mark=runT (keyP 1 k mark) l:=Zre (fun _=>()) _ l
theorem ZhX(l:List Zae)(k:Int)(mark:Bool):Zbb ⟨l⟩ k mark=runT (keyP 3 k mark) l:=Zre (fun _=>()) _ l
theorem ZEw(l:List Zae)(mark:Bool):Ziy ⟨l⟩ mark=runT (keyP 8 0 mark) l:=Zre (fun _=>()) _ l
theorem Zvl{c:Zav}{l:List Zae}{x:Zae}{g:Zan}(h:runT (Zmn c) l=some (.ret x g)):∃r,l=x :: r∧g=⟨r⟩:=by
 cases l with
 |nil=>simp[runT,Zmn]at h
 |cons v r=>
  simp only[runT,Zmn,Option.some.injEq,Tout.ret.injEq]at h;exact⟨r,by rw[h.1],h.2.symm⟩
def Zoa(part:Int):Nat→Nat→List Zaa→Pr (List Zaa)|0,_,w=>.ret w|k+1,i,w=>(Zmn ⟨6,part,i⟩).bind fun v=>Zoa part k (i+1) (w++[v.fPeer])
def Zsm(part:Int):Pr (List Zaa):=(Zmn ⟨5,part,0⟩).bind fun v=>Zoa part v.fN.toNat 0 []
theorem ZBG(part n:Int):∀(k:Nat)(w:List Zaa)(l:List Zae)(fu:Nat),(n-(w.length:Int)).toNat=k→w.length+l.length≤900000→k+1≤fu→Zfn part fu n (w.length:Int) w ⟨l⟩=runT (Zoa part k w.length w) l:=by
 intro k;induction k with
 |zero=>
  intro w l fu hk hl hf;obtain⟨fu,rfl⟩ : ∃x,fu=x+1:=⟨fu-1,by omega⟩;unfold Zfn;simp only[Zal];rw[if_neg (by omega)];rfl
 |succ k ih=>
  intro w l fu hk hl hf;obtain⟨fu,rfl⟩ : ∃x,fu=x+1:=⟨fu-1,by omega⟩;unfold Zfn;simp only[Zal];have e:Zjy part (w.length:Int)=some ⟨6,part,(w.length:Int)⟩:=rfl;rw[if_pos (by omega),e,ZaL,ZqF];refine Zbh (fun x a ha h=>?_) (fun o=>rfl);obtain⟨r,rfl,h2⟩:=Zvl h;simp only[Zan.mk.injEq]at h2;rw[h2];simp only[List.length_cons]at hl;dsimp only;rw[Zay (by simp only[List.length_append,List.length_singleton,maxLen];omega)];have e1:Zaw (w.length:Int) 1=(((w++[x.fPeer]).length:Nat):Int):=by
   rw[add1 (n:=w.length+1) (by omega) (by simp only[maxLen];omega)];simp
  have e2:w.length+1=(w++[x.fPeer]).length:=by simp
  rw[e1,e2];exact ih (w++[x.fPeer]) r fu (by simp only[List.length_append,List.length_singleton];omega) (by simp only[List.length_append,List.length_singleton];omega) (by omega)
theorem ZEv(part:Int)(l:List Zae)(hl:l.length≤900000):ZkQ ⟨l⟩ part=runT (Zsm part) l:=by
 unfold ZkQ;have e:Zjz part=some ⟨5,part,0⟩:=rfl;rw[e,ZaL,ZqF];refine Zbh (fun x a ha h=>?_) (fun o=>rfl);obtain⟨r,rfl,h2⟩:=Zvl h;simp only[Zan.mk.injEq]at h2;rw[h2];simp only[List.length_cons]at hl;dsimp only;have:=ZBG part (if(0:Int)>x.fN then 0 else x.fN) x.fN.toNat [] r ((((if(0:Int)>x.fN then 0 else x.fN))-(0:Int)).toNat+2) (by simp only[List.length_nil];split<;>omega) (by simp only[List.length_nil];omega) (by split<;>omega);exact this
theorem Zwk(part:Int):∀(k i:Nat)(w:List Zaa)(l:List Zae)(x:List Zaa)(g:Zan),runT (Zoa part k i w) l=some (.ret x g)→x.length+g.fgot.length=w.length+l.length
 | 0,i,w,l,x,g,h=>by simp[Zoa,runT]at h;rw[←h.1,←h.2]
 |k+1,i,w,[],x,g,h=>by simp[Zoa,runT,Zmn,Pr.bind]at h
 |k+1,i,w,v :: l,x,g,h=>by
  have:=Zwk part k (i+1) (w++[v.fPeer]) l x g h
  simp only[List.length_append,List.length_cons,List.length_nil]at this ⊢
  omega
theorem Zzl{part:Int}{l:List Zae}{x:List Zaa}{g:Zan}(h:runT (Zsm part) l=some (.ret x g)):x.length≤l.length:=by
 cases l with
 |nil=>simp[Zsm,runT,Zmn,Pr.bind]at h
 |cons v l=>
  have:=Zwk part _ _ _ l x g h;simp only[List.length_cons,List.length_nil]at this ⊢;omega
theorem Zwj(part:Int)(Q:Zaa→Prop):∀(k i:Nat)(w:List Zaa)(l:List Zae)(x:List Zaa)(g:Zan),runT (Zoa part k i w) l=some (.ret x g)→(∀p∈w,Q p)→(∀v∈l,Q v.fPeer)→∀p∈x,Q p
 | 0,i,w,l,x,g,h,hw,hl=>by simp[Zoa,runT]at h;rw[←h.1];exact hw
 |k+1,i,w,[],x,g,h,hw,hl=>by simp[Zoa,runT,Zmn,Pr.bind]at h
 |k+1,i,w,v :: l,x,g,h,hw,hl=>by
  refine Zwj part Q k (i+1) (w++[v.fPeer]) l x g h (fun p hp=>?_) (fun v' hv=>hl v' (List.mem_cons_of_mem _ hv))
  rcases List.mem_append.1 hp with hp|hp
  ·exact hw p hp
  ·rw[List.mem_singleton.1 hp];exact hl v (by simp)
theorem ZDH{part:Int}{Q:Zaa→Prop}{l:List Zae}{x:List Zaa}{g:Zan}(h:runT (Zsm part) l=some (.ret x g))(hl:∀v∈l,Q v.fPeer):∀p∈x,Q p:=by
 cases l with
 |nil=>simp[Zsm,runT,Zmn,Pr.bind]at h
 |cons v l=>exact Zwj part Q _ _ _ l x g h (by simp) fun v' hv=>hl v' (List.mem_cons_of_mem _ hv)
def wrB(was now:List Zaa)(i:Nat):Bool:=decide (was.length≤i) || !decide (was.getD i Zaa.d=now.getD i Zaa.d)
def wrL(was now:List Zaa):List Int:=((List.range now.length).filter (wrB was now)).map fun(i:Nat)=>(i:Int)
theorem ZyN(was now:List Zaa)(hn:now.length≤1000000):Zip was now=some (wrL was now):=by
 have main:∀(k i f:Nat),now.length-i=k→i≤now.length→k+1≤f→ZcO was f now (now.length:Int) i (((List.range i).filter (wrB was now)).map fun(i:Nat)=>(i:Int))=some (wrL was now):=by
  intro k;induction k with
  |zero=>
   intro i f hk hi hf;obtain⟨f,rfl⟩ : ∃x,f=x+1:=⟨f-1,by omega⟩;unfold ZcO;simp only[Zal];rw[if_neg (by omega)];have:i=now.length:=by omega
   rw[this];rfl
  |succ k ih=>
   intro i f hk hi hf;obtain⟨f,rfl⟩ : ∃x,f=x+1:=⟨f-1,by omega⟩;unfold ZcO;simp only[Zal];have e1:Zaw (i:Int) 1=((i+1:Nat):Int):=add1 (n:=i+1) (by omega) (by simp only[maxLen];omega);have hl:((List.range i).filter (wrB was now)).length≤i:=by
    have:=List.length_filter_le (wrB was now) (List.range i);rw[List.length_range]at this;exact this
   have hlen:((((List.range i).filter (wrB was now)).map fun(i:Nat)=>(i:Int))++[(i:Int)]).length * 8≤140737488355328∧((((List.range i).filter (wrB was now)).map fun(i:Nat)=>(i:Int))++[(i:Int)]).length≤maxLen:=by
    simp only[List.length_append,List.length_singleton,List.length_map,maxLen];omega
   have hadd:wrB was now i=true→(((List.range i).filter (wrB was now)).map fun(i:Nat)=>(i:Int))++[(i:Int)]=((List.range (i+1)).filter (wrB was now)).map fun(i:Nat)=>(i:Int):=fun h=>by
    rw[List.range_succ,List.filter_append,List.map_append,List.filter_cons_of_pos (by rw[h])];rfl
   have hsame:wrB was now i=false→(((List.range i).filter (wrB was now)).map fun(i:Nat)=>(i:Int))=((List.range (i+1)).filter (wrB was now)).map fun(i:Nat)=>(i:Int):=fun h=>by
    rw[List.range_succ,List.filter_append,List.map_append,List.filter_cons_of_neg (by rw[h];decide)];simp
   have ih':=ih (i+1) f (by omega) (by omega) (by omega);rw[if_pos (by omega),Zay (by omega)];by_cases h:(i:Int)≥(was.length:Int)
   ·have hb:wrB was now i=true:=by unfold wrB;rw[decide_eq_true (show was.length≤i by omega)];rfl
    rw[if_pos h,Zay hlen,e1,hadd hb];exact ih'
   ·rw[if_neg h,Zay (show 0≤(i:Int)∧(i:Int)<(was.length:Int)by omega)];have h0:decide (was.length≤i)=false:=decide_eq_false (by omega);by_cases h2:was.getD ((i:Int)).toNat Zaa.d=now.getD ((i:Int)).toNat Zaa.d
    ·have hb:wrB was now i=false:=by
      unfold wrB;rw[h0,Bool.false_or];simp only[Int.toNat_natCast]at h2;rw[decide_eq_true h2];rfl
     simp only[h2,decide_true,Bool.not_true,cond_false,e1];rw[hsame hb];exact ih'
    ·have hb:wrB was now i=true:=by
      unfold wrB;rw[h0,Bool.false_or];simp only[Int.toNat_natCast]at h2;rw[decide_eq_false h2];rfl
     simp only[h2,decide_false,Bool.not_false,cond_true];rw[Zay hlen,e1,hadd hb];exact ih'
 exact main now.length 0 _ (by omega) (by omega) (by omega)
theorem ZFa{was now:List Zaa}{x:Int}(h:x∈wrL was now):0≤x∧x<(now.length:Int):=by
 unfold wrL at h;obtain⟨i,h1,rfl⟩:=List.mem_map.1 h;have:=List.mem_range.1 (List.mem_filter.1 h1).1;omega
theorem ZFb(was now:List Zaa):(wrL was now).length≤now.length:=by
 unfold wrL;rw[List.length_map];have:=List.length_filter_le (wrB was now) (List.range now.length);rw[List.length_range]at this;exact this
def Zpo(part:Int)(now:List Zaa):List Int→Pr Unit | []=>.ret ()|i :: r=>(ZkJ ⟨6,part,i⟩ ⟨0,now.getD i.toNat Zaa.d,[],[]⟩ false).bind fun _=>Zpo part now r
def ZpH(part:Int)(was now:List Zaa):Pr Unit:=(Zpo part now (wrL was now)).bind fun _=>if was.length=now.length then .ret ()else ZkJ ⟨5,part,0⟩ ⟨(now.length:Int),ZkL,[],[]⟩ false
theorem ZDi(part:Int)(was now:List Zaa)(l:List Zae)(hn:now.length≤1000000):ZjU ⟨l⟩ part was now=runT (ZpH part was now) l:=by
 unfold ZjU;rw[ZyN was now hn,ZaL];have hlen:=ZFb was now;have main:∀(k i f:Nat)(l:List Zae),(wrL was now).length-i=k→i≤(wrL was now).length→k+1≤f→ZeJ part was now f (wrL was now) ((wrL was now).length:Int) i ⟨l⟩=runT ((Zpo part now ((wrL was now).drop i)).bind fun _=>if was.length=now.length then .ret ()else ZkJ ⟨5,part,0⟩ ⟨(now.length:Int),ZkL,[],[]⟩ false) l:=by
  intro k;induction k with
  |zero=>
   intro i f l hk hi hf;obtain⟨f,rfl⟩ : ∃x,f=x+1:=⟨f-1,by omega⟩;unfold ZeJ;simp only[Zal];rw[if_neg (by omega),List.drop_of_length_le (by omega)];have e:Zjz part=some ⟨5,part,0⟩:=rfl;simp only[e,Option.bind_some,Zpo,Pr.bind_ret];by_cases hc:was.length=now.length
   ·have e2:(((was.length:Nat):Int) != ((now.length:Nat):Int))=false:=by simp[hc]
    rw[if_pos hc,e2,cond_false];rfl
   ·have e2:(((was.length:Nat):Int) != ((now.length:Nat):Int))=true:=by
     rw[bne_iff_ne];omega
    rw[if_neg hc,e2,cond_true,ZoD];exact ZnY (p:=ZkJ ⟨5,part,0⟩ ⟨(now.length:Int),ZkL,[],[]⟩ false) (fun _ _=>rfl) (fun _=>rfl)
  |succ k ih=>
   intro i f l hk hi hf;obtain⟨f,rfl⟩ : ∃x,f=x+1:=⟨f-1,by omega⟩;unfold ZeJ;simp only[Zal];have e1:Zaw (i:Int) 1=((i+1:Nat):Int):=add1 (n:=i+1) (by omega) (by simp only[maxLen];omega);have hm:=ZFa (Zhd (wrL was now) (0:Int) i (by omega));have hm':0≤(wrL was now).getD ((i:Int)).toNat (0:Int)∧(wrL was now).getD ((i:Int)).toNat (0:Int)<(now.length:Int):=by simpa using hm
   have e:∀x,Zjy part x=some ⟨6,part,x⟩:=fun _=>rfl;rw[if_pos (by omega),Zay (by omega)];simp only[e,Option.bind_some];rw[Zay hm',ZfK (wrL was now) (0:Int) i (by omega)];simp only[Zpo,Pr.bind_assoc,Int.toNat_natCast,ZoD];refine Zbh (fun x a ha h=>?_) (fun o=>rfl);dsimp only;rw[e1];exact ih (i+1) f _ (by omega) (by omega) (by omega)
 have:=main (wrL was now).length 0 ((((wrL was now).length:Int)-(0:Int)).toNat+2) l (by omega) (by omega) (by omega);rw[List.drop_zero]at this;exact this
def Zrp(k by_:Int)(mark:Bool):Nat→Pr Unit|0=>.no|n+1=>(Zmn ⟨k,0,0⟩).bind fun v=>(ZFf k v.fN (Zaw v.fN by_) mark).bind fun b=>bif b then .ret ()else Zrp k by_ mark n
theorem ZyQ(k by_:Int)(mark:Bool):∀(f:Nat)(l:List Zae),Zgx by_ mark f ⟨l⟩ ⟨k,0,0⟩=runT (Zrp k by_ mark f) l:=by
 intro f;induction f with
 |zero=>intro l;rfl
 |succ f ih=>
  intro l;unfold Zgx;rw[ZqF];refine Zbh (fun x a ha h=>?_) (fun o=>rfl);dsimp only;rw[ZEu];refine Zbh (fun b a ha h=>?_) (fun o=>rfl);dsimp only;cases b with
  |true=>rfl
  |false=>exact ih _
theorem ZqE(k by_:Int)(mark:Bool)(l:List Zae):Zhe ⟨l⟩ k by_ mark=runT (Zrp k by_ mark 1000000) l:=by
 unfold Zhe;exact ZyQ k by_ mark 1000000 l
def gv0(v:Zae):Prop:=v.ok∧v.fBans.length≤800∧v.fBook.length≤800
def mkd(o:ZaE)(v:Zae):Nat:=if o.fMark=true∧(o.fKind≠7∨v.fN=1)then 1 else 0
inductive Ex {α:Type}:Pr α→ZaC→α→ZaC→Nat→Nat→Prop
 |ret (x:α) (m:ZaC) (s:Nat):Ex (.ret x) m x m s 0
 |ask {o:ZaE} {k:Zae→Pr α} {m m':ZaC} {v:Zae} {x:α} {m'':ZaC} {s c:Nat} (h1:ZaS m (opN o)=some true) (h2:ZaR m (opN o) 0=some (m',v)) (h3:gv0 v) (h4:Ex (k v) m' x m'' s c):Ex (.ask o k) m x m'' (s+1) (mkd (opN o) v+c)
theorem Ex.more{α:Type}{p:Pr α}{m:ZaC}{x:α}{m':ZaC}{s c:Nat}(h:Ex p m x m' s c):∀{t:Nat},s≤t→Ex p m x m' t c:=by
 induction h with
 |ret x m s=>exact fun _=>.ret x m _
 |ask h1 h2 h3 h4 ih=>
  intro t ht;obtain⟨t,rfl⟩ : ∃u,t=u+1:=⟨t-1,by omega⟩;exact .ask h1 h2 h3 (ih (by omega))
theorem Ex.bind{α β:Type}{p:Pr α}{m:ZaC}{x:α}{m1:ZaC}{s1 c1:Nat}(h:Ex p m x m1 s1 c1){f:α→Pr β}{y:β}{m2:ZaC}{s2 c2:Nat}:Ex (f x) m1 y m2 s2 c2→Ex (p.bind f) m y m2 (s1+s2) (c1+c2):=by
 induction h with
 |ret x m s=>intro h2;rw[Nat.zero_add];exact h2.more (by omega)
 |ask h1 h2 h3 h4 ih=>
  rename_i o k m m' v x m'' s c;intro hf;have h5:=Ex.ask (k:=fun v=>(k v).bind f) h1 h2 h3 (ih hf);have e1:s+1+s2=s+s2+1:=by omega
  have e2:mkd (opN o) v+c+c2=mkd (opN o) v+(c+c2):=by omega
  rw[e1,e2];exact h5
theorem Ex.seq{α β:Type}{p:Pr α}{m:ZaC}{x:α}{m1:ZaC}{s1 c1:Nat}(h:Ex p m x m1 s1 c1){f:α→Pr β}{y:β}{m2:ZaC}{s2 c2 s c:Nat}(h2:Ex (f x) m1 y m2 s2 c2)(hs:s1+s2≤s)(hc:c1+c2=c):Ex (p.bind f) m y m2 s c:=by
 subst hc;exact(h.bind h2).more hs
def Rs{α:Type}(p:Pr α)(got:List Zae)(r:Pr α):Prop:=∀l,runT p (got++l)=runT r l
theorem Rs.nil{α:Type}(p:Pr α):Rs p [] p:=fun _=>rfl
theorem Rs.step{α:Type}{p:Pr α}{got:List Zae}{o:ZaE}{k:Zae→Pr α}(h:Rs p got (.ask o k))(v:Zae):Rs p (got++[v]) (k v):=fun l=>by
 have:=h (v :: l)
 simpa[runT]using this
theorem ZDR{α:Type}{p:Pr α}{c0:Nat→Int→Int→List Zae→ZaC→Option Bool}{F:Int→α→ZaC→Option Bool}
  (hret:∀fu (mk i:Nat) got m x g,i<400→got.length≤400→(∀v∈got,gv0 v)→runT p got=some (.ret x g)→c0 (fu+1) (mk:Int) (i:Int) got m=F (mk:Int) x m)
  (hask:∀fu (mk i:Nat) got m q m' v,i<400→got.length≤400→mk≤400→(∀v∈got,gv0 v)→runT p got=some (.pan q)→ZaS m q=some true→ZaR m q 0=some (m',v) →
   c0 (fu+1) (mk:Int) (i:Int) got m=c0 fu ((mk+mkd q v:Nat):Int) ((i+1:Nat):Int) (got++[v]) m')
  {r:Pr α} {m:ZaC} {x:α} {m':ZaC} {s c:Nat} (h:Ex r m x m' s c):∀(fu mk i:Nat)(got:List Zae),Rs p got r→(∀v∈got,gv0 v)→got.length=i→mk≤i→i+s<400→s+1≤fu→c0 fu (mk:Int) (i:Int) got m=F ((mk+c:Nat):Int) x m':=by
 induction h with
 |ret x m s=>
  intro fu mk i got hr hg hl hmk hi hf;obtain⟨fu,rfl⟩ : ∃u,fu=u+1:=⟨fu-1,by omega⟩;have h0:=hr [];rw[List.append_nil]at h0;exact hret fu mk i got m x _ (by omega) (by omega) hg (by rw[h0];rfl)
 |ask h1 h2 h3 h4 ih=>
  rename_i o k m m' v x m'' s c;intro fu mk i got hr hg hl hmk hi hf;obtain⟨fu,rfl⟩ : ∃u,fu=u+1:=⟨fu-1,by omega⟩;have h0:=hr [];rw[List.append_nil]at h0;rw[hask fu mk i got m (opN o) m' v (by omega) (by omega) (by omega) hg (by rw[h0];rfl) h1 h2,←Nat.add_assoc];have hm1:mkd (opN o) v≤1:=by unfold mkd;split<;>omega
  exact ih fu _ (i+1) (got++[v]) (hr.step v) (fun u hu=>by rcases List.mem_append.1 hu with hu|hu;exact hg u hu;rw[List.mem_singleton.1 hu];exact h3) (by simp;omega) (by omega) (by omega) (by omega)
def lks(n:Nat)(f:Nat→Zat):List Zat:=(List.range (n+2)).map f
def updL(f:Nat→Zat)(k:Nat)(l:Zat):Nat→Zat:=fun j=>if j=k then l else f j
theorem ZsE(n:Nat)(f:Nat→Zat):(lks n f).length=n+2:=by simp[lks]
theorem Zyc{n:Nat}(f:Nat→Zat){k:Nat}(hk:k<n+2):(lks n f).getD k Zat.d=f k:=by
 simp[lks,List.getD_eq_getElem?_getD,hk]
theorem ZFA{n:Nat}(f:Nat→Zat){k:Nat}(hk:k<n+2)(l:Zat):(lks n f).set k l=lks n (updL f k l):=by
 apply List.ext_getElem
 ·simp[lks]
 ·intro i h1 h2;simp only[lks,List.length_set,List.length_map,List.length_range]at h1;simp only[lks,List.getElem_set,List.getElem_map,List.getElem_range,updL];by_cases h:k=i
  ·subst h;simp
  ·rw[if_neg h,if_neg (fun e=>h e.symm)]
theorem ZBl(f:Nat→Zat)(k:Nat)(l:Zat):updL f k l k=l:=if_pos rfl
theorem ZxF(f:Nat→Zat){k j:Nat}(l:Zat)(h:j≠k):updL f k l j=f j:=if_neg h
theorem ZBm(f:Nat→Zat)(k:Nat)(a:Zat):updL (updL f k a) k (f k)=f:=by
 funext j;unfold updL;split
 ·rename_i e;rw[e]
 ·rfl
def memM(inn out:Int)(bans:List Zab)(book:List Zac)(sh:List Zad)(n:Nat)(f:Nat→Zat):ZaC:=⟨inn,out,bans,book,sh,lks n f⟩
def Zkt:Zat:=⟨0,[]⟩
def Zjw:Zat:=⟨1,[]⟩
section
variable {inn out:Int} {bans:List Zab} {book:List Zac} {sh:List Zad} {n:Nat} {f:Nat→Zat} (hn1:1≤n) (hn8:n≤8) (hps:sh.length = n)
include hn1 hn8 hps
omit hn1 hn8 hps in
theorem ZpX{k:Nat}(hk:k<n+2)(m:ZaC)(hm:m.fLocks=lks n f):ZbU m (k:Int)=some (f k):=by
 unfold ZbU;rw[hm,ZsE,Zal,if_neg (by omega),Zal,if_neg (by omega),Zay (by omega),Int.toNat_natCast,Zyc f hk]
omit hps in
theorem Zrg{k:Nat}(hk:k<n+2)(kd:Int)(hkd:kd=1∨kd=3)(l:Zav)(a b:Int)(v:Zae)(mark:Bool):Zbj ⟨kd,(k:Int),l,a,b,v,mark⟩ (n:Int)=some true:=by
 have e:Zaw (n:Int) 1=(n:Int)+1:=ZfP (by omega) (by omega);unfold Zbj ZbI;rw[Zal,if_neg (by omega),Zal,if_neg (by omega),Zco];dsimp only;rcases hkd with rfl|rfl
 ·rw[if_pos rfl,e];simp only[show ((1:Int)==1)=true from rfl,cond_true,Zal];rw[if_pos (by omega),decide_eq_true (by omega)]
 ·rw[if_neg (by decide),e];simp only[show ((3:Int)==3)=true from rfl,cond_true,Zal];rw[if_pos (by omega),decide_eq_true (by omega)]
theorem Zzx{kd:Int}(hkd:kd=1){k:Nat}(hk:k<n+2)(hf:f k=Zkt)(mark:Bool):ZaS (memM inn out bans book sh n f) ⟨kd,(k:Int),locZ,0,0,valZ,mark⟩=some true:=by
 subst hkd;have hl:(((memM inn out bans book sh n f).fShards.length:Nat):Int)=(n:Int):=by rw[show (memM inn out bans book sh n f).fShards=sh from rfl,hps]
 unfold ZaS;rw[hl,Zrg hn1 hn8 hk 1 (.inl rfl),ZaL,ZpX hk _ rfl,ZaL,hf];rfl
theorem Zzy{kd:Int}(hkd:kd=3){k:Nat}(hk:k<n+2)(mark:Bool):ZaS (memM inn out bans book sh n f) ⟨kd,(k:Int),locZ,0,0,valZ,mark⟩=some true:=by
 subst hkd;have hl:(((memM inn out bans book sh n f).fShards.length:Nat):Int)=(n:Int):=by rw[show (memM inn out bans book sh n f).fShards=sh from rfl,hps]
 unfold ZaS;rw[hl,Zrg hn1 hn8 hk 3 (.inr rfl),ZaL,ZpX hk _ rfl,ZaL];rfl
omit hn1 hn8 hps in
theorem ZEE{k:Nat}(hk:k<n+2)(hn:n≤8)(m:ZaC)(hm:m.fLocks=lks n f)(l:Zat):ZcI m (k:Int) l=some { m with fLocks:=lks n (updL f k l) }:=by
 unfold ZcI;rw[List.nil_append,hm,ZsE,Zal,if_pos (by omega),Zal,if_pos (by omega),Zay ⟨by omega,by unfold maxLen;omega⟩,Zay (by omega),Int.toNat_natCast,ZFA f hk]
theorem ZFN{k:Nat}(hk:k<n+2)(hf:f k=Zkt)(mark:Bool):ZaR (memM inn out bans book sh n f) ⟨1,(k:Int),locZ,0,0,valZ,mark⟩ 0=some (memM inn out bans book sh n (updL f k Zjw),valZ):=by
 have e:Zaw (0:Int) 1=1:=rfl;unfold ZaR;rw[Zzx hn1 hn8 hps rfl hk hf,ZaL,Bool.not_true,cond_false];dsimp only;rw[ZpX hk _ rfl,ZaL,Zco,if_pos rfl,hf,e,ZEE hk hn8 _ rfl,ZaL];rfl
theorem ZFP{k:Nat}(hk:k<n+2)(sr:List Int)(hf:f k=⟨1,sr⟩)(mark:Bool):ZaR (memM inn out bans book sh n f) ⟨3,(k:Int),locZ,0,0,valZ,mark⟩ 0=some (memM inn out bans book sh n (updL f k ⟨0,sr⟩),valZ):=by
 have e:Zaw (0:Int) 1=1:=rfl;unfold ZaR;rw[Zzy hn1 hn8 hps rfl hk,ZaL,Bool.not_true,cond_false];dsimp only;rw[ZpX hk _ rfl,ZaL,Zco,if_neg (by decide),Zco,if_neg (by decide),Zco,if_pos rfl,hf,e];simp only[show ((1:Int)==1)=true from rfl,cond_true];rw[ZEE hk hn8 _ rfl,ZaL];rfl
end
theorem Zsy{n:Int}(h1 : -9223372036854775808≤n)(h2:n≤9223372036854775807):okI .i64 n:=by
 simp only[okI,Lit.wf,IntKind.min,IntKind.max,IntKind.bits,IntKind.signed];simp;omega
theorem okZ:okI .i64 0:=by rfl
theorem Zrq:gv0 valZ:=by
 refine⟨?_,by simp[valZ],by simp[valZ]⟩;refine⟨okZ,?_,⟨by simp[valZ,maxLen],by simp[valZ]⟩,⟨by simp[valZ,maxLen],by simp[valZ]⟩,trivial⟩;exact⟨⟨⟨trivial,rfl,rfl,trivial⟩,okZ,trivial⟩,trivial,okZ,⟨okZ,okZ,trivial⟩,okZ,okZ,trivial⟩
def bn(b:Bool):Nat:=if b=true then 1 else 0
theorem ZxZ(kd k:Int)(hkd:kd≠7)(mark:Bool)(v:Zae):mkd ⟨kd,k,locZ,0,0,valZ,mark⟩ v=bn mark:=by
 unfold mkd bn;cases mark<;>simp[hkd]
section
variable {inn out:Int} {bans:List Zab} {book:List Zac} {sh:List Zad} {n:Nat} {f:Nat→Zat} (hn1:1≤n) (hn8:n≤8) (hps:sh.length = n)
include hn1 hn8 hps
theorem ZvK{k:Nat}(hk:k<n+2)(hf:f k=Zkt)(mark:Bool):Ex (keyP 1 (k:Int) mark) (memM inn out bans book sh n f) () (memM inn out bans book sh n (updL f k Zjw)) 1 (bn mark):=by
 have:=Ex.ask (o:=⟨1,(k:Int),locZ,0,0,valZ,mark⟩) (k:=fun _=>.ret ()) (Zzx (inn:=inn) (out:=out) (bans:=bans) (book:=book) hn1 hn8 hps rfl hk hf mark) (ZFN hn1 hn8 hps hk hf mark) Zrq (.ret () _ 0);rw[show opN ⟨1,(k:Int),locZ,0,0,valZ,mark⟩=⟨1,(k:Int),locZ,0,0,valZ,mark⟩from rfl,ZxZ 1 _ (by decide)]at this;exact this
theorem ZGd{k:Nat}(hk:k<n+2)(sr:List Int)(hf:f k=⟨1,sr⟩)(mark:Bool):Ex (keyP 3 (k:Int) mark) (memM inn out bans book sh n f) () (memM inn out bans book sh n (updL f k ⟨0,sr⟩)) 1 (bn mark):=by
 have:=Ex.ask (o:=⟨3,(k:Int),locZ,0,0,valZ,mark⟩) (k:=fun _=>.ret ()) (Zzy (inn:=inn) (out:=out) (bans:=bans) (book:=book) (f:=f) hn1 hn8 hps rfl hk mark) (ZFP hn1 hn8 hps hk sr hf mark) Zrq (.ret () _ 0);rw[show opN ⟨3,(k:Int),locZ,0,0,valZ,mark⟩=⟨3,(k:Int),locZ,0,0,valZ,mark⟩from rfl,ZxZ 3 _ (by decide)]at this;exact this
omit hps in
theorem Zwb(k:Int)(mark:Bool):Zbj ⟨8,k,locZ,0,0,valZ,mark⟩ (n:Int)=some true:=by
 unfold Zbj ZbI Zcg;rw[Zal,if_neg (by omega),Zal,if_neg (by omega)];rfl
theorem ZGc(mark:Bool):Ex (keyP 8 0 mark) (memM inn out bans book sh n f) () (memM inn out bans book sh n f) 1 (bn mark):=by
 have hl:(((memM inn out bans book sh n f).fShards.length:Nat):Int)=(n:Int):=by rw[show (memM inn out bans book sh n f).fShards=sh from rfl,hps]
 have h0:ZbU (memM inn out bans book sh n f) 0=some (f 0):=ZpX (k:=0) (by omega) _ rfl;have hm:ZaS (memM inn out bans book sh n f) ⟨8,0,locZ,0,0,valZ,mark⟩=some true:=by
  unfold ZaS;rw[hl,Zwb hn1 hn8,ZaL,h0,ZaL];rfl
 have hd:ZaR (memM inn out bans book sh n f) ⟨8,0,locZ,0,0,valZ,mark⟩ 0=some (memM inn out bans book sh n f,valZ):=by
  unfold ZaR;rw[hm,ZaL,Bool.not_true,cond_false];dsimp only;rw[h0,ZaL];rfl
 have:=Ex.ask (o:=⟨8,0,locZ,0,0,valZ,mark⟩) (k:=fun _=>.ret ()) hm hd Zrq (.ret () _ 0);rw[show opN ⟨8,0,locZ,0,0,valZ,mark⟩=⟨8,0,locZ,0,0,valZ,mark⟩from rfl,ZxZ 8 _ (by decide)]at this;exact this
end
theorem Zpu{n:Nat}(hn1:1≤n)(hn8:n≤8)(l:Zav)(h1:1≤l.fKind)(h6:l.fKind≤6)(hs:5≤l.fKind→0≤l.fShard∧l.fShard<(n:Int))(ht:6≤l.fKind→0≤l.fSlot):Zbm l (n:Int)=some true:=by
 unfold Zbm;rw[Zal,if_neg (by omega),Zal,if_neg (by omega),Zal,if_neg (by omega),Zal,if_neg (by omega),Zal];by_cases h5:l.fKind<5
 ·rw[if_pos h5,Zal,if_pos (by omega)]
 ·have:=hs (by omega);rw[if_neg h5,Zal,if_pos (by omega),Zal,if_pos (by omega),Zal];by_cases h6':l.fKind<6
  ·rw[if_pos h6']
  ·rw[if_neg h6',decide_eq_true (ht (by omega))]
theorem ZEL{n:Nat}(hn1:1≤n)(hn8:n≤8){i:Nat}(hi:i<n):Zbm ⟨5,(i:Int),0⟩ (n:Int)=some true:=
 Zpu hn1 hn8 _ (show (1:Int)≤5 by decide) (show (5:Int)≤6 by decide) (fun _=>⟨Int.natCast_nonneg _,by show (i:Int)<n;omega⟩) (fun h=>absurd h (show ¬(6:Int)≤5 by decide))
theorem ZEK{n:Nat}(hn1:1≤n)(hn8:n≤8){i:Nat}(hi:i<n)(j:Nat):Zbm ⟨6,(i:Int),(j:Int)⟩ (n:Int)=some true:=
 Zpu hn1 hn8 _ (show (1:Int)≤6 by decide) (show (6:Int)≤6 by decide) (fun _=>⟨Int.natCast_nonneg _,by show (i:Int)<n;omega⟩) (fun _=>Int.natCast_nonneg _)
section
variable {inn out:Int} {bans:List Zab} {book:List Zac} {sh:List Zad} {n:Nat} {f:Nat→Zat} (hn1:1≤n) (hn8:n≤8) (hps:sh.length = n)
include hn1 hn8 hps
theorem ZsD{o:ZaE}(hr:Zbj o (n:Int)=some true)(h0:o.fLock=0)(h1:o.fKind≠1)(h2:o.fKind≠2):ZaS (memM inn out bans book sh n f) o=some true:=by
 have hl:(((memM inn out bans book sh n f).fShards.length:Nat):Int)=(n:Int):=by rw[show (memM inn out bans book sh n f).fShards=sh from rfl,hps]
 have hk:ZbU (memM inn out bans book sh n f) 0=some (f 0):=ZpX (k:=0) (by omega) _ rfl;have e1:(o.fKind != 1)=true:=by rw[bne_iff_ne];exact h1
 have e2:(o.fKind != 2)=true:=by rw[bne_iff_ne];exact h2
 unfold ZaS;rw[hl,hr,ZaL,Bool.not_true,cond_false,h0,hk,ZaL,e1,cond_true,e2,cond_true]
theorem ZFO{l:Zav}(hp:Zbm l (n:Int)=some true){v:Zae}(hL:Zdc (memM inn out bans book sh n f) l=some v) :
  ZaS (memM inn out bans book sh n f) ⟨5,0,l,0,0,valZ,false⟩=some true∧ZaR (memM inn out bans book sh n f) ⟨5,0,l,0,0,valZ,false⟩ 0=some (memM inn out bans book sh n f,v):=by
 have hr:Zbj ⟨5,0,l,0,0,valZ,false⟩ (n:Int)=some true:=by
  unfold Zbj ZbI Zcg;rw[Zal,if_neg (by omega),Zal,if_neg (by omega)];show (Zbm l (n:Int)).bind (fun x1=>some x1)=some true;rw[hp];rfl
 have hm:=ZsD (inn:=inn) (out:=out) (bans:=bans) (book:=book) (f:=f) hn1 hn8 hps hr rfl (by show (5:Int)≠1;decide) (by show (5:Int)≠2;decide);have hk:ZbU (memM inn out bans book sh n f) 0=some (f 0):=ZpX (k:=0) (by omega) _ rfl;refine⟨hm,?_⟩;unfold ZaR;rw[hm,ZaL,Bool.not_true,cond_false];dsimp only;rw[hk,ZaL];show ((Zdc (memM inn out bans book sh n f) l).bind fun x10=>some (memM inn out bans book sh n f,x10))=_;rw[hL];rfl
theorem ZtB{l:Zav}(hl:locN l=l)(hp:Zbm l (n:Int)=some true){v:Zae}(hL:Zdc (memM inn out bans book sh n f) l=some v)(hg:gv0 v):Ex (Zmn l) (memM inn out bans book sh n f) v (memM inn out bans book sh n f) 1 0:=by
 obtain⟨h1,h2⟩:=ZFO hn1 hn8 hps hp hL;have e:opN ⟨5,0,l,0,0,valZ,false⟩=⟨5,0,l,0,0,valZ,false⟩:=by
  show (⟨5,0,locN l,0,0,valZ,false⟩ : ZaE)=_;rw[hl]
 have:=Ex.ask (o:=⟨5,0,l,0,0,valZ,false⟩) (k:=.ret) (by rw[e];exact h1) (by rw[e];exact h2) hg (.ret v _ 0);have hm:mkd (opN ⟨5,0,l,0,0,valZ,false⟩) v=0:=by rw[e];simp[mkd]
 rw[hm]at this;exact this
theorem ZEz(k:Int)(hk:k=1∨k=2)(hi:okI .i64 (if k=1 then inn else out)):Ex (Zmn ⟨k,0,0⟩) (memM inn out bans book sh n f) ⟨if k=1 then inn else out,ZkL,[],[]⟩ (memM inn out bans book sh n f) 1 0:=by
 refine ZtB hn1 hn8 hps (by rcases hk with rfl|rfl<;>rfl) (Zpu hn1 hn8 _ (by show 1≤k;omega) (by show k≤6;omega) (fun h=>by have:5≤k:=h;omega) (fun h=>by have:6≤k:=h;omega)) ?_ ⟨⟨hi,Zrq.1.2⟩,by simp,by simp⟩;rcases hk with rfl|rfl<;>rfl
theorem ZyV(h1:bans.length≤800)(h2:∀b∈bans,b.ok):Ex (Zmn ⟨3,0,0⟩) (memM inn out bans book sh n f) ⟨0,ZkL,bans,[]⟩ (memM inn out bans book sh n f) 1 0:=by
 refine ZtB hn1 hn8 hps rfl (Zpu hn1 hn8 _ (by decide) (by decide) (fun h=>absurd h (by decide)) (fun h=>absurd h (by decide))) rfl ⟨⟨okZ,Zrq.1.2.1,⟨by show bans.length≤maxLen;unfold maxLen;omega,h2⟩,Zrq.1.2.2.2⟩,h1,by simp⟩
theorem ZyU(h1:book.length≤800)(h2:∀b∈book,b.ok):Ex (Zmn ⟨4,0,0⟩) (memM inn out bans book sh n f) ⟨0,ZkL,[],book⟩ (memM inn out bans book sh n f) 1 0:=by
 refine ZtB hn1 hn8 hps rfl (Zpu hn1 hn8 _ (by decide) (by decide) (fun h=>absurd h (by decide)) (fun h=>absurd h (by decide))) rfl ⟨⟨okZ,Zrq.1.2.1,Zrq.1.2.2.1,⟨by show book.length≤maxLen;unfold maxLen;omega,h2⟩,trivial⟩,by simp,h1⟩
theorem ZAb{i:Nat}(hi:i<n){l r:List Zaa}(hs:sh.getD i Zad.d=⟨(l.length:Int),l++r⟩)(hok:∀p∈l,p.ok):∀(k j:Nat)(w:List Zaa),j+k≤l.length →
  Ex (Zoa (i:Int) k j w) (memM inn out bans book sh n f) (w++(l.drop j).take k) (memM inn out bans book sh n f) k 0
 | 0,j,w,h=>by
  have:w++(l.drop j).take 0=w:=by simp
  rw[this]
  exact .ret _ _ _
 |k+1,j,w,h=>by
  have hj:j<l.length:=by omega
  have hv:Ex (Zmn ⟨6,(i:Int),(j:Int)⟩) (memM inn out bans book sh n f) ⟨0,l.getD j Zaa.d,[],[]⟩ (memM inn out bans book sh n f) 1 0:=by
   refine ZtB hn1 hn8 hps rfl (ZEK hn1 hn8 hi j) ?_ ⟨⟨okZ,hok _ (Zhd l _ j hj),Zrq.1.2.2⟩,by simp,by simp⟩;unfold Zdc;show (need (0≤(i:Int)∧(i:Int)<(((memM inn out bans book sh n f).fShards.length:Nat):Int)) _)=_;rw[Zay ⟨Int.natCast_nonneg _,by show (i:Int)<((sh.length:Nat):Int);omega⟩];simp only[Int.toNat_natCast];rw[show (memM inn out bans book sh n f).fShards=sh from rfl];simp only[hs];have hlen:(l++r).length=l.length+r.length:=List.length_append;rw[Zal,if_pos (by omega),Zay ⟨Int.natCast_nonneg _,by omega⟩];have:(l++r).getD j Zaa.d=l.getD j Zaa.d:=by
    simp[List.getD_eq_getElem?_getD,List.getElem?_append_left hj]
   rw[this]
  have ih:=ZAb hi hs hok k (j+1) (w++[l.getD j Zaa.d]) (by omega);have e:w++[l.getD j Zaa.d]++(l.drop (j+1)).take k=w++(l.drop j).take (k+1):=by
   rw[ZfK l Zaa.d j hj];simp
  rw[e]at ih;unfold Zoa;exact hv.seq ih (by omega) rfl
theorem ZGb{i:Nat}(hi:i<n){l r:List Zaa}(hs:sh.getD i Zad.d=⟨(l.length:Int),l++r⟩)(hok:∀p∈l,p.ok)(hl:l.length≤800):Ex (Zsm (i:Int)) (memM inn out bans book sh n f) l (memM inn out bans book sh n f) (l.length+1) 0:=by
 have hv:Ex (Zmn ⟨5,(i:Int),0⟩) (memM inn out bans book sh n f) ⟨(l.length:Int),ZkL,[],[]⟩ (memM inn out bans book sh n f) 1 0:=by
  refine ZtB hn1 hn8 hps rfl (ZEL hn1 hn8 hi) ?_ ⟨⟨?_,Zrq.1.2⟩,by simp,by simp⟩
  ·unfold Zdc;show (need (0≤(i:Int)∧(i:Int)<(((memM inn out bans book sh n f).fShards.length:Nat):Int)) _)=_;rw[Zay ⟨Int.natCast_nonneg _,by show (i:Int)<((sh.length:Nat):Int);omega⟩,Int.toNat_natCast,show (memM inn out bans book sh n f).fShards=sh from rfl,hs];rfl
  ·show okI .i64 (l.length:Int);exact Zsy (by omega) (by omega)
 have h2:=ZAb (inn:=inn) (out:=out) (bans:=bans) (book:=book) (f:=f) hn1 hn8 hps hi hs hok l.length 0 [] (by omega);rw[List.drop_zero,List.take_length,List.nil_append]at h2;unfold Zsm;exact hv.seq (by simpa using h2) (by omega) rfl
theorem ZrX{l:Zav}{v:Zae}(hl:locN l=l)(hv:valN l.fKind v=v)(hp:Zbm l (n:Int)=some true)(h2:2<l.fKind){m':ZaC}(hS:ZcR (memM inn out bans book sh n f) l v=some m')(mark:Bool):Ex (ZkJ l v mark) (memM inn out bans book sh n f) () m' 1 (bn mark):=by
 have e:opN ⟨6,0,l,0,0,v,mark⟩=⟨6,0,l,0,0,v,mark⟩:=by
  show (⟨6,0,locN l,0,0,valN l.fKind v,mark⟩ : ZaE)=_;rw[hl,hv]
 have hr:Zbj ⟨6,0,l,0,0,v,mark⟩ (n:Int)=some true:=by
  unfold Zbj ZbI Zcg;rw[Zal,if_neg (by omega),Zal,if_neg (by omega)];show ((Zbm l (n:Int)).bind fun x2=>bif x2 then some (decide (l.fKind>2))else some false)=some true;rw[hp,ZaL,cond_true,decide_eq_true h2]
 have hm:=ZsD (inn:=inn) (out:=out) (bans:=bans) (book:=book) (f:=f) hn1 hn8 hps hr rfl (by show (6:Int)≠1;decide) (by show (6:Int)≠2;decide);have hk:ZbU (memM inn out bans book sh n f) 0=some (f 0):=ZpX (k:=0) (by omega) _ rfl;have hd:ZaR (memM inn out bans book sh n f) ⟨6,0,l,0,0,v,mark⟩ 0=some (m',valZ):=by
  unfold ZaR;rw[hm,ZaL,Bool.not_true,cond_false];dsimp only;rw[hk,ZaL];show ((ZcR (memM inn out bans book sh n f) l v).bind fun x11=>some (x11,valZ))=_;rw[hS];rfl
 have:=Ex.ask (o:=⟨6,0,l,0,0,v,mark⟩) (k:=fun _=>.ret ()) (by rw[e];exact hm) (by rw[e];exact hd) Zrq (.ret () _ 0);have hm:mkd (opN ⟨6,0,l,0,0,v,mark⟩) valZ=bn mark:=by rw[e];cases mark<;>simp[mkd,bn]
 rw[hm]at this;exact this
theorem ZxA(l:List Zab)(mark:Bool):Ex (ZkJ ⟨3,0,0⟩ ⟨0,ZkL,l,[]⟩ mark) (memM inn out bans book sh n f) () (memM inn out l book sh n f) 1 (bn mark):=
 ZrX hn1 hn8 hps rfl rfl (Zpu hn1 hn8 _ (by decide) (by decide) (fun h=>absurd h (by decide)) (fun h=>absurd h (by decide))) (by decide) rfl mark
theorem Zxz(l:List Zac)(mark:Bool):Ex (ZkJ ⟨4,0,0⟩ ⟨0,ZkL,[],l⟩ mark) (memM inn out bans book sh n f) () (memM inn out bans l sh n f) 1 (bn mark):=
 ZrX hn1 hn8 hps rfl rfl (Zpu hn1 hn8 _ (by decide) (by decide) (fun h=>absurd h (by decide)) (fun h=>absurd h (by decide))) (by decide) rfl mark
omit hn1 in
theorem ZvS{i:Nat}(hi:i<n){sz:Int}{S:List Zaa}(hs:sh.getD i Zad.d=⟨sz,S⟩)(hS:S.length≤10000)(j:Nat)(hj:j≤S.length)(p:Zaa) :
  ZcR (memM inn out bans book sh n f) ⟨6,(i:Int),(j:Int)⟩ ⟨0,p,[],[]⟩=some (memM inn out bans book (sh.set i ⟨sz,if j<S.length then S.set j p else S++[p]⟩) n f):=by
 unfold ZcR;simp only[List.nil_append];show (need ((memM inn out bans book sh n f).fShards.length * 32≤140737488355328∧(memM inn out bans book sh n f).fShards.length≤maxLen) _)=_;rw[show (memM inn out bans book sh n f).fShards=sh from rfl];rw[Zay ⟨by omega,by unfold maxLen;omega⟩,Zay ⟨Int.natCast_nonneg _,by omega⟩];show (bif(decide ((j:Int)<_))then _ else _)=_;simp only[Int.toNat_natCast,hs];rw[Zal];by_cases h:j<S.length
 ·rw[if_pos (by omega),if_pos h,Zay ⟨by omega,by unfold maxLen;omega⟩,Zay ⟨Int.natCast_nonneg _,by omega⟩];rfl
 ·have e:j=S.length:=by omega
  subst e;rw[if_neg (by omega),if_neg h];simp only[beq_self_eq_true,cond_true];rw[Zay ⟨by omega,by unfold maxLen;omega⟩,Zay ⟨by simp;omega,by simp[maxLen];omega⟩];rfl
theorem Zrl{i:Nat}(hi:i<n){sz:Int}{S:List Zaa}(hs:sh.getD i Zad.d=⟨sz,S⟩)(hS:S.length≤10000)(j:Nat)(hj:j≤S.length)(p:Zaa)(mark:Bool) :
  Ex (ZkJ ⟨6,(i:Int),(j:Int)⟩ ⟨0,p,[],[]⟩ mark) (memM inn out bans book sh n f) () (memM inn out bans book (sh.set i ⟨sz,if j<S.length then S.set j p else S++[p]⟩) n f) 1 (bn mark):=
 ZrX hn1 hn8 hps rfl rfl (ZEK hn1 hn8 hi j) (show (2:Int)<6 by decide) (ZvS hn8 hps hi hs hS j hj p) mark
theorem Zxy{i:Nat}(hi:i<n){sz:Int}{S:List Zaa}(hs:sh.getD i Zad.d=⟨sz,S⟩)(k:Int)(mark:Bool) :
  Ex (ZkJ ⟨5,(i:Int),0⟩ ⟨k,ZkL,[],[]⟩ mark) (memM inn out bans book sh n f) () (memM inn out bans book (sh.set i ⟨k,S⟩) n f) 1 (bn mark):=by
 refine ZrX hn1 hn8 hps rfl rfl (ZEL hn1 hn8 hi) (show (2:Int)<5 by decide) ?_ mark;unfold ZcR;simp only[List.nil_append];show (need ((memM inn out bans book sh n f).fShards.length * 32≤140737488355328∧(memM inn out bans book sh n f).fShards.length≤maxLen) _)=_;rw[show (memM inn out bans book sh n f).fShards=sh from rfl];rw[Zay ⟨by omega,by unfold maxLen;omega⟩,Zay ⟨Int.natCast_nonneg _,by omega⟩];simp only[Int.toNat_natCast,hs];rfl
end
theorem ZrG{α:Type}(l:List α)(d:α){i:Nat}(hi:i<l.length)(x:α):(l.set i x).getD i d=x:=by simp[List.getD_eq_getElem?_getD,hi]
def Zjn(now S0:List Zaa)(j:Nat):List Zaa:=now.take j++S0.drop j
theorem Zub{now S0:List Zaa}{j:Nat}(hj:j≤now.length):(Zjn now S0 j).length=j+(S0.length-j):=by simp[Zjn];omega
theorem ZxM{now S0:List Zaa}{j:Nat}(hj:j<now.length):(if j<(Zjn now S0 j).length then(Zjn now S0 j).set j (now.getD j Zaa.d)else Zjn now S0 j++[now.getD j Zaa.d])=Zjn now S0 (j+1):=by
 have hl:=Zub (S0:=S0) (Nat.le_of_lt hj);have ht:(now.take j).length=j:=by simp;omega
 have e1:now.take (j+1)=now.take j++[now.getD j Zaa.d]:=by rw[List.take_succ_eq_append_getElem hj,Zdk now _ j hj]
 by_cases h:j<S0.length
 ·rw[if_pos (by omega)];unfold Zjn;rw[ZfK S0 Zaa.d j h,e1,List.set_append_right _ _ (by omega),ht,Nat.sub_self];simp
 ·rw[if_neg (by omega)];unfold Zjn;rw[e1,List.drop_eq_nil_of_le (by omega),List.drop_eq_nil_of_le (by omega)];simp
theorem ZxN{was r now:List Zaa}{j:Nat}(hj:j<now.length)(hb:wrB was now j=false):Zjn now (was++r) j=Zjn now (was++r) (j+1):=by
 unfold wrB at hb;simp only[Bool.or_eq_false_iff,decide_eq_false_iff_not,Bool.not_eq_false',decide_eq_true_eq]at hb;obtain⟨h1,h2⟩:=hb;have hw:j<was.length:=by omega
 have hd:(was++r).getD j Zaa.d=was.getD j Zaa.d:=by simp[List.getD_eq_getElem?_getD,List.getElem?_append_left hw]
 have e1:now.take (j+1)=now.take j++[now.getD j Zaa.d]:=by rw[List.take_succ_eq_append_getElem hj,Zdk now _ j hj]
 unfold Zjn;rw[ZfK (was++r) Zaa.d j (by simp;omega),e1,hd,h2];simp
section
variable {inn out:Int} {bans:List Zab} {book:List Zac} {n:Nat} {f:Nat→Zat} (hn1:1≤n) (hn8:n≤8)
include hn1 hn8
theorem Ztz{i:Nat}(hi:i<n)(was r now:List Zaa)(hlen:(was++r).length≤5000)(hnow:now.length≤5000)(sz:Int):∀(k j:Nat)(sh:List Zad),j+k=now.length→sh.length=n→sh.getD i Zad.d=⟨sz,Zjn now (was++r) j⟩ →
  Ex (Zpo (i:Int) now (((List.range' j k).filter (wrB was now)).map fun(i:Nat)=>(i:Int))) (memM inn out bans book sh n f) () (memM inn out bans book (sh.set i ⟨sz,Zjn now (was++r) now.length⟩) n f) k 0
 | 0,j,sh,hj,hps,hs=>by
  have e:j=now.length:=by omega
  subst e
  have:sh.set i ⟨sz,Zjn now (was++r) now.length⟩=sh:=by
   rw[←hs];apply List.ext_getElem
   ·simp
   ·intro q h1 h2;rw[List.getElem_set];split
    ·rename_i e;subst e;exact Zdk sh _ i h2
    ·rfl
  rw[this];exact .ret _ _ _
 |k+1,j,sh,hj,hps,hs=>by
  have hjl:j<now.length:=by omega
  rw[List.range'_succ];cases hb:wrB was now j with
  |true=>
   rw[List.filter_cons_of_pos hb,List.map_cons];unfold Zpo;have hS:=Zub (S0:=was++r) (Nat.le_of_lt hjl);have h1:=Zrl (inn:=inn) (out:=out) (bans:=bans) (book:=book) (f:=f) hn1 hn8 hps hi hs (by omega) j (by omega) (now.getD j Zaa.d) false;rw[ZxM hjl]at h1;have h2:=Ztz hi was r now hlen hnow sz k (j+1) (sh.set i ⟨sz,Zjn now (was++r) (j+1)⟩) (by omega) (by simpa using hps) (ZrG sh _ (by omega) _);rw[List.set_set]at h2;have e:now.getD ((j:Int)).toNat Zaa.d=now.getD j Zaa.d:=by rw[Int.toNat_natCast]
   rw[e];exact h1.seq h2 (by omega) rfl
  |false=>
   rw[List.filter_cons_of_neg (by simp[hb])];rw[ZxN hjl hb]at hs;exact(Ztz hi was r now hlen hnow sz k (j+1) sh (by omega) hps hs).more (by omega)
theorem ZAa{sh:List Zad}(hps:sh.length=n){i:Nat}(hi:i<n)(was r now:List Zaa)(hlen:(was++r).length≤5000)(hnow:now.length≤5000)(hs:sh.getD i Zad.d=⟨(was.length:Int),was++r⟩) :
  Ex (ZpH (i:Int) was now) (memM inn out bans book sh n f) () (memM inn out bans book (sh.set i ⟨(now.length:Int),now++(was++r).drop now.length⟩) n f) (now.length+1) 0:=by
 have h1:=Ztz (inn:=inn) (out:=out) (bans:=bans) (book:=book) (f:=f) hn1 hn8 hi was r now hlen hnow (was.length:Int) now.length 0 sh (by omega) hps (by rw[hs];simp[Zjn]);have e:Zjn now (was++r) now.length=now++(was++r).drop now.length:=by simp[Zjn]
 rw[e]at h1;unfold ZpH wrL;rw[List.range_eq_range'];by_cases h:was.length=now.length
 ·rw[if_pos h];rw[h]at h1;exact h1.seq (.ret _ _ 0) (by omega) rfl
 ·rw[if_neg h];have h2:=Zxy (inn:=inn) (out:=out) (bans:=bans) (book:=book) (f:=f) (sh:=sh.set i ⟨(was.length:Int),now++(was++r).drop now.length⟩) hn1 hn8 (by simpa using hps) hi (ZrG sh _ (by omega) _) (now.length:Int) false;rw[List.set_set]at h2;exact h1.seq h2 (by omega) rfl
theorem ZGa{sh:List Zad}(hps:sh.length=n)(k:Int)(hk:k=1∨k=2)(now:Int)(mark:Bool):Ex (ZFf k (if k=1 then inn else out) now mark) (memM inn out bans book sh n f) true (memM (if k=1 then now else inn) (if k=1 then out else now) bans book sh n f) 1 (bn mark):=by
 have hr:∀old,Zbj ⟨7,0,⟨k,0,0⟩,old,now,valZ,mark⟩ (n:Int)=some true:=fun old=>by
  unfold Zbj ZbI Zcg;rw[Zal,if_neg (by omega),Zal,if_neg (by omega)];rcases hk with rfl|rfl<;>rfl
 have hm:=fun old=>ZsD (inn:=inn) (out:=out) (bans:=bans) (book:=book) (f:=f) hn1 hn8 hps (hr old) rfl (by show (7:Int)≠1;decide) (by show (7:Int)≠2;decide);have hl:ZbU (memM inn out bans book sh n f) 0=some (f 0):=ZpX (k:=0) (by omega) _ rfl;have hd:ZaR (memM inn out bans book sh n f) ⟨7,0,⟨k,0,0⟩,(if k=1 then inn else out),now,valZ,mark⟩ 0=some (memM (if k=1 then now else inn) (if k=1 then out else now) bans book sh n f,⟨1,ZkL,[],[]⟩):=by
  unfold ZaR;rw[hm,ZaL,Bool.not_true,cond_false];dsimp only;rw[hl,ZaL];rcases hk with rfl|rfl
  ·show (bif(inn==inn)then _ else _)=_;rw[beq_self_eq_true,cond_true];rfl
  ·show (bif(out==out)then _ else _)=_;rw[beq_self_eq_true,cond_true];rfl
 have e:∀old,opN ⟨7,0,⟨k,0,0⟩,old,now,valZ,mark⟩=⟨7,0,⟨k,0,0⟩,old,now,valZ,mark⟩:=fun old=>by rcases hk with rfl|rfl<;>rfl
 have hg1:gv0 ⟨1,ZkL,[],[]⟩:=⟨⟨rfl,Zrq.1.2⟩,Nat.zero_le _,Nat.zero_le _⟩;have:=Ex.ask (o:=⟨7,0,⟨k,0,0⟩,(if k=1 then inn else out),now,valZ,mark⟩) (k:=fun v=>.ret (v.fN==1)) (by rw[e];exact hm _) (by rw[e];exact hd) hg1 (.ret _ _ 0);rw[e]at this;have hmk:mkd ⟨7,0,⟨k,0,0⟩,(if k=1 then inn else out),now,valZ,mark⟩ ⟨1,ZkL,[],[]⟩=bn mark:=by cases mark<;>simp[mkd,bn]
 rw[hmk]at this;exact this
theorem ZDp{sh:List Zad}(hps:sh.length=n)(k:Int)(hk:k=1∨k=2)(hi:okI .i64 (if k=1 then inn else out))(by_:Int)(mark:Bool) :
  Ex (Zrp k by_ mark 1000000) (memM inn out bans book sh n f) () (memM (if k=1 then Zaw inn by_ else inn) (if k=1 then out else Zaw out by_) bans book sh n f) 2 (bn mark):=by
 unfold Zrp;refine(ZEz hn1 hn8 hps k hk hi).seq (s2:=1) (c2:=bn mark) ?_ (by omega) (by omega);dsimp only;have h:=ZGa (inn:=inn) (out:=out) (bans:=bans) (book:=book) (f:=f) hn1 hn8 hps k hk (Zaw (if k=1 then inn else out) by_) mark;have e1:memM (if k=1 then Zaw (if k=1 then inn else out) by_ else inn) (if k=1 then out else Zaw (if k=1 then inn else out) by_) bans book sh n f=memM (if k=1 then Zaw inn by_ else inn) (if k=1 then out else Zaw out by_) bans book sh n f:=by
  rcases hk with rfl|rfl<;>rfl
 rw[e1]at h;exact h.seq (.ret _ _ 0) (by omega) rfl
end
theorem Zwx{a:Int}(h:0≤a):∃n:Nat,a=n:=⟨a.toNat,by omega⟩
def ZeR(a:Zaj):Bool:=if a.fV6 then !(decide (a.fHi=0)&&decide (a.fLo / 4294967296=65535))else decide (a.fHi=0)&&decide (a.fLo<4294967296)
theorem ZGr(n:Nat)(h:n≤18446744073709551615):IntKind.u32.wrap (IntKind.u64.wrap (((BitVec.ofInt (IntKind.bits .u64) (n:Int)) &&& (BitVec.ofInt (IntKind.bits .u64) (4294967295:Int))).toNat:Int))=((n % 4294967296:Nat):Int):=by
 have:=ZDd n 4294967295 (by omega) (by omega);rw[show ((4294967295:Nat):Int)=(4294967295:Int)from rfl]at this;rw[this,show (4294967295:Nat)=2 ^ 32-1 from rfl,Nat.and_two_pow_sub_one_eq_mod];rw[show (2:Nat) ^ 32=4294967296 from rfl];have h1:n % 4294967296<4294967296:=Nat.mod_lt _ (by omega);rw[ZjH (by omega) (by omega)];simp only[IntKind.wrap,IntKind.bits,IntKind.signed];simp
theorem ZGf(n:Nat)(h:n<4294967296):ZmK ((n:Nat):Int)=some ⟨false,0,n⟩:=by
 unfold ZmK;rw[ZjH (by omega) (by omega)]
theorem ZmN(a:Zaj)(h:a.ok):Zfq a=some (ZeR a):=by
 obtain⟨v,hi,lo⟩:=a;obtain⟨_,h1,h2,_⟩:=h;have h1:=ZqL h1;have h2:=ZqL h2;simp only at h1 h2;obtain⟨n,rfl⟩:=Zwx h2.1;have hm:=ZGr n (by omega);have hlt:n % 4294967296<4294967296:=Nat.mod_lt _ (by omega);have hd:Int.fdiv (n:Int) (2 ^ (min (32:Int).toNat (IntKind.bits .u64)))=(n:Int) / 4294967296:=by
  rw[show (2:Int) ^ (min (32:Int).toNat (IntKind.bits .u64))=4294967296 from rfl,Int.fdiv_eq_ediv_of_nonneg _ (by omega)]
 cases v with
 |true=>
  simp only[Zfq,Zqn,ZeR,cond_true,hd,hm];have hb:∀(p q:Int),(p==q)=decide (p=q):=fun p q=>by rw[Bool.eq_iff_iff];simp
  have hv:=ZGf _ hlt;by_cases h3:hi=0
  ·by_cases h4:(n:Int) / 4294967296=65535
   ·rw[hb,hb,decide_eq_true h3,decide_eq_true h4,cond_true,cond_true,hv];simp
   ·rw[hb,hb,decide_eq_true h3,decide_eq_false h4,cond_true,cond_false];simp
  ·rw[hb,decide_eq_false h3,cond_false];simp
 |false=>
  simp only[Zfq,ZeR,cond_false,hm,ZGf _ hlt,Option.bind_some];congr 1;rw[Bool.eq_iff_iff];simp;constructor
  ·rintro ⟨h5,h6⟩;exact⟨h5.symm,by omega⟩
  ·rintro ⟨h5,h6⟩;exact⟨h5.symm,by omega⟩
theorem Zmf(a:Zaj)(h:a.ok):ZbG a=some (ZeR a):=by
 obtain⟨v,hi,lo⟩:=a;obtain⟨_,h1,h2,_⟩:=h;have h1:=ZqL h1;have h2:=ZqL h2;simp only at h1 h2;have hd:IntKind.u64.wrap (Int.tdiv lo 4294967296)=lo / 4294967296:=by
  rw[Int.tdiv_eq_ediv_of_nonneg h2.1];exact ZjH (by omega) (by omega)
 cases v with
 |true=>
  simp only[ZbG,ZeR,hd,Bool.not_true,cond_false,if_true];generalize lo / 4294967296=q;simp only[Bool.cond_eq_ite,beq_iff_eq,bne_iff_ne,ne_eq,decide_eq_true_eq,Bool.not_eq_true',Bool.not_eq_false',decide_eq_false_iff_not]
  repeat' split
  all_goals first|rfl | (rw[Option.some.injEq,Bool.eq_iff_iff];simp only[Bool.and_eq_true,Bool.not_eq_true',Bool.not_eq_false',Bool.and_eq_false_iff,decide_eq_true_eq,decide_eq_false_iff_not,beq_iff_eq,bne_iff_ne,ne_eq,iff_true,iff_false,true_iff,false_iff,Bool.false_eq_true,Bool.true_eq_false,not_true_eq_false,not_false_eq_true];omega)
 |false=>
  simp only[ZbG,ZeR,Bool.not_false,cond_true,Bool.false_eq_true,if_false];simp only[Bool.cond_eq_ite,beq_iff_eq,bne_iff_ne,ne_eq,decide_eq_true_eq,Bool.not_eq_true',Bool.not_eq_false',decide_eq_false_iff_not]
  repeat' split
  all_goals first|rfl | (rw[Option.some.injEq,Bool.eq_iff_iff];simp only[Bool.and_eq_true,Bool.not_eq_true',Bool.not_eq_false',Bool.and_eq_false_iff,decide_eq_true_eq,decide_eq_false_iff_not,beq_iff_eq,bne_iff_ne,ne_eq,iff_true,iff_false,true_iff,false_iff,Bool.false_eq_true,Bool.true_eq_false,not_true_eq_false,not_false_eq_true];omega)
theorem Zzj(a b:Zaj):ZdB a b=some (cmpA a b):=by
 obtain⟨v,hi,lo⟩:=a;obtain⟨v',hi',lo'⟩:=b;simp only[ZdB,ZdI,ZdH,cmpA,famA,cmpI,orI,Zaj.mk.injEq];simp only[Bool.cond_eq_ite,bne_iff_ne,ne_eq,ite_not,decide_eq_true_eq,Bool.not_eq_true',beq_eq_false_iff_ne];cases v<;>cases v'<;>simp only[true_and,Bool.false_eq_true,Bool.true_eq_false,false_and,not_true_eq_false,not_false_eq_true,if_true,if_false,ite_true,ite_false,Bool.not_true,Bool.not_false]
 all_goals (repeat' split)<;>first|rfl|omega | (congr 1;omega)|simp_all
theorem Zzi(a b:Zas):ZdA a b=some (cmpN a b):=by
 simp only[ZdA,Zzj,Option.bind_some,cmpN,orI,cmpI];simp only[Bool.cond_eq_ite,bne_iff_ne,ne_eq,ite_not,decide_eq_true_eq,beq_iff_eq];generalize cmpA a.fAddr b.fAddr=c
 (repeat' split)<;>first|rfl|omega | (congr 1;omega)|simp_all
def ZjQ(a:Zag):Bool:=ZeR a.fAddr&&decide (1≤a.fPort)&&decide (a.fPort≤65535)
theorem ZAT(a:Zag)(h:a.ok):ZjZ a=some (ZjQ a):=by
 simp only[ZjZ,ZmN _ h.1,ZjQ,Option.bind_some];generalize ZeR a.fAddr=b;cases b<;>simp only[cond_true,cond_false,Bool.true_and,Bool.false_and];simp only[Bool.cond_eq_ite,beq_iff_eq,bne_iff_ne,ne_eq,decide_eq_true_eq,Bool.not_eq_true',Bool.not_eq_false',decide_eq_false_iff_not]
 repeat' split
 all_goals first|rfl | (rw[Option.some.injEq,Bool.eq_iff_iff];simp only[Bool.and_eq_true,Bool.not_eq_true',Bool.not_eq_false',Bool.and_eq_false_iff,decide_eq_true_eq,decide_eq_false_iff_not,beq_iff_eq,bne_iff_ne,ne_eq,iff_true,iff_false,true_iff,false_iff,Bool.false_eq_true,Bool.true_eq_false,not_true_eq_false,not_false_eq_true];omega)
theorem ZnZ(a:Zag)(h:a.ok):Zdt a=some (ZjQ a):=by
 simp only[Zdt,Zmf _ h.1,ZjQ,Option.bind_some];generalize ZeR a.fAddr=b;cases b<;>simp only[cond_true,cond_false,Bool.true_and,Bool.false_and];simp only[Bool.cond_eq_ite,beq_iff_eq,bne_iff_ne,ne_eq,decide_eq_true_eq,Bool.not_eq_true',Bool.not_eq_false',decide_eq_false_iff_not]
 repeat' split
 all_goals first|rfl | (rw[Option.some.injEq,Bool.eq_iff_iff];simp only[Bool.and_eq_true,Bool.not_eq_true',Bool.not_eq_false',Bool.and_eq_false_iff,decide_eq_true_eq,decide_eq_false_iff_not,beq_iff_eq,bne_iff_ne,ne_eq,iff_true,iff_false,true_iff,false_iff,Bool.false_eq_true,Bool.true_eq_false,not_true_eq_false,not_false_eq_true];omega)
def Zwa(e:Zac):Bool:=ZjQ e.fEnd&&decide (1≤e.fState)&&decide (e.fState≤3)&&decide (0≤e.fFails)&&decide (e.fFails≤1000)&&decide (0≤e.fNext)&&decide (e.fNext≤1099511627776)
theorem ZtG(e:Zac)(h:e.ok):Zfe e=some (Zwa e):=by
 simp only[Zfe,ZnZ _ h.1,Zwa,Option.bind_some];generalize ZjQ e.fEnd=b;cases b<;>simp only[cond_true,cond_false,Bool.true_and,Bool.false_and];simp only[Bool.cond_eq_ite,beq_iff_eq,bne_iff_ne,ne_eq,decide_eq_true_eq,Bool.not_eq_true',Bool.not_eq_false',decide_eq_false_iff_not]
 repeat' split
 all_goals first|rfl | (rw[Option.some.injEq,Bool.eq_iff_iff];simp only[Bool.and_eq_true,Bool.not_eq_true',Bool.not_eq_false',Bool.and_eq_false_iff,decide_eq_true_eq,decide_eq_false_iff_not,beq_iff_eq,bne_iff_ne,ne_eq,iff_true,iff_false,true_iff,false_iff,Bool.false_eq_true,Bool.true_eq_false,not_true_eq_false,not_false_eq_true];omega)
def cmpE(a b:Zag):Int:=orI (cmpA a.fAddr b.fAddr) (cmpI a.fPort b.fPort)
theorem ZuS(a b:Zag):ZcX a b=some (cmpE a b):=by
 simp only[ZcX,Zzj,Option.bind_some,cmpE,orI,cmpI];simp only[Bool.cond_eq_ite,bne_iff_ne,ne_eq,ite_not,decide_eq_true_eq,beq_iff_eq];generalize cmpA a.fAddr b.fAddr=c
 (repeat' split)<;>first|rfl|omega | (congr 1;omega)|simp_all
theorem ZCL{a b:Zag}:cmpE a b<0↔cmpA a.fAddr b.fAddr<0∨(a.fAddr=b.fAddr∧a.fPort<b.fPort):=by simp only[cmpE,ZBM,ZyI,Zqz]
theorem ZFT{a b:Zag}:0<cmpE a b↔0<cmpA a.fAddr b.fAddr∨(a.fAddr=b.fAddr∧b.fPort<a.fPort):=by simp only[cmpE,ZEM,ZCK,Zqz]
theorem Zqx{a b:Zag}:cmpE a b=0↔a=b:=by
 simp only[cmpE,Zzr,Zqw,Zqz];obtain⟨x,p⟩:=a;obtain⟨y,q⟩:=b;simp
theorem Zqy{a b:Zag}:0<cmpE a b↔cmpE b a<0:=by
 rw[ZFT,ZCL,ZCM];constructor<;>rintro (h|⟨h1,h2⟩)<;>first|exact .inl h|exact .inr ⟨h1.symm,h2⟩
theorem ZuE{a b c:Zag}(h1:cmpE a b<0)(h2:cmpE b c<0):cmpE a c<0:=by
 rw[ZCL]at *
 rcases h1 with h1|⟨h1,h3⟩<;>rcases h2 with h2|⟨h2,h4⟩
 ·exact .inl (ZuF h1 h2)
 ·exact .inl (h2 ▸ h1)
 ·exact .inl (h1 ▸ h2)
 ·exact .inr ⟨h1.trans h2,by omega⟩
def findS(l:List Zac)(e:Zag):Int:=ixOf (fun x=>decide (x.fEnd=e)) l 0
theorem ZDD(l:List Zac)(e:Zag)(hl:l.length≤maxLen):ZfH l e=some (findS l e):=by
 simp only[ZfH];rw[show ((0:Int))=((0:Nat):Int)from rfl];rw[ZmY l Zac.d (fun x=>decide (x.fEnd=e)) hl (fun fu i=>Zcr l fu i e) (fun i=>i) ?_ ?_ _ 0 (by omega) (by omega)]
 ·rfl
 ·intro fu i hi;simp only[Zcr,Zal];rw[if_pos (by omega),Zay ⟨by omega,by omega⟩];simp
 ·intro fu;simp only[Zcr,Zal];rw[if_neg (by omega)]
theorem ZEe(l:List Zac)(h:l.length≤10000):Zbn l=some l:=by
 unfold Zbn;rw[Zay ⟨by omega,ZpI (by omega)⟩]
def Zen(l:List Zac)(state:Int):Int:=((l.countP fun x=>decide (x.fState=state):Nat):Int)
theorem Zwh(l:List Zac)(state:Int)(hl:l.length≤maxLen):Zeh l state=some (Zen l state):=by
 simp only[Zeh];have:=ZqQ l Zac.d (fun x=>decide (x.fState=state)) hl (fun fu n i=>ZbN l state fu n i) (fun fu i n hi=>by
   simp only[ZbN,Zal];rw[if_pos (by omega),Zay ⟨by omega,by omega⟩];simp only[Bool.cond_eq_ite,beq_iff_eq,Int.toNat_natCast,decide_eq_true_eq]) (fun fu n=>by
   simp only[ZbN,Zal];rw[if_neg (by omega)]) ((((l.length:Nat):Int)-(0:Int)).toNat+2) 0 0 (by omega) (by omega) (by omega)
 simpa[Zen]using this
def ZzX:Option Zac→Zac→Bool|none,_=>true|some p,x=>decide (cmpE p.fEnd x.fEnd<0)
def Zzd:Option Zac→List Zac→Bool|_,[]=>true|p,x :: r=>Zwa x&&ZzX p x&&Zzd (some x) r
def ZBy(l:List Zac):Bool:=Zzd none l
def ZvZ:List Zac→List Zac→Bool|_,[]=>true|p,x :: r=>Zwa x&&p.all (fun y=>decide (cmpE y.fEnd x.fEnd<0))&&ZvZ (p++[x]) r
theorem ZvY:∀(r p:List Zac),p.Pairwise (fun a b=>cmpE a.fEnd b.fEnd<0)→ZvZ p r=Zzd p.getLast? r
 | [],p,_=>rfl
 |x :: r,p,hp=>by
  simp only[ZvZ,Zzd]
  have e:p.all (fun y=>decide (cmpE y.fEnd x.fEnd<0))=ZzX p.getLast? x:=by
   rcases List.eq_nil_or_concat p with rfl|⟨q,z,rfl⟩
   ·rfl
   ·rw[List.concat_eq_append]at hp ⊢;rw[List.getLast?_append,List.getLast?_singleton,Option.some_or,List.all_append];simp only[ZzX,List.all_cons,List.all_nil,Bool.and_true];by_cases hz:cmpE z.fEnd x.fEnd<0
    ·rw[decide_eq_true hz,Bool.and_true,List.all_eq_true];intro y hy;have:=(List.pairwise_append.1 hp).2.2 y hy z (by simp);exact decide_eq_true (ZuE this hz)
    ·rw[decide_eq_false hz,Bool.and_false]
  rw[e];cases ha:ZzX p.getLast? x
  ·simp
  ·rw[ZvY r (p++[x])]
   ·simp
   ·refine List.pairwise_append.2 ⟨hp,List.pairwise_singleton _ _,fun y hy z hz=>?_⟩;rw[List.mem_singleton.1 hz];rw[ha]at e;exact of_decide_eq_true (List.all_eq_true.1 e y hy)
theorem ZuT(l:List Zac)(h:l.length≤maxLen)(hok:∀x∈l,x.ok):Zfd l=some (ZBy l):=by
 simp only[Zfd];have inner:∀(i:Nat)(K:Int→Option Bool),i<l.length→∀fu (j:Nat),j≤i→i-j<fu→ZcL l (i:Int) K fu (j:Int)=bif((l.take i).drop j).all (fun y=>decide (cmpE y.fEnd (l.getD i Zac.d).fEnd<0))then K (Zaw (i:Int) 1)else some false:=by
  intro i K hi fu;induction fu with
  |zero=>intro j _ h;omega
  |succ fu ih=>
   intro j hj hf;simp only[ZcL,Zal,ZuS,Option.bind_some];by_cases hlt:j<i
   ·rw[if_pos (by omega),Zay ⟨by omega,by omega⟩,Zay ⟨by omega,by omega⟩];simp only[Int.toNat_natCast];have hjt:j<(l.take i).length:=by rw[List.length_take];omega
    have hgt:(l.take i).getD j Zac.d=l.getD j Zac.d:=by
     simp only[List.getD_eq_getElem?_getD,List.getElem?_take,if_pos hlt]
    rw[ZfK (l.take i) Zac.d j hjt,hgt];simp only[List.all_cons];by_cases hc:cmpE (l.getD j Zac.d).fEnd (l.getD i Zac.d).fEnd≥0
    ·rw[if_pos hc,decide_eq_false (by omega)];rfl
    ·rw[if_neg hc,decide_eq_true (by omega),add1 (show j<l.length by omega) h,ih (j+1) (by omega) (by omega)];rfl
   ·have e:j=i:=by omega
    subst e;rw[if_neg (by omega),List.drop_eq_nil_of_le (by rw[List.length_take];omega)];rfl
 have key:∀fu (i:Nat),i≤l.length→l.length-i<fu→ZbM l fu (i:Int)=some (ZvZ (l.take i) (l.drop i)):=by
  intro fu;induction fu with
  |zero=>intro i _ h;omega
  |succ fu ih=>
   intro i hi hf;simp only[ZbM,Zal];by_cases hlt:i<l.length
   ·rw[if_pos (by omega),Zay ⟨by omega,by omega⟩,ZtG _ (hok _ (by rw[Int.toNat_natCast];exact Zhd l _ i hlt))];simp only[Int.toNat_natCast,Option.bind_some];rw[ZfK l Zac.d i hlt];simp only[ZvZ];cases Zwa (l.getD i Zac.d)
    ·rfl
    ·simp only[Bool.not_true,cond_false,Bool.true_and];have hin:=inner i (ZbM l fu) hlt (((i:Int)-(0:Int)).toNat+2) 0 (by omega) (by omega);rw[show ((0:Nat):Int)=0 from rfl,List.drop_zero]at hin;rw[hin];have hih:=ih (i+1) (by omega) (by omega);rw[List.take_succ_eq_append_getElem hlt,←Zdk l Zac.d i hlt]at hih;cases(l.take i).all (fun y=>decide (cmpE y.fEnd (l.getD i Zac.d).fEnd<0))
     ·rfl
     ·rw[cond_true,add1 hlt h,hih];rfl
   ·rw[if_neg (by omega),List.drop_eq_nil_of_le (by omega)];rfl
 have:=key ((((l.length:Nat):Int)-(0:Int)).toNat+2) 0 (by omega) (by omega);rw[show ((0:Nat):Int)=0 from rfl]at this;rw[this];congr 1;exact ZvY l [] .nil
theorem ZpE(l:List Zag)(e:Zag)(hl:l.length≤maxLen):ZbB l e=some (l.contains e):=by
 simp only[ZbB,Zdw];have:=ZmY l Zag.d (fun x=>decide (e=x)) hl (fun fu i=>Zbc l fu (l.length:Int) i e) (fun i=>i) (fun fu i hi=>by
   simp only[Zbc,Zal];rw[if_pos (by omega),Zay ⟨by omega,by omega⟩];simp) (fun fu=>by
   simp only[Zbc,Zal];rw[if_neg (by omega)]) ((((l.length:Nat):Int)-(0:Int)).toNat+2) 0 (by omega) (by omega)
 simp only[Int.natCast_zero,List.drop_zero]at this;rw[this];simp only[Option.bind_some,Option.some.injEq];rw[Bool.eq_iff_iff,decide_eq_true_eq,List.contains_iff_mem];have hn:=ZpZ (fun x=>decide (e=x)) l 0;constructor
 ·intro h;obtain⟨k,h1,_,⟨x,h3,h4⟩,_⟩:=ZoJ _ l 0 h;rw[of_decide_eq_true h4];exact List.mem_of_getElem? h3
 ·intro h;apply Int.not_lt.1;intro h1;have:=hn.1 h1 e h;simp at this
theorem ZFW(l:List Zag)(e:Zag)(hl:l.length≤maxLen):Zgn l e=some (l.contains e):=by
 simp only[Zgn];have:=ZmY l Zag.d (fun x=>decide (x=e)) hl (fun fu i=>ZcE l fu i e) (fun i=>decide (0≤i)) (fun fu i hi=>by
   simp only[ZcE,Zal];rw[if_pos (by omega),Zay ⟨by omega,by omega⟩];simp) (fun fu=>by
   simp only[ZcE,Zal];rw[if_neg (by omega)];rfl) ((((l.length:Nat):Int)-(0:Int)).toNat+2) 0 (by omega) (by omega)
 simp only[Int.natCast_zero,List.drop_zero]at this;rw[this];congr 1;rw[Bool.eq_iff_iff,decide_eq_true_eq,List.contains_iff_mem];have hn:=ZpZ (fun x=>decide (x=e)) l 0;constructor
 ·intro h;obtain⟨k,h1,_,⟨x,h3,h4⟩,_⟩:=ZoJ _ l 0 h;rw[←of_decide_eq_true h4];exact List.mem_of_getElem? h3
 ·intro h;apply Int.not_lt.1;intro h1;have:=hn.1 h1 e h;simp at this
def ZkC(ends:List Zag)(x:Zac):Zac:=if x.fState=3 then(if ends.contains x.fEnd then⟨x.fEnd,1,x.fFails,x.fNext⟩else x)else x
theorem ZrF{α:Type}(l:List α)(d:α)(i:Nat)(h:i<l.length):l.set i (l.getD i d)=l:=by
 apply List.ext_getElem?;intro k;rw[List.getElem?_set];split
 ·rename_i e;subst e;rw[Zdk l d i h,List.getElem?_eq_getElem h]
 ·rfl
theorem ZCY(l:List Zac)(ends:List Zag)(h:l.length≤10000)(hm:ends.length≤maxLen):ZjG l ends=some (l.map (ZkC ends)):=by
 simp only[ZjG,ZEe l h,Option.bind_some];have:=Zzz (ZkC ends) Zac.d l.length (ZpI (by omega)) (fun fu i w=>ZdU ends fu (l.length:Int) i w) some (fun fu i w hw hi=>by
   simp only[ZdU,Zal,ZpE ends _ hm,ZlG,Option.bind_some];rw[if_pos (by omega),Zay ⟨by omega,by omega⟩];simp only[Int.toNat_natCast,ZkC,Bool.cond_eq_ite,beq_iff_eq];split
   ·split
    ·rfl
    ·rw[ZrF w _ i (by omega)]
   ·rw[ZrF w _ i (by omega)]) (fun fu w hw=>by
   simp only[ZdU,Zal];rw[if_neg (by omega)]) ((((l.length:Nat):Int)-(0:Int)).toNat+2) 0 l rfl (by omega) (by omega)
 simpa using this
theorem Zzh(l:List Zac)(ends:List Zag)(h:l.length≤10000)(hm:ends.length≤maxLen):ZdN l ends=some (l.map (ZkC ends)):=by
 simp only[ZdN,List.nil_append];rw[Zay ⟨by omega,ZpI (by omega)⟩];have:=Zzz (ZkC ends) Zac.d l.length (ZpI (by omega)) (fun fu i w=>ZbD ends fu i w) some (fun fu i w hw hi=>by
   simp only[ZbD,Zal,ZFW ends _ hm,Option.bind_some];rw[if_pos (by omega),Zay ⟨by omega,by omega⟩];simp only[Int.toNat_natCast,ZkC,Bool.cond_eq_ite,beq_iff_eq];split
   ·split
    ·rfl
    ·rw[ZrF w _ i (by omega)]
   ·rw[ZrF w _ i (by omega)]) (fun fu w hw=>by
   simp only[ZbD,Zal];rw[if_neg (by omega)]) ((((l.length:Nat):Int)-(0:Int)).toNat+2) 0 l rfl (by omega) (by omega)
 simpa using this
def fitI(n:Int):Int:=if n<0 then 0 else if n>1099511627776 then 1099511627776 else n
theorem ZnV(n:Int):Zgb n=some (fitI n):=by
 unfold Zgb fitI;congr 1
 repeat' split
 all_goals omega
theorem ZpM(n:Int):Zbs n=some (fitI n):=by
 unfold Zbs fitI;simp only[Zal]
 repeat' split
 all_goals first|rfl|omega
theorem Zlc(n:Int):0≤fitI n∧fitI n≤1099511627776:=by
 unfold fitI
 repeat' split
 all_goals omega
theorem ZBi(p:Zaa)(n:Int):∃q,Zgc p n=some q∧ZdT p n=some q:=by
 unfold Zgc ZdT;simp only[ZnV,ZpM,Option.bind_some,Zal];refine⟨_,rfl,?_⟩;split
 ·rfl
 ·rfl
theorem ZFr(p:Zaa)(n:Int):∃q,ZhF p n=some q∧Zex p n=some q:=by
 unfold ZhF Zex;simp only[Zal];by_cases h1:n<1
 ·rw[if_neg (by omega),if_pos h1];exact⟨_,rfl,rfl⟩
 ·rw[if_pos (by omega),if_neg h1];by_cases h2:n>1048576
  ·rw[if_neg (by omega),if_pos h2];exact⟨_,rfl,rfl⟩
  ·rw[if_pos (by omega),if_neg h2];by_cases h3:p.fPing=0
   ·have e1:(p.fPing==0)=true:=by simp[h3]
    have e2:(p.fPing != 0)=false:=by simp[h3]
    rw[e1,e2];exact⟨_,rfl,rfl⟩
   ·have e1:(p.fPing==0)=false:=by simp[h3]
    have e2:(p.fPing != 0)=true:=by simp[h3]
    rw[e1,e2];simp only[cond_false,cond_true];by_cases h4:n<p.fPing
    ·rw[if_pos h4,if_neg (by omega)];exact⟨_,rfl,rfl⟩
    ·rw[if_neg h4,if_pos (by omega)];exact⟨_,rfl,rfl⟩
theorem ZAv(k:Int):∃q,ZfC k=some q∧Zdz k=some q∧0≤q∧q≤100:=by
 unfold ZfC Zdz;simp only[Zal];by_cases h1:k<0
 ·rw[if_pos h1];have e1:(k==1)=false:=by simp;omega
  have e2:(k==2)=false:=by simp;omega
  have e3:(k==3)=false:=by simp;omega
  have e4:(k==4)=false:=by simp;omega
  have e5:(k==5)=false:=by simp;omega
  rw[e1,e2,e3,e4,e5];exact⟨0,rfl,rfl,by omega,by omega⟩
 ·rw[if_neg h1];by_cases h2:k≥6
  ·rw[if_pos h2];have e1:(k==1)=false:=by simp;omega
   have e2:(k==2)=false:=by simp;omega
   have e3:(k==3)=false:=by simp;omega
   have e4:(k==4)=false:=by simp;omega
   have e5:(k==5)=false:=by simp;omega
   rw[e1,e2,e3,e4,e5];exact⟨0,rfl,rfl,by omega,by omega⟩
  ·rw[if_neg h2];obtain h|h|h|h|h|h:k=0∨k=1∨k=2∨k=3∨k=4∨k=5:=by omega
   all_goals subst h;exact⟨_,rfl,rfl,by decide,by decide⟩
def ZeP(l:List Zaa)(e:Zag):Int:=ixOf (fun x=>decide (x.fEnd=e)) l 0
theorem ZAf(l:List Zaa)(e:Zag)(hl:l.length≤maxLen):ZjV l e=some (ZeP l e):=by
 simp only[ZjV,Zcb];have:=ZmY l Zaa.d (fun x=>decide (x.fEnd=e)) hl (fun fu i=>ZaN l e fu (l.length:Int) i) (fun i=>i) (fun fu i hi=>by
   simp only[ZaN,ZjL,Zal,Option.bind_some];rw[if_pos (by omega),Zay ⟨by omega,by omega⟩];simp) (fun fu=>by
   simp only[ZaN,Zal];rw[if_neg (by omega)]) ((((l.length:Nat):Int)-(0:Int)).toNat+2) 0 (by omega) (by omega)
 simp only[Int.natCast_zero,List.drop_zero]at this;rw[this];rfl
theorem Zij(l:List Zaa)(e:Zag)(hl:l.length≤maxLen):Zcv l e=some (ZeP l e):=by
 simp only[Zcv];have:=ZmY l Zaa.d (fun x=>decide (x.fEnd=e)) hl (fun fu i=>Zck l fu i e) (fun i=>i) (fun fu i hi=>by
   simp only[Zck,Zal];rw[if_pos (by omega),Zay ⟨by omega,by omega⟩];simp) (fun fu=>by
   simp only[Zck,Zal];rw[if_neg (by omega)]) ((((l.length:Nat):Int)-(0:Int)).toNat+2) 0 (by omega) (by omega)
 simp only[Int.natCast_zero,List.drop_zero]at this;rw[this];rfl
theorem ZoO(l:List Zaa)(e:Zag):ZeP l e<(l.length:Int):=by
 have:=Zyd (fun x:Zaa=>decide (x.fEnd=e)) l 0;unfold ZeP;omega
theorem ZDS{α:Type}(p:α→Bool)(d:α)(l:List α)(hl:l.length≤maxLen)(F:Nat→Int→Int→List α→Option (List α))
  (hs:∀fu (k j:Nat) w,w.length=l.length→k≤j→j<w.length→F (fu+1) (k:Int) (j:Int) w=if p (w.getD j d)=true then F fu (k:Int) (Zaw (j:Int) 1) w else F fu (Zaw (k:Int) 1) (Zaw (j:Int) 1) (w.set k (w.getD j d)))
  (he:∀fu (k:Nat) w,w.length=l.length→k≤w.length→F (fu+1) (k:Int) (w.length:Int) w=some (w.take k)) :
  ∀fu (k j:Nat) w,w.length=l.length→k≤j→j≤l.length→l.length-j<fu→w.take k=(l.take j).filter (fun x=>!p x)→w.drop j=l.drop j→F fu (k:Int) (j:Int) w=some (l.filter fun x=>!p x):=by
 intro fu;induction fu with
 |zero=>intro k j w _ _ _ h;omega
 |succ fu ih=>
  intro k j w hw hkj hj hf ht hd;by_cases h:j<l.length
  ·rw[hs fu k j w hw hkj (by omega),add1 h hl];have hx:w.getD j d=l.getD j d:=by
    have:=congrArg (fun q:List α=>q.getD 0 d) hd;simpa[List.getD_eq_getElem?_getD]using this
   have htk:l.take (j+1)=l.take j++[l.getD j d]:=by
    rw[List.take_succ_eq_append_getElem h,Zdk l d j h]
   have hd1:w.drop (j+1)=l.drop (j+1):=by
    have:=congrArg (List.drop 1) hd;simpa[List.drop_drop,Nat.add_comm]using this
   by_cases hp:p (w.getD j d)=true
   ·rw[if_pos hp];refine ih k (j+1) w hw (by omega) (by omega) (by omega) ?_ hd1;have hf1:[w.getD j d].filter (fun x=>!p x)=[]:=by rw[List.filter_cons_of_neg (by rw[hp];decide)];rfl
    rw[htk,List.filter_append,ht,←hx,hf1,List.append_nil]
   ·rw[if_neg hp,add1 (n:=l.length) (by omega) hl];refine ih (k+1) (j+1) _ (by simp[hw]) (by omega) (by omega) (by omega) ?_ ?_
    ·rw[htk,List.filter_append,←hx];have hf1:[w.getD j d].filter (fun x=>!p x)=[w.getD j d]:=by rw[List.filter_cons_of_pos (by simpa using hp)];rfl
     rw[List.take_succ_eq_append_getElem (by simp;omega),List.take_set_of_le (by omega),ht,hf1];simp
    ·rw[List.drop_set_of_lt (by omega)];exact hd1
  ·obtain rfl:j=l.length:=by omega
   have e:(l.length:Int)=(w.length:Int):=by rw[hw]
   rw[e,he fu k w hw (by omega),ht,List.take_length]
def Zlj(l:List Zaa)(ends:List Zag):List Zaa:=l.filter fun x=>!ends.contains x.fEnd
theorem ZyG(l:List Zaa)(ends:List Zag)(hl:l.length≤1000000)(hm:ends.length≤maxLen):Zbp l ends=some (Zlj l ends):=by
 have hL:l.length≤maxLen:=by unfold maxLen;omega
 have hx:Zbt l ends=some (ixOf (fun x=>ends.contains x.fEnd) l 0):=by
  simp only[Zbt];have:=ZmY l Zaa.d (fun x=>ends.contains x.fEnd) hL (fun fu i=>ZaM l ends fu (l.length:Int) i) (fun i=>i) (fun fu i hi=>by
    simp only[ZaM,Zhs,ZpE ends _ hm,Zal,Option.bind_some];rw[if_pos (by omega),Zay ⟨by omega,by omega⟩];simp only[Int.toNat_natCast];generalize ends.contains (l.getD i Zaa.d).fEnd=q;cases q<;>rfl) (fun fu=>by
    simp only[ZaM,Zal];rw[if_neg (by omega)]) ((((l.length:Nat):Int)-(0:Int)).toNat+2) 0 (by omega) (by omega)
  simp only[Int.natCast_zero,List.drop_zero]at this;rw[this]
 simp only[Zbp,hx,Option.bind_some];by_cases h:ixOf (fun x:Zaa=>ends.contains x.fEnd) l 0<0
 ·have hn:=(ZpZ _ l 0).1 h;have e:(ixOf (fun x:Zaa=>ends.contains x.fEnd) l 0 == -1)=true:=by
   have:=ZFC (fun x:Zaa=>ends.contains x.fEnd) l 0;rw[beq_iff_eq];omega
  rw[e,cond_true];congr 1;unfold Zlj;rw[List.filter_eq_self.2];intro x hx;rw[hn x hx];rfl
 ·obtain⟨k,h1,h2,⟨x,h3,h4⟩,h5⟩:=ZoJ (fun x:Zaa=>ends.contains x.fEnd) l 0 (by omega);have e:(ixOf (fun x:Zaa=>ends.contains x.fEnd) l 0 == -1)=false:=by
   rw[beq_eq_false_iff_ne];omega
  rw[e,cond_false,h2,Nat.zero_add,add1 h1 hL];refine ZDS (fun x:Zaa=>ends.contains x.fEnd) Zaa.d l hL (fun fu a b w=>ZaK ends fu a b w) ?_ ?_ _ k (k+1) l rfl (by omega) (by omega) (by omega) ?_ rfl
  ·intro fu a b w hw hab hb;simp only[ZaK,Zhs,ZpE ends _ hm,Zal,Option.bind_some];rw[if_pos (by omega),Zay ⟨by omega,by omega⟩];simp only[Int.toNat_natCast];cases hq:ends.contains (w.getD b Zaa.d).fEnd
   ·simp only[Bool.not_false,cond_true];rw[Zay ⟨by omega,by omega⟩,if_neg (by simp)]
   ·simp only[Bool.not_true,cond_false];rw[if_pos trivial]
  ·intro fu a w hw ha;simp only[ZaK,Zal];rw[if_neg (by omega),Zay ⟨by omega,by omega,by omega⟩];simp only[Int.toNat_natCast];rw[Zay (by omega),Zay ⟨by omega,by omega,by omega⟩,Zay (by rw[Zxh _ _ _ _ (by omega)];exact ha)];congr 1;simp only[Zjl,List.append_assoc];rw[List.take_append_of_le_length (by simp;omega),List.take_take,Nat.min_self]
  ·rw[List.take_succ_eq_append_getElem h1,List.filter_append];have e1:(l.take k).filter (fun x=>!ends.contains x.fEnd)=l.take k:=by
    rw[List.filter_eq_self];intro y hy;obtain⟨j,hj,rfl⟩:=List.getElem_of_mem hy;have hjk:j<k:=by simp at hj;omega
    obtain⟨z,hz1,hz2⟩:=h5 j hjk;have:(l.take k)[j]=z:=by
     rw[List.getElem_take];rw[List.getElem?_eq_getElem (by omega)]at hz1;exact Option.some.inj hz1
    rw[this,hz2];rfl
   have e2:[l[k]].filter (fun x=>!ends.contains x.fEnd)=[]:=by
    rw[List.getElem?_eq_getElem h1]at h3;rw[Option.some.inj h3];rw[List.filter_cons_of_neg (by rw[h4];decide)];rfl
   rw[e1,e2,List.append_nil]
theorem ZAl(l:List Zaa)(ends:List Zag)(hl:l.length≤1000000)(hm:ends.length≤maxLen):ZiL l ends=some (Zlj l ends):=by
 unfold ZiL Zce;rw[Zay ⟨by omega,by unfold maxLen;omega⟩];simp only[Option.bind_some,ZyG l ends hl hm]
theorem Zwc(l:List Zaa)(ends:List Zag):(Zlj l ends).length≤l.length:=List.length_filter_le _ _
def wid(a:Zaj):Nat:=if a.fV6 then 128 else 32
def num(a:Zaj):Nat:=if a.fV6 then 2 ^ 64*a.fHi.toNat+a.fLo.toNat else a.fLo.toNat
def bitN(a:Zaj)(i:Nat):Bool:=(num a).testBit (wid a-1-i)
structure Fits (a:Zaj):Prop where
 hi0:0≤a.fHi
 hi1:a.fHi≤18446744073709551615
 lo0:0≤a.fLo
 lo1:a.fLo≤18446744073709551615
 v4:a.fV6=false→a.fHi=0∧a.fLo<4294967296
theorem Znw{a:Zaj}(h:a.ok)(hr:ZeR a=true):Fits a:=by
 have h1:=ZqL h.2.1;have h2:=ZqL h.2.2.1;refine⟨h1.1,h1.2,h2.1,h2.2,fun hv=>?_⟩;unfold ZeR at hr;rw[hv]at hr;simpa using hr
theorem Fits.ok{a:Zaj}(h:Fits a):a.ok:=by
 refine⟨trivial,?_,?_,trivial⟩
 ·have:=h.hi0;have:=h.hi1;simp only[okI,Lit.wf,IntKind.min,IntKind.max,IntKind.bits,IntKind.signed];simp;omega
 ·have:=h.lo0;have:=h.lo1;simp only[okI,Lit.wf,IntKind.min,IntKind.max,IntKind.bits,IntKind.signed];simp;omega
theorem ZEO{a:Zaj}(h:Fits a):num a<2 ^ wid a:=by
 have:=h.hi0;have:=h.hi1;have:=h.lo0;have:=h.lo1;unfold num wid;cases hv:a.fV6
 ·have:=h.v4 hv;simp only[Bool.false_eq_true,if_false];omega
 ·simp only[if_true];omega
theorem ZrT{a b:Zaj}(ha:Fits a)(hb:Fits b)(hv:a.fV6=b.fV6)(h:∀i,i<wid a→bitN a i=bitN b i):a=b:=by
 have hn:num a=num b:=by
  apply Nat.eq_of_testBit_eq;intro j;have hw:wid a=wid b:=by unfold wid;rw[hv]
  by_cases hj:j<wid a
  ·have:=h (wid a-1-j) (by omega);unfold bitN at this;rw[←hw]at this;rw[show wid a-1-(wid a-1-j)=j by omega]at this;exact this
  ·rw[Nat.testBit_lt_two_pow (Nat.lt_of_lt_of_le (ZEO ha) (Nat.pow_le_pow_right (by omega) (by omega))),Nat.testBit_lt_two_pow (Nat.lt_of_lt_of_le (ZEO hb) (Nat.pow_le_pow_right (by omega) (by omega)))]
 have:=ha.hi0;have:=ha.hi1;have:=ha.lo0;have:=ha.lo1;have:=hb.hi0;have:=hb.hi1;have:=hb.lo0;have:=hb.lo1;obtain⟨v,hi,lo⟩:=a;obtain⟨v',hi',lo'⟩:=b;simp only at hv;subst hv;simp only[num]at hn;simp only[Zaj.mk.injEq,true_and];cases v
 ·have:=ha.v4 rfl;have:=hb.v4 rfl;simp only[Bool.false_eq_true,if_false]at *
  omega
 ·simp only[if_true]at *
  omega
theorem ZvH(n k T:Nat)(hk:k≤T)(h:n<2 ^ T):n &&& (2 ^ T-2 ^ k)=n-n % 2 ^ k:=by
 have h1:n-n % 2 ^ k=2 ^ k*(n / 2 ^ k):=by have:=Nat.div_add_mod n (2 ^ k);omega
 rw[h1];apply Nat.eq_of_testBit_eq;intro i;have h2:2 ^ T-2 ^ k=2 ^ k*(2 ^ (T-k)-1):=by
  rw[Nat.mul_sub,←Nat.pow_add,Nat.mul_one];congr 2;omega
 rw[Nat.testBit_and,h2,Nat.testBit_two_pow_mul,Nat.testBit_two_pow_mul,Nat.testBit_two_pow_sub_one,Nat.testBit_div_two_pow];by_cases hi:k≤i
 ·by_cases h3:i<T
  ·simp[hi,show i-k<T-k by omega,show i-k+k=i by omega]
  ·have:n.testBit i=false:=Nat.testBit_lt_two_pow (Nat.lt_of_lt_of_le h (Nat.pow_le_pow_right (by omega) (by omega)));simp[hi,this,show i-k+k=i by omega]
 ·simp[hi]
theorem ZyH(n k j:Nat):(n-n % 2 ^ k).testBit j=(decide (k≤j)&&n.testBit j):=by
 have h1:n-n % 2 ^ k=2 ^ k*(n / 2 ^ k):=by have:=Nat.div_add_mod n (2 ^ k);omega
 rw[h1,Nat.testBit_two_pow_mul,Nat.testBit_div_two_pow];by_cases h:k≤j
 ·simp[h,show j-k+k=j by omega]
 ·simp[h]
theorem ZoT(a b:Nat)(ha:a<2 ^ 64)(hb:b<2 ^ 64):IntKind.u64.wrap (((BitVec.ofInt (IntKind.bits .u64) (a:Int)) &&& (BitVec.ofInt (IntKind.bits .u64) (b:Int))).toNat:Int)=((a &&& b:Nat):Int):=by
 rw[ZDd a b ha hb];have:a &&& b<2 ^ 64:=Nat.and_lt_two_pow _ hb;exact ZjH (by omega) (by omega)
theorem ZGg:∀n:Fin 65,ZfX ((n.val:Nat):Int)=some (((2 ^ 64-2 ^ (64-n.val):Nat)):Int):=by decide +kernel
theorem ZvP(n:Nat)(h:n≤64):ZfX ((n:Nat):Int)=some (((2 ^ 64-2 ^ (64-n):Nat)):Int):=ZGg ⟨n,by omega⟩
theorem ZvQ(n:Int):ZfX n=ZfX (if(64:Int)<(if(0:Int)>n then(0:Int)else n)then(64:Int)else(if(0:Int)>n then(0:Int)else n)):=by
 unfold ZfX;have e:∀m:Int,0≤m→m≤64→(if(64:Int)<(if(0:Int)>m then(0:Int)else m)then(64:Int)else(if(0:Int)>m then(0:Int)else m))=m:=fun m h1 h2=>by
  repeat' split
  all_goals omega
 rw[e (if(64:Int)<(if(0:Int)>n then(0:Int)else n)then(64:Int)else(if(0:Int)>n then(0:Int)else n)) (by repeat' split<;>omega) (by repeat' split<;>omega)]
theorem ZFc(n:Int)(h:n≤0):ZfX n=some 0:=by
 rw[ZvQ,show (if(64:Int)<(if(0:Int)>n then(0:Int)else n)then(64:Int)else(if(0:Int)>n then(0:Int)else n))=((0:Nat):Int)by repeat' split<;>omega,ZvP 0 (by omega)]
 rfl
theorem ZDs(n:Int)(h:64≤n):ZfX n=some 18446744073709551615:=by
 rw[ZvQ,show (if(64:Int)<(if(0:Int)>n then(0:Int)else n)then(64:Int)else(if(0:Int)>n then(0:Int)else n))=((64:Nat):Int)by repeat' split<;>omega,ZvP 64 (by omega)]
 rfl
def ZoU(a:Zaj)(n:Nat):Zaj:=if a.fV6 then(if n≤64 then⟨true,((a.fHi.toNat-a.fHi.toNat % 2 ^ (64-n):Nat):Int),0⟩else⟨true,a.fHi,((a.fLo.toNat-a.fLo.toNat % 2 ^ (128-n):Nat):Int)⟩)else⟨false,a.fHi,((a.fLo.toNat-a.fLo.toNat % 2 ^ (32-n):Nat):Int)⟩
theorem ZBU{a:Zaj}(h:a.ok)(hr:ZeR a=true)(n:Nat)(hn:n≤wid a):ZiG a (n:Int)=some (ZoU a n):=by
 have hf:=Znw h hr;have hright:=ZmN a h;have hA:=hf.hi0;have hB:=hf.hi1;have hC:=hf.lo0;have hD:=hf.lo1;obtain⟨v,hi,lo⟩:=a;obtain⟨p,hp⟩:=Zwx hf.hi0;obtain⟨q,hq⟩:=Zwx hf.lo0;simp only at hp hq hA hB hC hD;subst hp hq;cases v with
 |false=>
  have hv:=hf.v4 rfl;simp only at hv;have hn:n≤32:=hn;have hmin:(if(32:Int)<(if(0:Int)>(n:Int)then(0:Int)else(n:Int))then(32:Int)else(if(0:Int)>(n:Int)then(0:Int)else(n:Int)))=(n:Int):=by repeat' split<;>omega
  simp only[ZiG,hright,hr,Option.bind_some,Bool.not_true,cond_false,Zho,Bool.not_false,cond_true,hmin,ZvP n (by omega)];have hp:(2:Nat) ^ (64-n)=2 ^ 32 * 2 ^ (32-n):=by rw[←Nat.pow_add];congr 1;omega
  have hp1:(2:Nat) ^ (32-n)≤2 ^ 32:=Nat.pow_le_pow_right (by omega) (by omega);have hp0:0<(2:Nat) ^ (32-n):=Nat.pow_pos (by omega);have hd:(2 ^ 64-2 ^ (64-n):Nat) / 4294967296=2 ^ 32-2 ^ (32-n):=by
   rw[hp];generalize (2:Nat) ^ (32-n)=z at *
   omega
  have e3:Int.fdiv ((2 ^ 64-2 ^ (64-n):Nat):Int) (2 ^ (min (32:Int).toNat (IntKind.bits .u64)))=((2 ^ 32-2 ^ (32-n):Nat):Int):=by
   rw[show (2:Int) ^ (min (32:Int).toNat (IntKind.bits .u64))=4294967296 from rfl,Int.fdiv_eq_ediv_of_nonneg _ (by omega),←hd];rfl
  rw[e3,ZoT q _ (by omega) (by generalize (2:Nat) ^ (32-n)=z at *;omega),ZvH q (32-n) 32 (by omega) (by omega)];simp[ZoU]
 |true=>
  have hn:n≤128:=hn;have hmin:(if(128:Int)<(if(0:Int)>(n:Int)then(0:Int)else(n:Int))then(128:Int)else(if(0:Int)>(n:Int)then(0:Int)else(n:Int)))=(n:Int):=by repeat' split<;>omega
  simp only[ZiG,hright,hr,Option.bind_some,Bool.not_true,cond_false,Zho,cond_true,hmin,Zkx];have hs:Zli (n:Int) 64=(n:Int)-64:=ZmP (by omega) (by omega);rw[hs];by_cases h64:n≤64
  ·rw[ZvP n h64,ZFc _ (by omega)];simp only[Option.bind_some];rw[ZoT p _ (by omega) (by have:=Nat.pow_pos (a:=2) (n:=64-n) (by omega);omega),ZvH p (64-n) 64 (by omega) (by omega)];have:=ZoT q 0 (by omega) (by omega);rw[Nat.and_zero]at this;rw[show (0:Int)=((0:Nat):Int)from rfl,this];simp[ZoU,h64]
  ·rw[ZDs _ (by omega),show (n:Int)-64=((n-64:Nat):Int)by omega,ZvP (n-64) (by omega)];simp only[Option.bind_some];have e1:=ZoT p 18446744073709551615 (by omega) (by omega);have e2:=ZvH p 0 64 (by omega) (by omega);rw[show (2:Nat) ^ 64-2 ^ 0=18446744073709551615 from rfl,Nat.pow_zero,Nat.mod_one,Nat.sub_zero]at e2;rw[e2]at e1;rw[show (18446744073709551615:Int)=((18446744073709551615:Nat):Int)from rfl,e1];rw[show 64-(n-64)=128-n by omega,ZoT q _ (by omega) (by have:=Nat.pow_pos (a:=2) (n:=128-n) (by omega);omega),ZvH q (128-n) 64 (by omega) (by omega)];simp[ZoU,h64]
theorem ZmX(a:Zaj)(n:Nat):(ZoU a n).fV6=a.fV6:=by
 unfold ZoU;cases h:a.fV6
 ·rfl
 ·simp only[if_true];split<;>rfl
theorem ZqN{a:Zaj}(h:Fits a)(n:Nat):Fits (ZoU a n):=by
 have:=h.hi0;have:=h.hi1;have:=h.lo0;have:=h.lo1;have l:∀x y:Nat,x-x % y≤x:=fun x y=>Nat.sub_le _ _;have l1:=l a.fHi.toNat (2 ^ (64-n));have l2:=l a.fLo.toNat (2 ^ (128-n));have l3:=l a.fLo.toNat (2 ^ (32-n));unfold ZoU;cases hv:a.fV6
 ·have:=h.v4 hv;simp only[Bool.false_eq_true,if_false];exact⟨by simp only;omega,by simp only;omega,by simp only;omega,by simp only;omega,fun _=>⟨this.1,by simp only;omega⟩⟩
 ·simp only[if_true];split
  ·exact⟨by simp only;omega,by simp only;omega,by simp only;omega,by simp only;omega,fun h=>by simp at h⟩
  ·exact⟨by simp only;omega,by simp only;omega,by simp only;omega,by simp only;omega,fun h=>by simp at h⟩
theorem ZpT{hi lo j:Nat}(hl:lo<2 ^ 64):(2 ^ 64*hi+lo).testBit j=if j<64 then lo.testBit j else hi.testBit (j-64):=Nat.testBit_two_pow_mul_add hi hl j
theorem ZoS{a:Zaj}(h:Fits a)(n i:Nat)(hn:n≤wid a)(hi:i<wid a):bitN (ZoU a n) i=(decide (i<n)&&bitN a i):=by
 have h1:=h.hi0;have h2:=h.hi1;have h3:=h.lo0;have h4:=h.lo1;unfold bitN;have hw:wid (ZoU a n)=wid a:=by unfold wid;rw[ZmX]
 rw[hw];unfold wid at hn hi ⊢;unfold num ZoU;cases hv:a.fV6
 ·simp only[hv,Bool.false_eq_true,if_false]at *
  rw[Int.toNat_natCast,ZyH];congr 1;rw[decide_eq_decide];omega
 ·simp only[hv,if_true]at *
  have hlo:a.fLo.toNat<2 ^ 64:=by omega
  by_cases h64:n≤64
  ·simp only[h64,if_true,Int.toNat_natCast];rw[ZpT (by simp),ZpT hlo];by_cases hj:128-1-i<64
   ·simp only[hj,if_true];rw[show (decide (i<n))=false by rw[decide_eq_false_iff_not];omega];simp
   ·simp only[hj,if_false];rw[ZyH];congr 1;rw[decide_eq_decide];omega
  ·simp only[h64,if_false,if_true,Int.toNat_natCast];rw[ZpT (Nat.lt_of_le_of_lt (Nat.sub_le _ _) hlo),ZpT hlo];by_cases hj:128-1-i<64
   ·simp only[hj,if_true];rw[ZyH];congr 1;rw[decide_eq_decide];omega
   ·simp only[hj,if_false];rw[show (decide (i<n))=true by rw[decide_eq_true_eq];omega];simp
def ZiR(p:Zas):Bool:=ZeR p.fAddr&&decide (0≤p.fBits)&&decide (p.fBits≤(wid p.fAddr:Int))&&decide (ZoU p.fAddr p.fBits.toNat=p.fAddr)
structure RN (p:Zas):Prop where
 ok:p.fAddr.ok
 right:ZeR p.fAddr=true
 nn:0≤p.fBits
 le:p.fBits≤(wid p.fAddr:Int)
 cut:ZoU p.fAddr p.fBits.toNat=p.fAddr
theorem RN.fits{p:Zas}(h:RN p):Fits p.fAddr:=Znw h.ok h.right
theorem ZBw{p:Zas}(h:p.fAddr.ok):ZiR p=true↔RN p:=by
 unfold ZiR;simp only[Bool.and_eq_true,decide_eq_true_eq];exact⟨fun⟨⟨⟨a,b⟩,c⟩,d⟩=>⟨h,a,b,c,d⟩,fun⟨_,a,b,c,d⟩=>⟨⟨⟨a,b⟩,c⟩,d⟩⟩
theorem ZCZ(a:Zaj):Zho a=some (wid a:Int):=by
 unfold Zho wid;cases a.fV6<;>rfl
theorem ZBV(a:Zaj)(h:a.ok)(n:Int):ZjD a n=some (if ZeR a=true∧0≤n∧n≤(wid a:Int)then(⟨ZoU a n.toNat,n⟩,true)else(⟨⟨false,0,0⟩,0⟩,false)):=by
 simp only[ZjD,ZmN a h,ZCZ,Option.bind_some,Zal];cases hr:ZeR a
 ·simp
 ·simp only[Bool.not_true,cond_false,true_and];by_cases h0:n<0
  ·rw[if_pos h0,if_neg (by omega)]
  ·rw[if_neg h0];by_cases h1:n>(wid a:Int)
   ·rw[if_pos h1,if_neg (by omega)]
   ·rw[if_neg h1,if_pos (by omega)];have:=ZBU h hr n.toNat (by omega);rw[Int.toNat_of_nonneg (by omega)]at this;rw[this];rfl
theorem ZoR(p:Zas)(h:p.fAddr.ok):ZhM p=some (ZiR p):=by
 simp only[ZhM,ZBV _ h,Option.bind_some];unfold ZiR;split
 ·rename_i hh;simp only[cond_true,hh.1,hh.2.1,hh.2.2,decide_true,Bool.true_and,Option.some.injEq];rw[decide_eq_decide];obtain⟨x,n⟩:=p;simp
 ·rename_i hh;simp only[cond_false,Option.some.injEq];rw[eq_comm,Bool.eq_false_iff];intro hq;simp only[Bool.and_eq_true,decide_eq_true_eq]at hq;exact hh ⟨hq.1.1.1,hq.1.1.2,hq.1.2⟩
def bs(p:Zas):List Bool:=(List.range p.fBits.toNat).map (bitN p.fAddr)
theorem ZGk{p:Zas}(h:RN p)(i:Nat)(hi:i<wid p.fAddr)(hn:p.fBits.toNat≤i):bitN p.fAddr i=false:=by
 have h1:=ZoS h.fits p.fBits.toNat i (by have:=h.le;omega) hi;rw[h.cut]at h1;rw[h1];rw[show decide (i<p.fBits.toNat)=false by rw[decide_eq_false_iff_not];omega];rfl
theorem ZGt(p:Zas)(a:Zaj)(hp:RN p)(ha:a.ok):ZjE p a=some (ZeR a&&decide (p.fAddr.fV6=a.fV6)&&decide (∀i,i<p.fBits.toNat→bitN a i=bitN p.fAddr i)):=by
 have hrc:=(ZBw hp.ok).2 hp;simp only[ZjE,ZoR p hp.ok,hrc,ZmN a ha,Option.bind_some,cond_true];cases hr:ZeR a
 ·rfl
 ·simp only[cond_true,Bool.true_and];by_cases hv:p.fAddr.fV6=a.fV6
  ·have hw:wid p.fAddr=wid a:=by unfold wid;rw[hv]
   have hm:=ZBU ha hr p.fBits.toNat (by have:=hp.le;omega);rw[Int.toNat_of_nonneg hp.nn]at hm;have hf:=Znw ha hr;rw[show (p.fAddr.fV6==a.fV6)=true by simp[hv],cond_true,hm,decide_eq_true hv];simp only[Option.bind_some,Bool.true_and,Option.some.injEq];rw[decide_eq_decide];have hle:p.fBits.toNat≤wid a:=by have:=hp.le;omega
   constructor
   ·intro e i hi;have h1:=ZoS hf p.fBits.toNat i hle (by omega);rw[e,decide_eq_true hi]at h1;simpa using h1.symm
   ·intro h;refine ZrT (ZqN hf _) hp.fits (by rw[ZmX];exact hv.symm) fun i hi=>?_;have hi:i<wid a:=by unfold wid at hi ⊢;rwa [ZmX]at hi
    rw[ZoS hf p.fBits.toNat i hle hi];by_cases hb:i<p.fBits.toNat
    ·rw[decide_eq_true hb,h i hb];rfl
    ·rw[decide_eq_false hb,ZGk hp i (by omega) (by omega)];rfl
  ·rw[show (p.fAddr.fV6==a.fV6)=false by simp[hv],cond_false,decide_eq_false hv];rfl
theorem ZyM(n k:Nat)(hk:k<64)(hn:n<2 ^ 64):IntKind.i64.wrap (IntKind.u64.wrap (((BitVec.ofInt (IntKind.bits .u64) (Int.fdiv (n:Int) (2 ^ (min ((k:Nat):Int).toNat (IntKind.bits .u64))))) &&& (BitVec.ofInt (IntKind.bits .u64) (1:Int))).toNat:Int))=if n.testBit k then 1 else 0:=by
 rw[Int.toNat_natCast,show min k (IntKind.bits .u64)=k from Nat.min_eq_left (by simp[IntKind.bits];omega)];have e:Int.fdiv (n:Int) (2 ^ k)=((n / 2 ^ k:Nat):Int):=by
  rw[Int.fdiv_eq_ediv_of_nonneg _ (by have:(0:Int)<2 ^ k:=Int.pow_pos (by omega);omega)];simp
 have h1:n / 2 ^ k<2 ^ 64:=Nat.lt_of_le_of_lt (Nat.div_le_self _ _) hn;rw[e,show (1:Int)=((1:Nat):Int)from rfl,ZoT _ 1 h1 (by omega),Nat.and_one_is_mod,Nat.testBit_eq_decide_div_mod_eq];have h2:n / 2 ^ k % 2<2:=Nat.mod_lt _ (by omega);have h3:IntKind.i64.wrap ((n / 2 ^ k % 2:Nat):Int)=((n / 2 ^ k % 2:Nat):Int):=by
  simp only[IntKind.wrap,IntKind.bits,IntKind.signed];simp;omega
 rw[h3];simp only[decide_eq_true_eq];split<;>omega
theorem ZxQ{a:Zaj}(h:Fits a)(i:Nat)(hi:i<wid a):Zdy a (i:Int)=some (if bitN a i then 1 else 0):=by
 have h1:=h.hi0;have h2:=h.hi1;have h3:=h.lo0;have h4:=h.lo1;obtain⟨v,hi',lo⟩:=a;obtain⟨p,hp⟩:=Zwx h.hi0;obtain⟨q,hq⟩:=Zwx h.lo0;simp only at hp hq h1 h2 h3 h4;subst hp hq;have hw:∀k:Nat,k<64→(IntKind.u64.wrap ((k:Nat):Int))=((k:Nat):Int):=fun k hk=>ZjH (by omega) (by omega);cases v with
 |false=>
  have hi:i<32:=hi;have e:Zli (31:Int) (i:Int)=((31-i:Nat):Int):=by rw[ZmP (by omega) (by omega)];omega
  simp only[Zdy,ZbF,Zdh,Zal,Option.bind_some,cond_false,Bool.not_false,cond_true,e,hw (31-i) (by omega)];rw[if_neg (by omega),if_neg (by omega),Zay (by omega),ZyM q _ (by omega) (by omega)];rfl
 |true=>
  have hi:i<128:=hi;have hb:bitN ⟨true,(p:Int),(q:Int)⟩ i=if 127-i<64 then q.testBit (127-i)else p.testBit (127-i-64):=by
   unfold bitN num wid;simp only[if_true,Int.toNat_natCast];rw[ZpT (by omega)]
  rw[hb];have et:Int.tmod (i:Int) 64=((i % 64:Nat):Int):=by rw[Int.tmod_eq_emod_of_nonneg (by omega)];rfl
  have hm:i % 64<64:=Nat.mod_lt _ (by omega);have e:Zli (63:Int) ((i % 64:Nat):Int)=((63-i % 64:Nat):Int):=by rw[ZmP (by omega) (by omega)];omega
  simp only[Zdy,ZbF,Zdh,Zal,Option.bind_some,cond_false,Bool.not_true,cond_true,et,e,hw (63-i % 64) (by omega)];rw[if_neg (by omega),if_neg (by omega)];by_cases h64:i<64
  ·rw[if_pos (by omega),Zay (by omega),ZyM p _ (by omega) (by omega),if_neg (show ¬127-i<64 by omega),show 63-i % 64=127-i-64 by omega]
  ·rw[if_neg (by omega),Zay (by omega),ZyM q _ (by omega) (by omega),if_pos (show 127-i<64 by omega),show 63-i % 64=127-i by omega]
theorem ZrI(a:Zaj):ZbF a=some (wid a:Int):=by
 unfold ZbF wid;cases a.fV6<;>rfl
theorem ZvN(a:Zaj):wid a≤128:=by unfold wid;split<;>omega
theorem ZGD{i:Nat}(h:i≤1000000):Zaw (i:Int) 1=((i+1:Nat):Int):=by rw[ZfP (by omega) (by omega)];omega
theorem ZBF{p:Zas}(hf:Fits p.fAddr):∀fu (i:Nat),i≤wid p.fAddr→wid p.fAddr-i<fu→∃r,ZcM fu (i:Int) p=some r∧(r=true↔∀j,i≤j→j<wid p.fAddr→bitN p.fAddr j=false):=by
 have hw:=ZvN p.fAddr;intro fu;induction fu with
 |zero=>intro _ _ h;omega
 |succ fu ih=>
  intro i hi hfu;simp only[ZcM,ZrI,Option.bind_some,Zal];by_cases h:i<wid p.fAddr
  ·rw[if_pos (by omega),ZxQ hf i h,ZGD (by omega)];simp only[Option.bind_some];obtain⟨r,h1,h2⟩:=ih (i+1) (by omega) (by omega);cases hb:bitN p.fAddr i with
   |true=>
    simp only[if_true,beq_self_eq_true,cond_true];refine⟨false,rfl,?_⟩;simp only[Bool.false_eq_true,false_iff];intro hq;have:=hq i (Nat.le_refl _) h;rw[hb]at this;cases this
   |false=>
    simp only[Bool.false_eq_true,if_false];rw[show ((0:Int)==1)=false from rfl,cond_false];refine⟨r,h1,h2.trans ⟨fun q j h3 h4=>?_,fun q j h3 h4=>q j (by omega) h4⟩⟩;by_cases h5:j=i
    ·subst h5;exact hb
    ·exact q j (by omega) h4
  ·rw[if_neg (by omega)];exact⟨true,rfl,by simp;intro j h3 h4;omega⟩
theorem ZqJ(p:Zas)(h:p.fAddr.ok):Zdu p=some (ZiR p):=by
 simp only[Zdu,Zmf p.fAddr h,ZrI,Option.bind_some,Zal];unfold ZiR;cases hr:ZeR p.fAddr
 ·simp
 ·have hf:=Znw h hr;simp only[Bool.not_true,cond_false,Bool.true_and];by_cases h0:p.fBits<0
  ·rw[if_pos h0,show decide (0≤p.fBits)=false by rw[decide_eq_false_iff_not];omega];simp
  ·rw[if_neg h0];by_cases h1:p.fBits>(wid p.fAddr:Int)
   ·rw[if_pos h1,show decide (p.fBits≤(wid p.fAddr:Int))=false by rw[decide_eq_false_iff_not];omega];simp
   ·rw[if_neg h1,show decide (0≤p.fBits)=true by rw[decide_eq_true_eq];omega,show decide (p.fBits≤(wid p.fAddr:Int))=true by rw[decide_eq_true_eq];omega];have hw:=ZvN p.fAddr;obtain⟨r,r1,r2⟩:=ZBF hf 1000000 p.fBits.toNat (by omega) (by omega);rw[Int.toNat_of_nonneg (by omega)]at r1;rw[r1,Option.some.injEq,Bool.true_and,Bool.true_and,Bool.eq_iff_iff,r2,decide_eq_true_eq];constructor
    ·intro q;refine ZrT (ZqN hf _) hf (ZmX _ _) fun i hi=>?_;have hi:i<wid p.fAddr:=by unfold wid at hi ⊢;rwa [ZmX]at hi
     rw[ZoS hf p.fBits.toNat i (by omega) hi];by_cases hb:i<p.fBits.toNat
     ·rw[decide_eq_true hb];rfl
     ·rw[decide_eq_false hb,q i (by omega) hi];rfl
    ·intro q j h3 h4;have:=ZoS hf p.fBits.toNat j (by omega) h4;rw[q,decide_eq_false (by omega)]at this;exact this
def hasS(p:Zas)(a:Zaj):Bool:=ZiR p&&(ZeR a&&decide (p.fAddr.fV6=a.fV6)&&decide (∀i,i<p.fBits.toNat→bitN a i=bitN p.fAddr i))
theorem Zwi{p:Zas}{a:Zaj}(hp:RN p)(ha:Fits a)(hv:p.fAddr.fV6=a.fV6):∀fu (i:Nat),i≤p.fBits.toNat→p.fBits.toNat-i<fu→∃r,ZcF fu (i:Int) p a=some r∧(r=true↔∀j,i≤j→j<p.fBits.toNat→bitN a j=bitN p.fAddr j):=by
 have hw:=ZvN p.fAddr;have hwa:wid p.fAddr=wid a:=by unfold wid;rw[hv]
 have n1:=hp.nn;have l1:=hp.le;intro fu;induction fu with
 |zero=>intro _ _ h;omega
 |succ fu ih=>
  intro i hi hfu;simp only[ZcF,Zal];by_cases h:i<p.fBits.toNat
  ·rw[if_pos (by omega),ZxQ hp.fits i (by omega),ZxQ ha i (by omega),ZGD (by omega)];simp only[Option.bind_some];obtain⟨r,h1,h2⟩:=ih (i+1) (by omega) (by omega);by_cases hb:bitN a i=bitN p.fAddr i
   ·rw[hb];simp only[bne_self_eq_false,cond_false];refine⟨r,h1,h2.trans ⟨fun q j h3 h4=>?_,fun q j h3 h4=>q j (by omega) h4⟩⟩;by_cases h5:j=i
    ·subst h5;exact hb
    ·exact q j (by omega) h4
   ·have hne:((if bitN p.fAddr i=true then(1:Int)else 0) != if bitN a i=true then 1 else 0)=true:=by
     revert hb
     cases bitN a i<;>cases bitN p.fAddr i<;>simp
    rw[hne,cond_true];refine⟨false,rfl,?_⟩;simp only[Bool.false_eq_true,false_iff];intro hq;exact hb (hq i (Nat.le_refl _) h)
  ·rw[if_neg (by omega)];exact⟨true,rfl,by simp;intro j h3 h4;omega⟩
theorem ZDG(p:Zas)(a:Zaj)(hp:p.fAddr.ok)(ha:a.ok):Zgr p a=some (hasS p a):=by
 simp only[Zgr,ZqJ p hp,Zmf a ha,Option.bind_some];unfold hasS;cases hc:ZiR p
 ·rfl
 ·have hrn:=(ZBw hp).1 hc;simp only[Bool.not_true,cond_false,Bool.true_and];cases hr:ZeR a
  ·rfl
  ·simp only[Bool.not_true,cond_false,Bool.true_and];by_cases hv:p.fAddr.fV6=a.fV6
   ·rw[show (!(p.fAddr.fV6==a.fV6))=false by simp[hv],cond_false,decide_eq_true hv,Bool.true_and];have hw:=ZvN p.fAddr;have n1:=hrn.nn;have l1:=hrn.le;obtain⟨r,r1,r2⟩:=Zwi hrn (Znw ha hr) hv 1000000 0 (by omega) (by omega);have r1:ZcF 1000000 0 p a=some r:=r1;rw[r1,Option.some.injEq,Bool.eq_iff_iff,r2,decide_eq_true_eq];exact⟨fun q j hj=>q j (by omega) hj,fun q j _ hj=>q j hj⟩
   ·rw[show (!(p.fAddr.fV6==a.fV6))=true by simp[hv],cond_true,decide_eq_false hv];rfl
theorem Zsc{n:Nat}(h:n≤100000):n * 40≤140737488355328∧n≤maxLen:=⟨by omega,by unfold maxLen;omega⟩
def ZhQ(b:Zab):Bool:=ZiR b.fNet&&decide (1≤b.fUntil)&&decide (b.fUntil≤1099511627776)
theorem ZDb(b:Zab)(h:b.ok):Zlb b=some (ZhQ b):=by
 simp only[Zlb,ZoR _ h.1.1,ZhQ,Option.bind_some,Zal];cases ZiR b.fNet
 ·rfl
 ·simp only[cond_true,Bool.true_and];by_cases h1:1≤b.fUntil
  ·rw[if_pos h1,decide_eq_true h1];rfl
  ·rw[if_neg h1,decide_eq_false h1];rfl
theorem Zsl(b:Zab)(h:b.ok):Zei b=some (ZhQ b):=by
 simp only[Zei,ZqJ _ h.1.1,ZhQ,Option.bind_some,Zal];cases ZiR b.fNet
 ·rfl
 ·simp only[cond_true,Bool.true_and];by_cases h1:1≤b.fUntil
  ·rw[if_pos (by omega),decide_eq_true h1];rfl
  ·rw[if_neg (by omega),decide_eq_false h1];rfl
def ZEI(l:List Zab):Prop:=(∀b∈l,ZhQ b=true)∧l.Pairwise fun a b=>cmpN a.fNet b.fNet<0
theorem ZCS(l:List Zab):(∀j,0≤j→j<l.length→ZhQ (l.getD j Zab.d)=true∧(0<j→cmpN (l.getD (j-1) Zab.d).fNet (l.getD j Zab.d).fNet<0))↔ZEI l:=by
 constructor
 ·intro h;refine⟨fun b hb=>?_,Zmj (R:=fun a b:Zab=>cmpN a.fNet b.fNet<0) (fun a b c h1 h2=>ZAX h1 h2) l fun i a b ha hb=>?_⟩
  ·obtain⟨i,hi,rfl⟩:=List.getElem_of_mem hb;have:=(h i (by omega) hi).1;rwa [Zdk l _ i hi]at this
  ·obtain⟨h1,e1⟩:=List.getElem?_eq_some_iff.1 ha;obtain⟨h2,e2⟩:=List.getElem?_eq_some_iff.1 hb;have:=(h (i+1) (by omega) h2).2 (by omega);rw[Nat.add_sub_cancel,Zdk l _ i h1,Zdk l _ (i+1) h2,e1,e2]at this;exact this
 ·rintro ⟨h1,h2⟩ j _ hj;refine⟨h1 _ (Zhd l _ j hj),fun h0=>?_⟩;rw[Zdk l _ j hj,Zdk l _ (j-1) (by omega)];exact List.pairwise_iff_getElem.1 h2 (j-1) j (by omega) hj (by omega)
theorem rr_in(l:List Zab)(hl:l.length≤maxLen)(v3:Nat)(h3:v3<l.length)(k:Int→Option Bool):∀fu (i:Nat),i≤v3→v3-i<fu →
  ((∀j,i≤j→j<v3→cmpN (l.getD j Zab.d).fNet (l.getD v3 Zab.d).fNet<0)∧Zbw l (v3:Int) k fu (i:Int)=k ((v3+1:Nat):Int))∨((¬∀j,i≤j→j<v3→cmpN (l.getD j Zab.d).fNet (l.getD v3 Zab.d).fNet<0)∧Zbw l (v3:Int) k fu (i:Int)=some false):=by
 intro fu;induction fu with
 |zero=>intro _ _ h;omega
 |succ fu ih=>
  intro i hi hf;simp only[Zbw,Zal,Zzi,Option.bind_some];by_cases h:i<v3
  ·rw[if_pos (by omega),Zay ⟨by omega,by omega⟩,Zay ⟨by omega,by omega⟩];simp only[Int.toNat_natCast];by_cases hc:cmpN (l.getD i Zab.d).fNet (l.getD v3 Zab.d).fNet≥0
   ·rw[if_pos hc];exact .inr ⟨fun q=>by have:=q i (Nat.le_refl _) h;omega,rfl⟩
   ·rw[if_neg hc,add1 (n:=l.length) (by omega) hl];rcases ih (i+1) (by omega) (by omega)with⟨q1,q2⟩|⟨q1,q2⟩
    ·refine .inl ⟨fun j h1 h2=>?_,q2⟩;by_cases e:j=i
     ·subst e;omega
     ·exact q1 j (by omega) h2
    ·exact .inr ⟨fun q=>q1 fun j h1 h2=>q j (by omega) h2,q2⟩
  ·rw[if_neg (by omega),add1 h3 hl];exact .inl ⟨fun j h1 h2=>by omega,rfl⟩
theorem ZGi(l:List Zab)(hl:l.length≤maxLen)(hok:∀b∈l,b.ok):∀fu (i:Nat),i≤l.length→l.length-i<fu →
  ∃r,Zbg l fu (i:Int)=some r∧(r=true↔∀j,i≤j→j<l.length→ZhQ (l.getD j Zab.d)=true∧∀q,0≤q→q<j→cmpN (l.getD q Zab.d).fNet (l.getD j Zab.d).fNet<0):=by
 intro fu;induction fu with
 |zero=>intro _ _ h;omega
 |succ fu ih=>
  intro i hi hf;simp only[Zbg,Zal];by_cases h:i<l.length
  ·rw[if_pos (by omega),Zay ⟨by omega,by omega⟩];simp only[Int.toNat_natCast];rw[Zsl _ (hok _ (Zhd l Zab.d i h))];simp only[Option.bind_some];obtain⟨r,r1,r2⟩:=ih (i+1) (by omega) (by omega);have more:(∀j,i≤j→j<l.length→ZhQ (l.getD j Zab.d)=true∧∀q,0≤q→q<j→cmpN (l.getD q Zab.d).fNet (l.getD j Zab.d).fNet<0)↔(ZhQ (l.getD i Zab.d)=true∧∀q,0≤q→q<i→cmpN (l.getD q Zab.d).fNet (l.getD i Zab.d).fNet<0)∧r=true:=by
    rw[r2];constructor
    ·intro q;exact⟨q i (Nat.le_refl _) h,fun j h1 h2=>q j (by omega) h2⟩
    ·rintro ⟨q1,q2⟩ j h1 h2;by_cases e:j=i
     ·subst e;exact q1
     ·exact q2 j (by omega) h2
   rw[more];cases hb:ZhQ (l.getD i Zab.d)with
   |false=>exact⟨false,rfl,by simp⟩
   |true=>
    simp only[Bool.not_true,cond_false];rcases rr_in l hl i h (Zbg l fu) (((i:Int)-(0:Int)).toNat+2) 0 (by omega) (by omega)with⟨q1,q2⟩|⟨q1,q2⟩
    ·have q2:Zbw l (i:Int) (Zbg l fu) (((i:Int)-(0:Int)).toNat+2) 0=Zbg l fu ((i+1:Nat):Int):=q2;rw[q2];exact⟨r,r1,⟨fun q=>⟨⟨trivial,q1⟩,q⟩,fun q=>q.2⟩⟩
    ·have q2:Zbw l (i:Int) (Zbg l fu) (((i:Int)-(0:Int)).toNat+2) 0=some false:=q2;rw[q2];exact⟨false,rfl,by simp only[Bool.false_eq_true,false_iff];exact fun q=>q1 q.1.2⟩
  ·rw[if_neg (by omega)];exact⟨true,rfl,by simp;intro j h1 h2;omega⟩
theorem ZAp(l:List Zab)(hl:l.length≤maxLen)(hok:∀b∈l,b.ok):∃r,ZgL l=some r∧(r=true↔ZEI l):=by
 obtain⟨r,r1,r2⟩:=ZGi l hl hok ((((l.length:Nat):Int)-(0:Int)).toNat+2) 0 (by omega) (by omega);refine⟨r,r1,r2.trans ?_⟩;constructor
 ·intro h;exact(ZCS l).1 fun j h1 h2=>⟨(h j h1 h2).1,fun h0=>(h j h1 h2).2 (j-1) (by omega) (by omega)⟩
 ·rintro ⟨h1,h2⟩ j _ hj;refine⟨h1 _ (Zhd l _ j hj),fun q _ hq=>?_⟩;rw[Zdk l _ j hj,Zdk l _ q (by omega)];exact List.pairwise_iff_getElem.1 h2 q j (by omega) hj hq
def ZoX(l:List Zab)(n:Zas):Int:=ixOf (fun x=>decide (x.fNet=n)) l 0
def ZuH(l:List Zab)(n:Zas):Int:=ixOf (fun x=>decide (0<cmpN x.fNet n)) l 0
theorem ZDa(l:List Zab)(n:Zas)(hl:l.length≤maxLen):Zla l n=some (ZoX l n):=by
 simp only[Zla,Zcn];rw[show ((0:Int))=((0:Nat):Int)from rfl];rw[ZmY l Zab.d (fun x=>decide (x.fNet=n)) hl (fun fu i=>ZaO l n fu (l.length:Int) i) (fun i=>i) ?_ ?_ _ 0 (by omega) (by omega)]
 ·rfl
 ·intro fu i hi;simp only[ZaO,Zky,Zal,Option.bind_some];rw[if_pos (by omega),Zay ⟨by omega,by omega⟩];simp
 ·intro fu;simp only[ZaO,Zal];rw[if_neg (by omega)]
theorem ZAq(l:List Zab)(n:Zas)(hl:l.length≤maxLen):Zfh l n=some (ZoX l n):=by
 simp only[Zfh];rw[show ((0:Int))=((0:Nat):Int)from rfl];rw[ZmY l Zab.d (fun x=>decide (x.fNet=n)) hl (fun fu i=>Zcm l fu i n) (fun i=>i) ?_ ?_ _ 0 (by omega) (by omega)]
 ·rfl
 ·intro fu i hi;simp only[Zcm,Zal];rw[if_pos (by omega),Zay ⟨by omega,by omega⟩];simp
 ·intro fu;simp only[Zcm,Zal];rw[if_neg (by omega)]
theorem ZBb(l:List Zab)(b:Zab)(hl:l.length≤maxLen):ZbA l b=some (ZuH l b.fNet):=by
 simp only[ZbA];rw[show ((0:Int))=((0:Nat):Int)from rfl];rw[ZmY l Zab.d (fun x=>decide (0<cmpN x.fNet b.fNet)) hl (fun fu i=>ZaP l b fu (l.length:Int) i) (fun i=>i) ?_ ?_ _ 0 (by omega) (by omega)]
 ·rfl
 ·intro fu i hi;simp only[ZaP,ZlK,ZEf,Zal,Option.bind_some];rw[if_pos (by omega),Zay ⟨by omega,by omega⟩];simp
 ·intro fu;simp only[ZaP,Zal];rw[if_neg (by omega)]
def putB(l:List Zab)(b:Zab):List Zab:=l.takeWhile (fun x=>!decide (0<cmpN x.fNet b.fNet))++[b]++l.dropWhile (fun x=>!decide (0<cmpN x.fNet b.fNet))
def ZFB(x b:Zab):Zab:=⟨x.fNet,if b.fUntil>x.fUntil then b.fUntil else x.fUntil⟩
def addB(l:List Zab)(b:Zab)(most:Int):List Zab×Int:=if ZhQ b then if 0≤ZoX l b.fNet then(l.set (ZoX l b.fNet).toNat (ZFB (l.getD (ZoX l b.fNet).toNat Zab.d) b),0)else if(l.length:Int)≥most then([],5)else(putB l b,0)else([],1)
theorem ZCo(l:List Zab)(n:Zas)(h:0≤ZoX l n):(ZoX l n).toNat<l.length∧(l.getD (ZoX l n).toNat Zab.d).fNet=n:=by
 obtain⟨k,h1,h2,⟨x,h3,h4⟩,_⟩:=ZoJ _ l 0 h;have e:(ZoX l n).toNat=k:=by unfold ZoX;rw[h2];omega
 rw[e];refine⟨h1,?_⟩;rw[List.getD_eq_getElem?_getD,h3];simpa using h4
theorem ZCO(l:List Zab)(h:l.length≤10000):Zbz l=some l:=by
 unfold Zbz;rw[Zay (Zsc (by omega))]
theorem Zuv(l:List Zab)(i:Int)(e:Zab)(h:l.length≤10000)(h0:0≤i)(h1:i.toNat≤l.length):Zbe l i [e]=some (l.take i.toNat++[e]++l.drop i.toNat):=by
 unfold Zbe;rw[Zay ⟨h0,h1,by simp,by simp only[List.length_cons,List.length_nil];omega,by unfold maxLen;simp only[List.length_cons,List.length_nil];omega⟩]
theorem ZEl(l:List Zab)(b:Zab)(most:Int)(h:l.length≤10000)(hb:b.ok):ZmJ l b most=some (addB l b most):=by
 have hm:l.length≤maxLen:=by unfold maxLen;omega
 have hs:=Zuu (fun x:Zab=>decide (0<cmpN x.fNet b.fNet)) l 0;have hle:=Zyd (fun x:Zab=>decide (0<cmpN x.fNet b.fNet)) l 0;simp only[ZmJ,ZDb b hb,ZDa l _ hm,ZBb l b hm,ZCO l h,Option.bind_some,addB];cases ZhQ b
 ·rfl
 ·simp only[Bool.not_true,cond_false,if_true,Zal,ge_iff_le];by_cases h1:0≤ZoX l b.fNet
  ·obtain⟨f1,f2⟩:=ZCo l b.fNet h1;simp only[h1,if_true];rw[Zay ⟨trivial,by omega⟩];simp only[ZoN,f2,decide_true,cond_true,Option.bind_some];rw[Zay ⟨trivial,by omega⟩];simp only[ZFB,f2]
  ·simp only[h1,if_false];by_cases h2:most≤(l.length:Int)
   ·simp only[h2,if_true]
   ·simp only[h2,if_false];by_cases h3:ZuH l b.fNet<0
    ·rw[if_pos h3,Zuv l _ b h (by omega) (by simp)];simp only[Option.bind_some];obtain⟨h4,h5⟩:=hs.1 h3;unfold putB;rw[h4,h5];simp
    ·rw[if_neg h3];have h3':0≤ZuH l b.fNet:=by omega
     unfold ZuH at h3';rw[Zuv l _ b h (by omega) (by unfold ZuH;omega)];simp only[Option.bind_some];obtain⟨_,h4,h5⟩:=hs.2 h3';unfold putB ZuH;rw[h4,h5];rfl
theorem ZDE(l:List Zab)(e:Zab)(h:l.length≤10000):∀fu (i:Nat),i≤l.length→l.length-i<fu →
  Zdf l fu (i:Int) e=some (l.take i++putB (l.drop i) e,0):=by
 have hm:l.length≤maxLen:=by unfold maxLen;omega
 have hfin:∀i:Nat,i≤l.length→(need (0≤(i:Int)∧(i:Int)≤((l.length:Nat):Int)) <|
   need ((([]:List Zab)++(l.take (i:Int).toNat)).length * 40≤140737488355328∧(([]:List Zab)++(l.take (i:Int).toNat)).length≤maxLen) <|
   need (((([]:List Zab)++(l.take (i:Int).toNat))++([e]:List Zab)).length * 40≤140737488355328∧((([]:List Zab)++(l.take (i:Int).toNat))++([e]:List Zab)).length≤maxLen) <|
   need ((((([]:List Zab)++(l.take (i:Int).toNat))++([e]:List Zab))++(l.drop (i:Int).toNat)).length * 40≤140737488355328∧(((([]:List Zab)++(l.take (i:Int).toNat))++([e]:List Zab))++(l.drop (i:Int).toNat)).length≤maxLen) <|
   some ((((([]:List Zab)++(l.take (i:Int).toNat))++([e]:List Zab))++(l.drop (i:Int).toNat)),(0:Int)))=some (l.take i++[e]++l.drop i,0):=by
  intro i hi;rw[Zay ⟨by omega,by omega⟩,Zay (Zsc (by simp;omega)),Zay (Zsc (by simp;omega)),Zay (Zsc (by simp;omega))];simp
 intro fu;induction fu with
 |zero=>intro i _ h;omega
 |succ fu ih=>
  intro i hi hf;simp only[Zdf,Zzi,Option.bind_some,Zal];by_cases hlt:i<l.length
  ·rw[if_pos (by omega),Zay ⟨by omega,by omega⟩];have hd:=ZfK l Zab.d i hlt;by_cases hc:cmpN (l.getD i Zab.d).fNet e.fNet≤0
   ·rw[if_pos (by simpa using hc),add1 hlt hm,ih (i+1) (by omega) (by omega)];congr 2;unfold putB;rw[hd,List.takeWhile_cons,List.dropWhile_cons,if_pos (by simp;simpa using hc),if_pos (by simp;simpa using hc),List.take_succ_eq_append_getElem hlt];rw[Zdk l Zab.d i hlt];simp only[List.append_assoc,List.cons_append,List.nil_append]
   ·rw[if_neg (by simpa using hc),hfin i hi];congr 2;unfold putB;rw[hd,List.takeWhile_cons,List.dropWhile_cons,if_neg (by simp;simpa using hc),if_neg (by simp;simpa using hc)];simp
  ·rw[if_neg (by omega),hfin i hi];have:l.drop i=[]:=List.drop_eq_nil_of_le (by omega);rw[this];simp[putB]
theorem ZDF(l:List Zab)(b:Zab)(most:Int)(h:l.length≤10000)(hb:b.ok):Zgp l b most=some (addB l b most):=by
 have hm:l.length≤maxLen:=by unfold maxLen;omega
 simp only[Zgp,Zsl b hb,ZAq l _ hm,Option.bind_some,addB];cases ZhQ b
 ·rfl
 ·simp only[Bool.not_true,cond_false,if_true,Zal,ge_iff_le,List.nil_append];by_cases h1:0≤ZoX l b.fNet
  ·obtain⟨f1,f2⟩:=ZCo l b.fNet h1;simp only[h1,if_true];rw[Zay (Zsc (by omega)),Zay ⟨trivial,by omega⟩];unfold ZFB;by_cases hg:b.fUntil>(l.getD (ZoX l b.fNet).toNat Zab.d).fUntil
   ·simp only[hg,if_true]
   ·simp only[hg,if_false];congr 2;have e:(⟨(l.getD (ZoX l b.fNet).toNat Zab.d).fNet,(l.getD (ZoX l b.fNet).toNat Zab.d).fUntil⟩ : Zab)=l[(ZoX l b.fNet).toNat]:=by rw[Zdk l _ _ f1]
    rw[e,List.set_getElem_self]
  ·simp only[h1,if_false];by_cases h2:most≤(l.length:Int)
   ·simp only[h2,if_true]
   ·simp only[h2,if_false];have:=ZDE l b h ((((l.length:Nat):Int)-(0:Int)).toNat+2) 0 (by omega) (by omega);simpa using this
theorem ZDI(l:List Zab)(e:Zab):(putB l e).length=l.length+1:=by
 unfold putB;have:=congrArg List.length (List.takeWhile_append_dropWhile (p:=fun x:Zab=>!decide (0<cmpN x.fNet e.fNet)) (l:=l));simp only[List.length_append,List.length_cons,List.length_nil]at this ⊢;omega
theorem ZEt(l:List Zab)(e:Zab)(most:Int):(addB l e most).1.length≤l.length+1:=by
 unfold addB
 repeat' split
 all_goals simp[ZDI]
def u64r(x:Int):Prop:=0≤x∧x≤18446744073709551615
theorem ZmO(a:Int):u64r (IntKind.wrap .u64 a):=by
 unfold u64r;simp only[IntKind.wrap,IntKind.bits,IntKind.signed];simp;omega
theorem ZED{a:Int}(h:u64r a):IntKind.wrap .u64 a=a:=ZjH h.1 h.2
theorem Zrf{a:Int}(h:u64r a)(k:Int)(hk:0<k):IntKind.wrap .u64 (Int.tdiv a k)=Int.fdiv a k:=by
 obtain⟨n,rfl⟩ : ∃n:Nat,a=n:=⟨a.toNat,by have:=h.1;omega⟩;obtain⟨m,rfl⟩ : ∃m:Nat,k=m:=⟨k.toNat,by omega⟩;have h1:=h.2;rw[Int.fdiv_eq_tdiv_of_nonneg (by omega) (by omega)];refine ZED ⟨Int.tdiv_nonneg (by omega) (by omega),?_⟩;have:Int.tdiv (n:Int) (m:Int)≤(n:Int):=by
  rw[←Int.ofNat_tdiv];have:=Nat.div_le_self n m;omega
 omega
theorem pw30:(2:Int) ^ (min (30:Int).toNat (IntKind.bits .u64))=1073741824:=by decide
theorem pw27:(2:Int) ^ (min (27:Int).toNat (IntKind.bits .u64))=134217728:=by decide
theorem pw31:(2:Int) ^ (min (31:Int).toNat (IntKind.bits .u64))=2147483648:=by decide
theorem pw32:(2:Int) ^ (min (32:Int).toNat (IntKind.bits .u64))=4294967296:=by decide
theorem pw57:(2:Int) ^ (min (57:Int).toNat (IntKind.bits .u64))=144115188075855872:=by decide
theorem pw7:(2:Int) ^ (min (7:Int).toNat (IntKind.bits .u64))=128:=by decide
theorem Zya(x:Int)(h:u64r x):∃y,ZkS x=some y∧Zeb x=some y∧u64r y:=by
 unfold ZkS Zeb;simp only[pw30,pw27,pw31,Zrf h 1073741824 (by omega),Zrf (ZmO _) 134217728 (by omega),Zrf (ZmO _) 2147483648 (by omega)];exact⟨_,rfl,rfl,ZmO _⟩
theorem ZGn(a b:Nat)(ha:a<2 ^ 64)(hb:b<2 ^ 64):IntKind.u64.wrap (((BitVec.ofInt (IntKind.bits .u64) (a:Int)) ||| (BitVec.ofInt (IntKind.bits .u64) (b:Int))).toNat:Int)=((a |||b:Nat):Int):=by
 have h1:∀c:Nat,c<2 ^ 64→(BitVec.ofInt 64 (c:Int)).toNat=c:=fun c hc=>by
  rw[BitVec.ofInt_natCast,BitVec.toNat_ofNat];exact Nat.mod_eq_of_lt hc
 have h2:((BitVec.ofInt (IntKind.bits .u64) (a:Int)) ||| (BitVec.ofInt (IntKind.bits .u64) (b:Int))).toNat=a |||b:=by
  show (BitVec.ofInt 64 (a:Int) |||BitVec.ofInt 64 (b:Int)).toNat=a |||b;rw[BitVec.toNat_or,h1 a ha,h1 b hb]
 rw[h2];have:=Nat.or_lt_two_pow ha hb;exact ZjH (by omega) (by omega)
theorem rot7(x:Int)(h:u64r x):ZdP x 7=some (IntKind.wrap .u64 (IntKind.wrap .u64 (x * 128)+IntKind.wrap .u64 (Int.tdiv x 144115188075855872))):=by
 unfold ZdP;have e7:IntKind.wrap .u64 (((BitVec.ofInt (IntKind.bits .u64) (IntKind.wrap .u64 (7:Int))) &&& (BitVec.ofInt (IntKind.bits .u64) (63:Int))).toNat:Int)=7:=by decide
 have e57:IntKind.wrap .u64 ((64:Int)-7)=57:=by decide
 simp only[e7,e57,pw57,pw7];rw[Zay (by omega),Zay (by omega),Zrf h 144115188075855872 (by omega)];obtain⟨n,rfl⟩ : ∃n:Nat,x=n:=⟨x.toNat,by have:=h.1;omega⟩;have h1:=h.2;have e1:IntKind.wrap .u64 ((n:Int) * 128)=((n % 2 ^ 57 * 128:Nat):Int):=by
  simp only[IntKind.wrap,IntKind.bits,IntKind.signed];simp;omega
 have e2:Int.fdiv (n:Int) 144115188075855872=((n / 2 ^ 57:Nat):Int):=by
  rw[Int.fdiv_eq_tdiv_of_nonneg (by omega) (by omega)];exact(Int.ofNat_tdiv n 144115188075855872).symm
 have hlt:n % 2 ^ 57 * 128<2 ^ 64:=by omega
 have hlt2:n / 2 ^ 57<2 ^ 7:=by omega
 rw[e1,e2,ZGn _ _ hlt (by omega)];have e3:n % 2 ^ 57 * 128 |||n / 2 ^ 57=n % 2 ^ 57 * 128+n / 2 ^ 57:=by
  have:=Nat.shiftLeft_add_eq_or_of_lt hlt2 (n % 2 ^ 57);rw[Nat.shiftLeft_eq]at this;exact this.symm
 rw[e3];congr 1;rw[ZjH (by omega) (by omega)];omega
theorem ZEP(k:Int)(l:List Int)(hl:l.length≤1000):∃h,ZoL k l=some h∧Zfz k l=some h∧u64r h:=by
 have hL:l.length≤maxLen:=by unfold maxLen;omega
 have main:∀fu (i:Nat) (v:Int),u64r v→i≤l.length→l.length-i<fu→∃h,ZiF fu v l (l.length:Int) (i:Int)=some h∧Zds l fu v (i:Int)=some h∧u64r h:=by
  intro fu;induction fu with
  |zero=>intro i v _ _ h;omega
  |succ fu ih=>
   intro i v hv hi hf;unfold ZiF Zds;simp only[Zal];by_cases h:i<l.length
   ·rw[if_pos (by omega),if_pos (by omega),Zay ⟨by omega,by omega⟩,Zay ⟨by omega,by omega⟩,rot7 v hv];obtain⟨y,h1,h2,h3⟩:=Zya _ (ZmO ((l.getD ((i:Int)).toNat (0:Int))+(11400714819323198485:Int)));simp only[h1,h2,Option.bind_some];obtain⟨z,h4,h5,h6⟩:=Zya _ (ZmO (((BitVec.ofInt (IntKind.bits .u64) (IntKind.wrap .u64 (IntKind.wrap .u64 (v * 128)+IntKind.wrap .u64 (Int.tdiv v 144115188075855872)))) ^^^ (BitVec.ofInt (IntKind.bits .u64) y)).toNat:Int));simp only[h4,h5,Option.bind_some,add1 h hL];exact ih (i+1) z h6 (by omega) (by omega)
   ·rw[if_neg (by omega),if_neg (by omega)];exact⟨v,rfl,rfl,hv⟩
 unfold ZoL Zfz;obtain⟨y,h1,h2,h3⟩:=Zya _ (ZmO (k+(11400714819323198485:Int)));simp only[h1,h2,Option.bind_some];exact main _ 0 y h3 (by omega) (by omega)
theorem ZFx(k:Int)(n:Zas):∃h,Zon k n=some h∧Zgq k n=some h∧u64r h:=by
 unfold Zon Zgq;cases n.fAddr.fV6
 ·obtain⟨h,h1,h2,h3⟩:=ZEP k [(4:Int),n.fAddr.fHi,n.fAddr.fLo,(IntKind.wrap .u64 n.fBits)] (by simp);simp only[cond_false,h1,h2,Option.bind_some];exact⟨h,rfl,rfl,h3⟩
 ·obtain⟨h,h1,h2,h3⟩:=ZEP k [(6:Int),n.fAddr.fHi,n.fAddr.fLo,(IntKind.wrap .u64 n.fBits)] (by simp);simp only[cond_true,h1,h2,Option.bind_some];exact⟨h,rfl,rfl,h3⟩
theorem ZEk(h n:Int)(hh:u64r h)(h1:1≤n)(h8:n≤8):∃r,ZkT h n=some r∧Zfi h n=some r∧0≤r∧r<n:=by
 unfold ZkT Zfi;simp only[Zal,pw32];rw[if_neg (by omega),if_neg (by omega),if_neg (by omega),if_neg (by omega),Zrf hh 4294967296 (by omega),Zrf (ZmO _) 4294967296 (by omega)];refine⟨_,rfl,rfl,?_⟩;obtain⟨a,rfl⟩ : ∃a:Nat,h=a:=⟨h.toNat,by have:=hh.1;omega⟩;have h2:=hh.2;have e1:Int.fdiv (a:Int) 4294967296=((a / 4294967296:Nat):Int):=by
  rw[Int.fdiv_eq_tdiv_of_nonneg (by omega) (by omega)];exact(Int.ofNat_tdiv a 4294967296).symm
 rw[e1,ZED (a:=n) ⟨by omega,by omega⟩];have hb:∀m:Nat,1≤m→m≤8→a / 4294967296*m<4294967296*m:=fun m h1 h2=>by
  have:a / 4294967296<4294967296:=by omega
  exact Nat.mul_lt_mul_of_pos_right this (by omega)
 obtain⟨m,rfl⟩ : ∃m:Nat,n=m:=⟨n.toNat,by omega⟩;have hb:=hb m (by omega) (by omega);generalize hq:a / 4294967296*m=q at hb;have e2:((a / 4294967296:Nat):Int)*(m:Int)=(q:Int):=by rw[←hq];simp
 rw[e2,ZjH (a:=(q:Int)) (by omega) (by omega)];have e3:Int.fdiv (q:Int) 4294967296=((q / 4294967296:Nat):Int):=by
  rw[Int.fdiv_eq_tdiv_of_nonneg (by omega) (by omega)];exact(Int.ofNat_tdiv q 4294967296).symm
 rw[e3,ZgM (by omega) (by omega)];omega
theorem ZAE{a:Zaj}(h:Fits a):ZoU a (wid a)=a:=by
 refine ZrT (ZqN h _) h (ZmX a _) fun i hi=>?_;have hw:wid (ZoU a (wid a))=wid a:=by unfold wid;rw[ZmX]
 rw[hw]at hi;rw[ZoS h (wid a) i (Nat.le_refl _) hi,decide_eq_true hi,Bool.true_and]
def Zgu(a:Zaj):Zas:=if ZeR a=true then⟨a,(wid a:Int)⟩else⟨⟨false,0,0⟩,0⟩
theorem Zxj(a:Zaj)(h:a.ok):ZiH a=some (Zgu a):=by
 unfold ZiH Zgu;simp only[ZCZ,Option.bind_some,ZBV a h];by_cases hr:ZeR a=true
 ·rw[if_pos ⟨hr,by omega,by omega⟩,if_pos hr];simp only[Int.toNat_natCast,ZAE (Znw h hr)]
 ·rw[if_neg (fun x=>hr x.1),if_neg hr]
theorem ZEc(hi lo:Nat)(h1:hi<2 ^ 64)(h2:lo<2 ^ 64):∀fu (i:Nat) (z:Int),i≤64→64-i<fu→(i<64→z=((2 ^ (63-i):Nat):Int)) →
  Zbk (hi:Int) (lo:Int) 128 fu ((hi-hi % 2 ^ (64-i):Nat):Int) ((lo-lo % 2 ^ (64-i):Nat):Int) z (i:Int)=some ((hi:Int),(lo:Int)):=by
 intro fu;induction fu with
 |zero=>intro i z _ h;omega
 |succ fu ih=>
  intro i z hi64 hf hz;unfold Zbk;simp only[Zal];by_cases h:i<64
  ·have e1:Zaw (i:Int) 64=((i+64:Nat):Int):=by rw[ZfP (by omega) (by omega)];omega
   have e2:Zaw (i:Int) 1=((i+1:Nat):Int):=by rw[ZfP (by omega) (by omega)];omega
   have hz:=hz h;obtain⟨p,hp⟩ : ∃p:Nat,p=2 ^ (63-i):=⟨_,rfl⟩;have hp0:0<p:=by rw[hp];exact Nat.two_pow_pos _
   have hp1:2 ^ (64-i)=2*p:=by rw[hp,show 64-i=(63-i)+1 by omega,Nat.pow_succ];omega
   have hp3:p≤2 ^ 63:=by rw[hp];exact Nat.pow_le_pow_right (by omega) (by omega)
   have hp2:p<2 ^ 64:=by omega
   rw[←hp]at hz;subst hz;have hnext:IntKind.wrap .u64 (Int.tdiv (p:Int) 2)=((p / 2:Nat):Int):=by
    rw[Zrf ⟨by omega,by omega⟩ 2 (by omega),Int.fdiv_eq_tdiv_of_nonneg (by omega) (by omega)];exact(Int.ofNat_tdiv p 2).symm
   have hz2:i+1<64→((p / 2:Nat):Int)=((2 ^ (63-(i+1)):Nat):Int):=fun hh=>by
    have:p=2 * 2 ^ (63-(i+1)):=by rw[hp,show 63-i=(63-(i+1))+1 by omega,Nat.pow_succ];omega
    rw[this];congr 1;omega
   have bit:∀n:Nat,n<2 ^ 64→IntKind.wrap .u64 (Int.tdiv (n:Int) (p:Int))=((n / p:Nat):Int):=fun n hn=>by
    rw[Zrf ⟨by omega,by omega⟩ _ (by omega),Int.fdiv_eq_tdiv_of_nonneg (by omega) (by omega)];exact(Int.ofNat_tdiv n p).symm
   have step:∀n:Nat,n<2 ^ 64→(n / p % 2=1→IntKind.wrap .u64 (((n-n % 2 ^ (64-i):Nat):Int)+(p:Int))=((n-n % 2 ^ (64-(i+1)):Nat):Int))∧(n / p % 2≠1→((n-n % 2 ^ (64-i):Nat):Int)=((n-n % 2 ^ (64-(i+1)):Nat):Int)):=fun n hn=>by
    have e:2 ^ (64-(i+1))=p:=by rw[hp];congr 1;omega
    rw[e,hp1];have hm:n % (2*p)=n % p+p*(n / p % 2):=by rw[Nat.mul_comm 2 p];exact Nat.mod_mul
    have hm2:n % p<p:=Nat.mod_lt _ hp0;have hm3:n % (2*p)≤n:=Nat.mod_le _ _;refine⟨fun hb=>?_,fun hb=>?_⟩
    ·rw[hb,Nat.mul_one]at hm;rw[ZjH (by omega) (by omega)];omega
    ·have hb0:n / p % 2=0:=by omega
     rw[hb0,Nat.mul_zero]at hm;rw[hm];congr 1
   have tm:∀n:Nat,((Int.tmod ((n:Nat):Int) 2)==(1:Int))=decide (n % 2=1):=fun n=>by
    have:Int.tmod ((n:Nat):Int) 2=((n % 2:Nat):Int):=(Int.ofNat_tmod n 2).symm;rw[this];by_cases hh:n % 2=1
    ·rw[hh];rfl
    ·rw[decide_eq_false hh];exact beq_false_of_ne (by omega)
   have second:∀v8:Int,v8=((hi-hi % 2 ^ (64-(i+1)):Nat):Int)→Zdg (hi:Int) (lo:Int) 128 ((lo-lo % 2 ^ (64-i):Nat):Int) (p:Int) (i:Int) (Zbk (hi:Int) (lo:Int) 128 fu) v8=some ((hi:Int),(lo:Int)):=by
    rintro v8 rfl;unfold Zdg;simp only[Zal,e1,e2,hnext,bit lo h2,tm];rw[if_pos (by omega),Zay (by omega)];by_cases hb:lo / p % 2=1
    ·rw[if_pos hb,(step lo h2).1 hb];exact ih (i+1) _ (by omega) (by omega) hz2
    ·rw[if_neg hb,(step lo h2).2 hb];exact ih (i+1) _ (by omega) (by omega) hz2
   rw[if_pos (by omega),if_pos (by omega),Zay (by omega)];simp only[bit hi h1,tm,Zal];by_cases hb:hi / p % 2=1
   ·rw[if_pos hb];exact second _ ((step hi h1).1 hb)
   ·rw[if_neg hb];exact second _ ((step hi h1).2 hb)
  ·have:i=64:=by omega
   subst this;rw[if_neg (by omega)];simp[Nat.mod_one]
theorem ZBE(hi lo:Nat)(h1:hi<2 ^ 64)(h2:lo<2 ^ 64):Zdx (hi:Int) (lo:Int) 128=some ((hi:Int),(lo:Int)):=by
 unfold Zdx;have:=ZEc hi lo h1 h2 66 0 9223372036854775808 (by omega) (by omega) (fun _=>by decide);have e1:hi-hi % 2 ^ (64-0)=0:=by rw[Nat.sub_zero,Nat.mod_eq_of_lt h1];omega
 have e2:lo-lo % 2 ^ (64-0)=0:=by rw[Nat.sub_zero,Nat.mod_eq_of_lt h2];omega
 rw[e1,e2]at this;exact this
theorem Zzg(a:Zaj)(h:a.ok):Zey a=some (Zgu a):=by
 unfold Zey Zhn Zgu;simp only[ZrI,Option.bind_some,Zmf a h,Zal];by_cases hr:ZeR a=true
 ·rw[hr,Bool.not_true,cond_false,if_neg (by omega),if_neg (by omega),if_pos rfl];unfold Zhm Zet Zes;simp only[Zmf a h,hr,Bool.not_true,cond_false,Option.bind_some,Zal,ZrI];rw[if_neg (by omega),if_neg (by omega)];have hf:=Znw h hr;obtain⟨v6,hi,lo⟩:=a;have a1:=hf.hi0;have a2:=hf.hi1;have a3:=hf.lo0;have a4:=hf.lo1;simp only at a1 a2 a3 a4;obtain⟨x,rfl⟩ : ∃x:Nat,hi=x:=⟨hi.toNat,by omega⟩;obtain⟨y,rfl⟩ : ∃y:Nat,lo=y:=⟨lo.toNat,by omega⟩;cases v6
  ·have hv:=hf.v4 rfl;have e:wid ⟨false,(x:Int),(y:Int)⟩=32:=rfl;have e1:Zaw (96:Int) ((32:Nat):Int)=128:=by decide
   simp only[e,e1,cond_false];have:=ZBE 0 y (by omega) (by omega);have e0:Zdx (0:Int) (y:Int) 128=some (((0:Nat):Int),(y:Int)):=this;rw[e0,Option.bind_some];simp only at hv;simp[hv.1]
  ·have e:wid ⟨true,(x:Int),(y:Int)⟩=128:=rfl;simp only[e,cond_true];have:=ZBE x y (by omega) (by omega);have e0:Zdx (x:Int) (y:Int) ((128:Nat):Int)=some ((x:Int),(y:Int)):=this;rw[e0,Option.bind_some];rfl
 ·simp[hr]
def Zks(a:Zaj)(s n:Int):Int:=(ZjA a s n).getD 0
def Zmi(p:Int):Int:=if p<1 then 1 else if p>8 then 8 else p
theorem ZrE(a:Zaj)(h:a.ok)(s n:Int):ZjA a s n=some (Zks a s n)∧Zfx a s n=some (Zks a s n)∧0≤Zks a s n∧Zks a s n<Zmi n:=by
 have e1:ZiV n=some (Zmi n):=by
  unfold ZiV Zmi;congr 1
  repeat' split
  all_goals omega
 have e2:ZcS n=some (Zmi n):=by
  unfold ZcS Zmi;simp only[Zal]
  repeat' split
  all_goals rfl
 have e3:1≤Zmi n∧Zmi n≤8:=by
  unfold Zmi
  repeat' split
  all_goals omega
 obtain⟨m,h1,h2,h3⟩:=ZFx s (Zgu a);obtain⟨r,h4,h5,h6,h7⟩:=ZEk m (Zmi n) h3 e3.1 e3.2;have q1:ZjA a s n=some r:=by
  unfold ZjA;simp only[Zxj a h,h1,e1,h4,Option.bind_some]
 have q2:Zfx a s n=some r:=by
  unfold Zfx;simp only[Zzg a h,h2,e2,h5,Option.bind_some]
 have q3:Zks a s n=r:=by unfold Zks;rw[q1];rfl
 rw[q3];exact⟨q1,q2,h6,h7⟩
end Go.Proofs.YtdjfoojllbfcgaaGreat
