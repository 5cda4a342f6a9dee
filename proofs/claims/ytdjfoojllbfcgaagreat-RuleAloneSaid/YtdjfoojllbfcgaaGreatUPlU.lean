import Derived.Test.YtdjfoojllbfcgaaGreatURuaA3
import Derived.Test.YtdjfoojllbfcgaaGreatUPlA
namespace Go.Proofs.YtdjfoojllbfcgaaGreat
set_option linter.unusedVariables false
set_option linter.unusedSimpArgs false
def Zkk:Zaa:=⟨⟨⟨false,0,0⟩,0⟩,false,0,⟨0,0⟩,0,0⟩
def valZ:Zae:=⟨0,Zkk,[],[]⟩
def locZ:Zay:=⟨0,0,0⟩
def opZ:ZaK:=⟨0,0,locZ,0,0,valZ,false⟩
def endZ:Zah:=⟨⟨false,0,0⟩,0⟩
def locN(l:Zay):Zay:=if l.fKind=1\/l.fKind=2\/l.fKind=3\/l.fKind=4 then⟨l.fKind,0,0⟩else if l.fKind=5 then⟨l.fKind,l.fShard,0⟩else if l.fKind=6 then l else locZ
def valN(k:Int)(v:Zae):Zae:=if k=1\/k=2\/k=5 then⟨v.fN,Zkk,[],[]⟩else if k=3 then⟨0,Zkk,v.fBans,[]⟩else if k=4 then⟨0,Zkk,[],v.fBook⟩else if k=6 then⟨0,v.fPeer,[],[]⟩else valZ
def opN(o:ZaK):ZaK:=if o.fKind=1\/o.fKind=2\/o.fKind=3\/o.fKind=4 then⟨o.fKind,o.fLock,locZ,0,0,valZ,o.fMark⟩else if o.fKind=5 then⟨o.fKind,0,locN o.fLoc,0,0,valZ,o.fMark⟩else if o.fKind=6 then⟨o.fKind,0,locN o.fLoc,0,0,valN o.fLoc.fKind o.fVal,o.fMark⟩else if o.fKind=7 then⟨o.fKind,0,locN o.fLoc,o.fOld,o.fNew,valZ,o.fMark⟩else if o.fKind=8 then⟨o.fKind,0,locZ,0,0,valZ,o.fMark⟩else opZ
theorem ZdI(a b:Int){α:Type}(x y:α):(bif a==b then x else y)=if a=b then x else y:=by
 by_cases h:a=b
 ·subst h;simp
 ·rw[if_neg h,beq_false_of_ne h];rfl
theorem ZBG(l:Zay):ZkA l=some (locN l):=by
 obtain⟨k,s,t⟩:=l;unfold ZkA ZhM locN;simp only[ZdI]
 repeat' split
 all_goals first|rfl | (simp_all [locZ];done) | (exfalso;omega)
theorem ZBq(k:Int)(v:Zae):ZnD k v=some (valN k v):=by
 unfold ZnD ZiP valN;simp only[ZdI]
 repeat' split
 all_goals first|rfl | (simp_all [valZ,Zkk];done) | (exfalso;omega)
theorem ZCk(o:ZaK):ZnE o=some (opN o):=by
 unfold ZnE ZhN opN;simp only[ZdI,ZBG,ZBq,Option.bind_some]
 repeat' split
 all_goals first|rfl | (simp_all [opZ,locZ,valZ,Zkk];done) | (exfalso;omega)
theorem ZaS{α β:Type}(x:α)(f:α->Option β):(some x).bind f=f x:=by simp
theorem ZHN(o:ZaK):Zcr ⟨[]⟩ o=some (.pan (opN o)):=by
 simp[Zcr,ZCk]
theorem ZGc(v:Zae)(r:List Zae)(o:ZaK):Zcr ⟨v :: r⟩ o=some (.ret v ⟨r⟩):=by
 have h:(((v :: r).length:Nat):Int)≠0:=by simp only[List.length_cons];omega
 unfold Zcr;simp only[ZdI,if_neg h];rw[Zaw (by simp only[List.length_cons];omega),Zaw (by simp only[List.length_cons];omega)];rfl
section
variable {aV:List Zae} (hL:aV.length<=1000000) {a:Nat} (ha:a<=aV.length)
include hL ha
end
def Zbr(p:Int):Nat:=if p<1 then 1 else if p>8 then 8 else p.toNat
theorem ZgD(p:Int):1<=Zbr p/\Zbr p<=8:=by unfold Zbr;split<;>(try split)<;>omega
theorem Zst(p:Int):Ziu p=some (Zbr p:Int):=by
 unfold Ziu Zbr;congr 1
 repeat' split
 all_goals omega
theorem Zvs(p:Int):Zdn p=some (Zbr p:Int):=by
 unfold Zdn Zbr;simp only[Zal]
 repeat' split
 all_goals first|rfl | (congr 1;omega)|omega
theorem ZGV{i:Nat}(h:i<=1000000):ZaV ((i+1:Nat):Int) 1=(i:Int):=by
 unfold ZaV;have:IntKind.i64.wrap (((i+1:Nat):Int)-1)=((i+1:Nat):Int)-1:=ZlB (by omega) (by omega);exact this.trans (by omega)
theorem sub0:ZaV 0 1 = -1:=by decide
theorem ZvZ(l:List Zab)(h:l.length<=1000000):ZgO l l=some true:=by
 have aP:∀(k i f:Nat),l.length-i=k->i<=l.length->k+1<=f->ZcU l l f i=some true:=by
  intro k;induction k with
  |zero=>
   intro i f hk hi hf;obtain⟨f,rfl⟩ : ∃x,f=x+1:=⟨f-1,by omega⟩;have hc:¬((i:Int)<(l.length:Int)):=by omega
   unfold ZcU;simp only[Zal,if_neg hc]
  |succ k ih=>
   intro i f hk hi hf;obtain⟨f,rfl⟩ : ∃x,f=x+1:=⟨f-1,by omega⟩;have hc:(i:Int)<(l.length:Int):=by omega
   have e1:Zar (i:Int) 1=((i+1:Nat):Int):=add1 (n:=i+1) (by omega) (by simp only[maxLen];omega);unfold ZcU;simp only[Zal,if_pos hc,e1,decide_true,Bool.not_true,cond_false];rw[Zaw (by omega),Zaw (by omega)];exact ih (i+1) f (by omega) (by omega) (by omega)
 unfold ZgO;simp only[bne_self_eq_false,cond_false];exact aP l.length 0 _ (by omega) (by omega) (by omega)
theorem ZvY(l:List Zac)(h:l.length<=1000000):ZgN l l=some true:=by
 have aP:∀(k i f:Nat),l.length-i=k->i<=l.length->k+1<=f->ZcT l l f i=some true:=by
  intro k;induction k with
  |zero=>
   intro i f hk hi hf;obtain⟨f,rfl⟩ : ∃x,f=x+1:=⟨f-1,by omega⟩;have hc:¬((i:Int)<(l.length:Int)):=by omega
   unfold ZcT;simp only[Zal,if_neg hc]
  |succ k ih=>
   intro i f hk hi hf;obtain⟨f,rfl⟩ : ∃x,f=x+1:=⟨f-1,by omega⟩;have hc:(i:Int)<(l.length:Int):=by omega
   have e1:Zar (i:Int) 1=((i+1:Nat):Int):=add1 (n:=i+1) (by omega) (by simp only[maxLen];omega);unfold ZcT;simp only[Zal,if_pos hc,e1,decide_true,Bool.not_true,cond_false];rw[Zaw (by omega),Zaw (by omega)];exact ih (i+1) f (by omega) (by omega) (by omega)
 unfold ZgN;simp only[bne_self_eq_false,cond_false];exact aP l.length 0 _ (by omega) (by omega) (by omega)
theorem Zqr(l:List Zaa)(h:l.length<=1000000):ZeX l l=some true:=by
 have aP:∀(k i f:Nat),l.length-i=k->i<=l.length->k+1<=f->ZcK l l f i=some true:=by
  intro k;induction k with
  |zero=>
   intro i f hk hi hf;obtain⟨f,rfl⟩ : ∃x,f=x+1:=⟨f-1,by omega⟩;have hc:¬((i:Int)<(l.length:Int)):=by omega
   unfold ZcK;simp only[Zal,if_neg hc]
  |succ k ih=>
   intro i f hk hi hf;obtain⟨f,rfl⟩ : ∃x,f=x+1:=⟨f-1,by omega⟩;have hc:(i:Int)<(l.length:Int):=by omega
   have e1:Zar (i:Int) 1=((i+1:Nat):Int):=add1 (n:=i+1) (by omega) (by simp only[maxLen];omega);unfold ZcK;simp only[Zal,if_pos hc,e1,decide_true,Bool.not_true,cond_false];rw[Zaw (by omega),Zaw (by omega)];exact ih (i+1) f (by omega) (by omega) (by omega)
 unfold ZeX;simp only[bne_self_eq_false,cond_false];exact aP l.length 0 _ (by omega) (by omega) (by omega)
theorem ZuO(r:Zap)(h:r.fPeers.length<=1000000):ZeW r r=some true:=by
 unfold ZeW;simp only[beq_self_eq_true,decide_true,cond_true,Zqr _ h,ZaS]
inductive Pr (α:Type) where
 |ret (x:α)
 |ask (o:ZaK) (k:Zae->Pr α)
 |no
def Pr.bind{α β:Type}:Pr α->(α->Pr β)->Pr β | .ret x,f=>f x | .ask o k,f=>.ask o fun v=>(k v).bind f | .no,_=>.no
theorem Pr.bind_ret{α β:Type}(x:α)(f:α->Pr β):(Pr.ret x).bind f=f x:=rfl
theorem Pr.bind_ask{α β:Type}(o:ZaK)(k:Zae->Pr α)(f:α->Pr β):(Pr.ask o k).bind f=.ask o fun v=>(k v).bind f:=rfl
theorem Pr.bind_assoc{α β γ:Type}(p:Pr α)(f:α->Pr β)(g:β->Pr γ):(p.bind f).bind g=p.bind fun x=>(f x).bind g:=by
 induction p with
 |ret x=>rfl
 |ask o k ih=>simp only[Pr.bind_ask,ih]
 |no=>rfl
def runT{α:Type}:Pr α->List Zae->Option (Tout α) | .ret x,l=>some (.ret x ⟨l⟩) | .ask o _,[]=>some (.pan (opN o)) | .ask _ k,v :: l=>runT (k v) l | .no,_=>none
theorem ZFc{α:Type}(p:Pr α):∀(l:List Zae)(s:ByteArray),runT p l≠some (.bad s):=by
 induction p with
 |ret x=>intro l s h;simp[runT]at h
 |ask o k ih=>
  intro l s;cases l with
  |nil=>simp[runT]
  |cons v l=>exact ih v l s
 |no=>intro l s h;simp[runT]at h
theorem ZCN{α:Type}(p:Pr α):∀(l:List Zae)(x:α)(g:Zan),runT p l=some (.ret x g)->∃a,a<=l.length/\g=⟨l.drop a⟩:=by
 induction p with
 |ret y=>intro l x g h;simp[runT]at h;exact⟨0,Nat.zero_le _,by rw[<-h.2];rfl⟩
 |ask o k ih=>
  intro l x g h;cases l with
  |nil=>simp[runT]at h
  |cons v l=>
   obtain⟨a,h1,h2⟩:=ih v l x g h;exact⟨a+1,by simp only[List.length_cons];omega,h2⟩
 |no=>intro l x g h;simp[runT]at h
theorem ZbH{α β:Type}{p:Pr α}{f:α->Pr β}{l:List Zae}{F:Tout α->Option (Tout β)}(h1:∀x a,a<=l.length->runT p l=some (.ret x ⟨l.drop a⟩)->F (.ret x ⟨l.drop a⟩)=runT (f x) (l.drop a))(h2:∀o,F (.pan o)=some (.pan o)) :
  (runT p l).bind F=runT (p.bind f) l:=by
 induction p generalizing l with
 |ret x=>
  have:=h1 x 0 (Nat.zero_le _) rfl;simpa[runT,Pr.bind]using this
 |ask o k ih=>
  cases l with
  |nil=>simp only[runT,Pr.bind,Option.bind_some,h2]
  |cons v l=>
   simp only[runT,Pr.bind];refine ih v fun x a ha h=>?_;exact h1 x (a+1) (by simp only[List.length_cons];omega) h
 |no=>rfl
theorem ZjL{α:Type}{p:Pr α}{l:List Zae}{F:Tout α->Option (Tout α)}(h1:∀x g,F (.ret x g)=some (.ret x g))(h2:∀o,F (.pan o)=some (.pan o)):(runT p l).bind F=runT p l:=by
 cases h:runT p l with
 |none=>rfl
 |some t=>
  cases t with
  |ret x g=>exact h1 x g
  |pan o=>exact h2 o
  |bad s=>exact absurd h (ZFc p l s)
def Zms(l:Zay):Pr Zae:=.ask ⟨5,0,l,0,0,valZ,false⟩ .ret
def Zkl(l:Zay)(v:Zae)(ag:Bool):Pr Unit:=.ask ⟨6,0,l,0,0,v,ag⟩ fun _=>.ret ()
def keyP(k lock:Int)(ag:Bool):Pr Unit:=.ask ⟨k,lock,locZ,0,0,valZ,ag⟩ fun _=>.ret ()
def ZGZ(k old aj:Int)(ag:Bool):Pr Bool:=.ask ⟨7,0,⟨k,0,0⟩,old,aj,valZ,ag⟩ fun v=>.ret (v.fN==1)
theorem ZpL{α:Type}(f:Zae->α)(o:ZaK)(l:List Zae):((Zcr ⟨l⟩ o).bind fun x=>match x with | .ret v g=>some (Tout.ret (f v) g) | .pan q=>some (.pan q) | .bad s=>some (.bad s))=runT (.ask o fun v=>.ret (f v)) l:=by
 cases l with
 |nil=>rw[ZHN];rfl
 |cons v r=>rw[ZGc];rfl
theorem Zqd(l:List Zae)(c:Zay):Zeh ⟨l⟩ c false=runT (Zms c) l:=ZpL id _ l
theorem ZnU(l:List Zae)(c:Zay)(v:Zae)(ag:Bool):ZdM ⟨l⟩ c v ag=runT (Zkl c v ag) l:=ZpL (fun _=>()) _ l
theorem ZGj(l:List Zae)(k old aj:Int)(ag:Bool):Zjq ⟨l⟩ ⟨k,0,0⟩ old aj ag=runT (ZGZ k old aj ag) l:=ZpL (fun v=>v.fN==1) _ l
theorem Zqc(l:List Zae)(k:Int)(ag:Bool):Zeg ⟨l⟩ k ag=runT (keyP 1 k ag) l:=ZpL (fun _=>()) _ l
theorem ZyL(l:List Zae)(k:Int)(ag:Bool):Zhr ⟨l⟩ k ag=runT (keyP 2 k ag) l:=ZpL (fun _=>()) _ l
theorem ZmZ(l:List Zae)(k:Int)(ag:Bool):Zcy ⟨l⟩ k ag=runT (keyP 3 k ag) l:=ZpL (fun _=>()) _ l
theorem ZBn(l:List Zae)(k:Int)(ag:Bool):ZhX ⟨l⟩ k ag=runT (keyP 4 k ag) l:=ZpL (fun _=>()) _ l
theorem ZBg(l:List Zae)(ag:Bool):ZhW ⟨l⟩ ag=runT (keyP 8 0 ag) l:=ZpL (fun _=>()) _ l
theorem ZwC{c:Zay}{l:List Zae}{x:Zae}{g:Zan}(h:runT (Zms c) l=some (.ret x g)):∃r,l=x :: r/\g=⟨r⟩:=by
 cases l with
 |nil=>simp[runT,Zms]at h
 |cons v r=>
  simp only[runT,Zms,Option.some.injEq,Tout.ret.injEq]at h;exact⟨r,by rw[h.1],h.2.symm⟩
def Zpo(part:Int):Nat->Nat->List Zaa->Pr (List Zaa)|0,_,w=>.ret w|k+1,i,w=>(Zms ⟨6,part,i⟩).bind fun v=>Zpo part k (i+1) (w++[v.fPeer])
def ZxJ(part:Int):Pr (List Zaa):=(Zms ⟨5,part,0⟩).bind fun v=>Zpo part v.fN.toNat 0 []
theorem ZDd(part n:Int):∀(k:Nat)(w:List Zaa)(l:List Zae)(fu:Nat),(n-(w.length:Int)).toNat=k->w.length+l.length<=900000->k+1<=fu->ZfT part fu n (w.length:Int) w ⟨l⟩=runT (Zpo part k w.length w) l:=by
 intro k;induction k with
 |zero=>
  intro w l fu hk hl hf;obtain⟨fu,rfl⟩ : ∃x,fu=x+1:=⟨fu-1,by omega⟩;unfold ZfT;simp only[Zal];rw[if_neg (by omega)];rfl
 |succ k ih=>
  intro w l fu hk hl hf;obtain⟨fu,rfl⟩ : ∃x,fu=x+1:=⟨fu-1,by omega⟩;unfold ZfT;simp only[Zal];have e:Zkv part (w.length:Int)=some ⟨6,part,(w.length:Int)⟩:=rfl;rw[if_pos (by omega),e,ZaS,Zqd];refine ZbH (fun x a ha h=>?_) (fun o=>rfl);obtain⟨r,rfl,h2⟩:=ZwC h;simp only[Zan.mk.injEq]at h2;rw[h2];simp only[List.length_cons]at hl;dsimp only;rw[Zaw (by simp only[List.length_append,List.length_singleton,maxLen];omega)];have e1:Zar (w.length:Int) 1=(((w++[x.fPeer]).length:Nat):Int):=by
   rw[add1 (n:=w.length+1) (by omega) (by simp only[maxLen];omega)];simp
  have e2:w.length+1=(w++[x.fPeer]).length:=by simp
  rw[e1,e2];exact ih (w++[x.fPeer]) r fu (by simp only[List.length_append,List.length_singleton];omega) (by simp only[List.length_append,List.length_singleton];omega) (by omega)
theorem ZGk(part:Int)(l:List Zae)(hl:l.length<=900000):ZlV ⟨l⟩ part=runT (ZxJ part) l:=by
 unfold ZlV;have e:Zkw part=some ⟨5,part,0⟩:=rfl;rw[e,ZaS,Zqd];refine ZbH (fun x a ha h=>?_) (fun o=>rfl);obtain⟨r,rfl,h2⟩:=ZwC h;simp only[Zan.mk.injEq]at h2;rw[h2];simp only[List.length_cons]at hl;dsimp only;have:=ZDd part (if(0:Int)>x.fN then 0 else x.fN) x.fN.toNat [] r ((((if(0:Int)>x.fN then 0 else x.fN))-(0:Int)).toNat+2) (by simp only[List.length_nil];split<;>omega) (by simp only[List.length_nil];omega) (by split<;>omega);exact this
theorem ZxI(part:Int):∀(k i:Nat)(w:List Zaa)(l:List Zae)(x:List Zaa)(g:Zan),runT (Zpo part k i w) l=some (.ret x g)->x.length+g.fgot.length=w.length+l.length
 | 0,i,w,l,x,g,h=>by simp[Zpo,runT]at h;rw[<-h.1,<-h.2]
 |k+1,i,w,[],x,g,h=>by simp[Zpo,runT,Zms,Pr.bind]at h
 |k+1,i,w,v :: l,x,g,h=>by
  have:=ZxI part k (i+1) (w++[v.fPeer]) l x g h
  simp only[List.length_append,List.length_cons,List.length_nil]at this ⊢
  omega
theorem ZxH(part:Int)(Q:Zaa->Prop):∀(k i:Nat)(w:List Zaa)(l:List Zae)(x:List Zaa)(g:Zan),runT (Zpo part k i w) l=some (.ret x g)->(∀p∈w,Q p)->(∀v∈l,Q v.fPeer)->∀p∈x,Q p
 | 0,i,w,l,x,g,h,hw,hl=>by simp[Zpo,runT]at h;rw[<-h.1];exact hw
 |k+1,i,w,[],x,g,h,hw,hl=>by simp[Zpo,runT,Zms,Pr.bind]at h
 |k+1,i,w,v :: l,x,g,h,hw,hl=>by
  refine ZxH part Q k (i+1) (w++[v.fPeer]) l x g h (fun p hp=>?_) (fun v' hv=>hl v' (List.mem_cons_of_mem _ hv))
  rcases List.mem_append.1 hp with hp|hp
  ·exact hw p hp
  ·rw[List.mem_singleton.1 hp];exact hl v (by simp)
theorem ZFq{part:Int}{Q:Zaa->Prop}{l:List Zae}{x:List Zaa}{g:Zan}(h:runT (ZxJ part) l=some (.ret x g))(hl:∀v∈l,Q v.fPeer):∀p∈x,Q p:=by
 cases l with
 |nil=>simp[ZxJ,runT,Zms,Pr.bind]at h
 |cons v l=>exact ZxH part Q _ _ _ l x g h (by simp) fun v' hv=>hl v' (List.mem_cons_of_mem _ hv)
def wrB(was aj:List Zaa)(i:Nat):Bool:=decide (was.length<=i) || !decide (was.getD i Zaa.d=aj.getD i Zaa.d)
def wrL(was aj:List Zaa):List Int:=((List.range aj.length).filter (wrB was aj)).map fun(i:Nat)=>(i:Int)
theorem ZzZ(was aj:List Zaa)(hn:aj.length<=1000000):Zjf was aj=some (wrL was aj):=by
 have aP:∀(k i f:Nat),aj.length-i=k->i<=aj.length->k+1<=f->Zdi was f aj (aj.length:Int) i (((List.range i).filter (wrB was aj)).map fun(i:Nat)=>(i:Int))=some (wrL was aj):=by
  intro k;induction k with
  |zero=>
   intro i f hk hi hf;obtain⟨f,rfl⟩ : ∃x,f=x+1:=⟨f-1,by omega⟩;unfold Zdi;simp only[Zal];rw[if_neg (by omega)];have:i=aj.length:=by omega
   rw[this];rfl
  |succ k ih=>
   intro i f hk hi hf;obtain⟨f,rfl⟩ : ∃x,f=x+1:=⟨f-1,by omega⟩;unfold Zdi;simp only[Zal];have e1:Zar (i:Int) 1=((i+1:Nat):Int):=add1 (n:=i+1) (by omega) (by simp only[maxLen];omega);have hl:((List.range i).filter (wrB was aj)).length<=i:=by
    have:=List.length_filter_le (wrB was aj) (List.range i);rw[List.length_range]at this;exact this
   have hlen:((((List.range i).filter (wrB was aj)).map fun(i:Nat)=>(i:Int))++[(i:Int)]).length * 8<=140737488355328/\((((List.range i).filter (wrB was aj)).map fun(i:Nat)=>(i:Int))++[(i:Int)]).length<=maxLen:=by
    simp only[List.length_append,List.length_singleton,List.length_map,maxLen];omega
   have jT:wrB was aj i=true->(((List.range i).filter (wrB was aj)).map fun(i:Nat)=>(i:Int))++[(i:Int)]=((List.range (i+1)).filter (wrB was aj)).map fun(i:Nat)=>(i:Int):=fun h=>by
    rw[List.range_succ,List.filter_append,List.map_append,List.filter_cons_of_pos (by rw[h])];rfl
   have jU:wrB was aj i=false->(((List.range i).filter (wrB was aj)).map fun(i:Nat)=>(i:Int))=((List.range (i+1)).filter (wrB was aj)).map fun(i:Nat)=>(i:Int):=fun h=>by
    rw[List.range_succ,List.filter_append,List.map_append,List.filter_cons_of_neg (by rw[h];decide)];simp
   have lS:=ih (i+1) f (by omega) (by omega) (by omega);rw[if_pos (by omega),Zaw (by omega)];by_cases h:(i:Int)>=(was.length:Int)
   ·have hb:wrB was aj i=true:=by unfold wrB;rw[decide_eq_true (show was.length<=i by omega)];rfl
    rw[if_pos h,Zaw hlen,e1,jT hb];exact lS
   ·rw[if_neg h,Zaw (show 0<=(i:Int)/\(i:Int)<(was.length:Int)by omega)];have h0:decide (was.length<=i)=false:=decide_eq_false (by omega);by_cases h2:was.getD ((i:Int)).toNat Zaa.d=aj.getD ((i:Int)).toNat Zaa.d
    ·have hb:wrB was aj i=false:=by
      unfold wrB;rw[h0,Bool.false_or];simp only[Int.toNat_natCast]at h2;rw[decide_eq_true h2];rfl
     simp only[h2,decide_true,Bool.not_true,cond_false,e1];rw[jU hb];exact lS
    ·have hb:wrB was aj i=true:=by
      unfold wrB;rw[h0,Bool.false_or];simp only[Int.toNat_natCast]at h2;rw[decide_eq_false h2];rfl
     simp only[h2,decide_false,Bool.not_false,cond_true];rw[Zaw hlen,e1,jT hb];exact lS
 exact aP aj.length 0 _ (by omega) (by omega) (by omega)
theorem ZGT{was aj:List Zaa}{x:Int}(h:x∈wrL was aj):0<=x/\x<(aj.length:Int):=by
 unfold wrL at h;obtain⟨i,h1,rfl⟩:=List.mem_map.1 h;have:=List.mem_range.1 (List.mem_filter.1 h1).1;omega
theorem ZGU(was aj:List Zaa):(wrL was aj).length<=aj.length:=by
 unfold wrL;rw[List.length_map];have:=List.length_filter_le (wrB was aj) (List.range aj.length);rw[List.length_range]at this;exact this
def ZqH(part:Int)(aj:List Zaa):List Int->Pr Unit | []=>.ret ()|i :: r=>(Zkl ⟨6,part,i⟩ ⟨0,aj.getD i.toNat Zaa.d,[],[]⟩ false).bind fun _=>ZqH part aj r
def Zxg(part:Int)(was aj:List Zaa):Pr Unit:=(ZqH part aj (wrL was aj)).bind fun _=>if was.length=aj.length then .ret ()else Zkl ⟨5,part,0⟩ ⟨(aj.length:Int),Zkk,[],[]⟩ false
theorem ZEJ(part:Int)(was aj:List Zaa)(l:List Zae)(hn:aj.length<=1000000):ZkQ ⟨l⟩ part was aj=runT (Zxg part was aj) l:=by
 unfold ZkQ;rw[ZzZ was aj hn,ZaS];have hlen:=ZGU was aj;have aP:∀(k i f:Nat)(l:List Zae),(wrL was aj).length-i=k->i<=(wrL was aj).length->k+1<=f->Zfl part was aj f (wrL was aj) ((wrL was aj).length:Int) i ⟨l⟩=runT ((ZqH part aj ((wrL was aj).drop i)).bind fun _=>if was.length=aj.length then .ret ()else Zkl ⟨5,part,0⟩ ⟨(aj.length:Int),Zkk,[],[]⟩ false) l:=by
  intro k;induction k with
  |zero=>
   intro i f l hk hi hf;obtain⟨f,rfl⟩ : ∃x,f=x+1:=⟨f-1,by omega⟩;unfold Zfl;simp only[Zal];rw[if_neg (by omega),List.drop_of_length_le (by omega)];have e:Zkw part=some ⟨5,part,0⟩:=rfl;simp only[e,Option.bind_some,ZqH,Pr.bind_ret];by_cases hc:was.length=aj.length
   ·have e2:(((was.length:Nat):Int) != ((aj.length:Nat):Int))=false:=by simp[hc]
    rw[if_pos hc,e2,cond_false];rfl
   ·have e2:(((was.length:Nat):Int) != ((aj.length:Nat):Int))=true:=by
     rw[bne_iff_ne];omega
    rw[if_neg hc,e2,cond_true,ZnU];exact ZjL (p:=Zkl ⟨5,part,0⟩ ⟨(aj.length:Int),Zkk,[],[]⟩ false) (fun _ _=>rfl) (fun _=>rfl)
  |succ k ih=>
   intro i f l hk hi hf;obtain⟨f,rfl⟩ : ∃x,f=x+1:=⟨f-1,by omega⟩;unfold Zfl;simp only[Zal];have e1:Zar (i:Int) 1=((i+1:Nat):Int):=add1 (n:=i+1) (by omega) (by simp only[maxLen];omega);have hm:=ZGT (Zgq (wrL was aj) (0:Int) i (by omega));have hm':0<=(wrL was aj).getD ((i:Int)).toNat (0:Int)/\(wrL was aj).getD ((i:Int)).toNat (0:Int)<(aj.length:Int):=by simpa using hm
   have e:∀x,Zkv part x=some ⟨6,part,x⟩:=fun _=>rfl;rw[if_pos (by omega),Zaw (by omega)];simp only[e,Option.bind_some];rw[Zaw hm',Zee (wrL was aj) (0:Int) i (by omega)];simp only[ZqH,Pr.bind_assoc,Int.toNat_natCast,ZnU];refine ZbH (fun x a ha h=>?_) (fun o=>rfl);dsimp only;rw[e1];exact ih (i+1) f _ (by omega) (by omega) (by omega)
 have:=aP (wrL was aj).length 0 ((((wrL was aj).length:Int)-(0:Int)).toNat+2) l (by omega) (by omega) (by omega);rw[List.drop_zero]at this;exact this
def Zwy(k dt:Int)(ag:Bool):Nat->Pr Unit|0=>.no|n+1=>(Zms ⟨k,0,0⟩).bind fun v=>(ZGZ k v.fN (Zar v.fN dt) ag).bind fun b=>bif b then .ret ()else Zwy k dt ag n
theorem ZAb(k dt:Int)(ag:Bool):∀(f:Nat)(l:List Zae),ZgZ dt ag f ⟨l⟩ ⟨k,0,0⟩=runT (Zwy k dt ag f) l:=by
 intro f;induction f with
 |zero=>intro l;rfl
 |succ f ih=>
  intro l;unfold ZgZ;rw[Zqd];refine ZbH (fun x a ha h=>?_) (fun o=>rfl);dsimp only;rw[ZGj];refine ZbH (fun b a ha h=>?_) (fun o=>rfl);dsimp only;cases b with
  |true=>rfl
  |false=>exact ih _
theorem ZBh(k dt:Int)(ag:Bool)(l:List Zae):Zkx ⟨l⟩ k dt ag=runT (Zwy k dt ag 1000000) l:=by
 unfold Zkx;exact ZAb k dt ag 1000000 l
def ZxX:Nat->Nat->Pr Unit|_,0=>.ret ()|i,k+1=>(keyP 1 (2+(i:Int)) false).bind fun _=>ZxX (i+1) k
def ZmQ(p:Int):Pr Unit:=ZxX 0 (Zbr p)
theorem ZIa{i:Nat}(h:i<=1000):Zar 2 (i:Int)=2+(i:Int):=Zcx (by omega) (by omega)
theorem ZuI(p:Int)(l:List Zae):Zif ⟨l⟩ p=runT (ZmQ p) l:=by
 have h8:=(ZgD p).2;unfold Zif;rw[Zst,ZaS];have aP:∀(k i f:Nat)(l:List Zae),Zbr p-i=k->i<=Zbr p->k+1<=f->Zel f (Zbr p:Int) i ⟨l⟩=runT (ZxX i k) l:=by
  intro k;induction k with
  |zero=>
   intro i f l hk hi hf;obtain⟨f,rfl⟩ : ∃x,f=x+1:=⟨f-1,by omega⟩;unfold Zel;simp only[Zal];rw[if_neg (by omega)];rfl
  |succ k ih=>
   intro i f l hk hi hf;obtain⟨f,rfl⟩ : ∃x,f=x+1:=⟨f-1,by omega⟩;unfold Zel;simp only[Zal];have e1:Zar (i:Int) 1=((i+1:Nat):Int):=add1 (n:=i+1) (by omega) (by simp only[maxLen];omega);rw[if_pos (by omega),ZIa (by omega),Zqc];refine ZbH (fun x a ha h=>?_) (fun o=>rfl);dsimp only;rw[e1];exact ih (i+1) f _ (by omega) (by omega) (by omega)
 exact aP (Zbr p) 0 _ l (by omega) (by omega) (by omega)
def ZvE(ag:Bool)(m:Nat):Nat->Pr Unit|0=>.ret ()|n+1=>(keyP 3 (2+(n:Int)) (ag&&decide (n+1=m))).bind fun _=>ZvE ag m n
def ZoF(p:Int)(ag:Bool):Pr Unit:=ZvE ag (Zbr p) (Zbr p)
theorem ZuJ(p:Int)(ag:Bool)(l:List Zae):Zig ⟨l⟩ p ag=runT (ZoF p ag) l:=by
 have h8:=ZgD p;unfold Zig;rw[Zst,ZaS];obtain⟨c,hc⟩ : ∃c:Nat,Zbr p=c+1:=⟨Zbr p-1,by omega⟩;have aP:∀(n f:Nat)(l:List Zae),n<=Zbr p->n+1<=f->Zdh p ag f ((n:Int)-1) ⟨l⟩=runT (ZvE ag (Zbr p) n) l:=by
  intro n;induction n with
  |zero=>
   intro f l hn hf;obtain⟨f,rfl⟩ : ∃x,f=x+1:=⟨f-1,by omega⟩;unfold Zdh;simp only[Zal];rw[if_neg (by omega)];rfl
  |succ n ih=>
   intro f l hn hf;obtain⟨f,rfl⟩ : ∃x,f=x+1:=⟨f-1,by omega⟩;unfold Zdh;simp only[Zal];have e0:(((n+1:Nat):Int)-1)=(n:Int):=by omega
   have e1:ZaV (n:Int) 1=((n:Int)-1):=by
    cases n with
    |zero=>exact sub0
    |succ n=>rw[ZGV (by omega)];omega
   rw[e0,if_pos (by omega),ZIa (by omega),Zst];simp only[ZaS,e1];have hm:∀m:Bool,m=(ag&&decide (n+1=Zbr p))->((Zcy ⟨l⟩ (2+(n:Int)) m).bind fun x3=>match x3 with
      | .ret x3v x3g=>Zdh p ag f ((n:Int)-1) x3g
      | .pan x3o=>some (Tout.pan x3o)
      | .bad x3s=>some (Tout.bad x3s))=runT (ZvE ag (Zbr p) (n+1)) l:=by
    rintro m rfl;rw[ZmZ];refine ZbH (fun x a ha h=>?_) (fun o=>rfl);exact ih f _ (by omega) (by omega)
   cases ag with
   |true=>
    simp only[cond_true];refine hm _ ?_;rw[hc,ZGV (by omega)];by_cases h:n=c
    ·subst h;simp
    ·have h2:((n:Int)==(c:Int))=false:=beq_false_of_ne (by omega);simp[h,h2]
   |false=>
    simp only[cond_false];exact hm _ rfl
 have e:ZaV (Zbr p:Int) 1=(Zbr p:Int)-1:=by rw[hc,ZGV (by omega)];omega
 rw[e];exact aP (Zbr p) _ l (Nat.le_refl _) (by omega)
def gv0(v:Zae):Prop:=v.ok/\v.fBans.length<=800/\v.fBook.length<=800
def mkd(o:ZaK)(v:Zae):Nat:=if o.fMark=true/\(o.fKind≠7\/v.fN=1)then 1 else 0
inductive Ex {α:Type}:Pr α->ZaD->α->ZaD->Nat->Nat->Prop
 |ret (x:α) (m:ZaD) (s:Nat):Ex (.ret x) m x m s 0
 |ask {o:ZaK} {k:Zae->Pr α} {m m':ZaD} {v:Zae} {x:α} {dr:ZaD} {s c:Nat} (h1:Zbn m (opN o)=some true) (h2:Zbc m (opN o) 0=some (m',v)) (h3:gv0 v) (h4:Ex (k v) m' x dr s c):Ex (.ask o k) m x dr (s+1) (mkd (opN o) v+c)
theorem Ex.more{α:Type}{p:Pr α}{m:ZaD}{x:α}{m':ZaD}{s c:Nat}(h:Ex p m x m' s c):∀{t:Nat},s<=t->Ex p m x m' t c:=by
 induction h with
 |ret x m s=>exact fun _=>.ret x m _
 |ask h1 h2 h3 h4 ih=>
  intro t ht;obtain⟨t,rfl⟩ : ∃u,t=u+1:=⟨t-1,by omega⟩;exact .ask h1 h2 h3 (ih (by omega))
theorem Ex.bind{α β:Type}{p:Pr α}{m:ZaD}{x:α}{m1:ZaD}{s1 c1:Nat}(h:Ex p m x m1 s1 c1){f:α->Pr β}{y:β}{m2:ZaD}{s2 c2:Nat}:Ex (f x) m1 y m2 s2 c2->Ex (p.bind f) m y m2 (s1+s2) (c1+c2):=by
 induction h with
 |ret x m s=>intro h2;rw[Nat.zero_add];exact h2.more (by omega)
 |ask h1 h2 h3 h4 ih=>
  rename_i o k m m' v x dr s c;intro hf;have h5:=Ex.ask (k:=fun v=>(k v).bind f) h1 h2 h3 (ih hf);have e1:s+1+s2=s+s2+1:=by omega
  have e2:mkd (opN o) v+c+c2=mkd (opN o) v+(c+c2):=by omega
  rw[e1,e2];exact h5
theorem Ex.seq{α β:Type}{p:Pr α}{m:ZaD}{x:α}{m1:ZaD}{s1 c1:Nat}(h:Ex p m x m1 s1 c1){f:α->Pr β}{y:β}{m2:ZaD}{s2 c2 s c:Nat}(h2:Ex (f x) m1 y m2 s2 c2)(hs:s1+s2<=s)(hc:c1+c2=c):Ex (p.bind f) m y m2 s c:=by
 subst hc;exact(h.bind h2).more hs
def Rs{α:Type}(p:Pr α)(aV:List Zae)(r:Pr α):Prop:=∀l,runT p (aV++l)=runT r l
theorem Rs.nil{α:Type}(p:Pr α):Rs p [] p:=fun _=>rfl
theorem Rs.step{α:Type}{p:Pr α}{aV:List Zae}{o:ZaK}{k:Zae->Pr α}(h:Rs p aV (.ask o k))(v:Zae):Rs p (aV++[v]) (k v):=fun l=>by
 have:=h (v :: l)
 simpa[runT]using this
theorem ZFC{α:Type}{p:Pr α}{c0:Nat->Int->Int->List Zae->ZaD->Option Bool}{F:Int->α->ZaD->Option Bool}
  (lT:∀fu (mk i:Nat) aV m x g,i<400->aV.length<=400->(∀v∈aV,gv0 v)->runT p aV=some (.ret x g)->c0 (fu+1) (mk:Int) (i:Int) aV m=F (mk:Int) x m)
  (lU:∀fu (mk i:Nat) aV m q m' v,i<400->aV.length<=400->mk<=400->(∀v∈aV,gv0 v)->runT p aV=some (.pan q)->Zbn m q=some true->Zbc m q 0=some (m',v) ->
   c0 (fu+1) (mk:Int) (i:Int) aV m=c0 fu ((mk+mkd q v:Nat):Int) ((i+1:Nat):Int) (aV++[v]) m')
  {r:Pr α} {m:ZaD} {x:α} {m':ZaD} {s c:Nat} (h:Ex r m x m' s c):∀(fu mk i:Nat)(aV:List Zae),Rs p aV r->(∀v∈aV,gv0 v)->aV.length=i->mk<=i->i+s<400->s+1<=fu->c0 fu (mk:Int) (i:Int) aV m=F ((mk+c:Nat):Int) x m':=by
 induction h with
 |ret x m s=>
  intro fu mk i aV hr hg hl i3 hi hf;obtain⟨fu,rfl⟩ : ∃u,fu=u+1:=⟨fu-1,by omega⟩;have h0:=hr [];rw[List.append_nil]at h0;exact lT fu mk i aV m x _ (by omega) (by omega) hg (by rw[h0];rfl)
 |ask h1 h2 h3 h4 ih=>
  rename_i o k m m' v x dr s c;intro fu mk i aV hr hg hl i3 hi hf;obtain⟨fu,rfl⟩ : ∃u,fu=u+1:=⟨fu-1,by omega⟩;have h0:=hr [];rw[List.append_nil]at h0;rw[lU fu mk i aV m (opN o) m' v (by omega) (by omega) (by omega) hg (by rw[h0];rfl) h1 h2,<-Nat.add_assoc];have kr:mkd (opN o) v<=1:=by unfold mkd;split<;>omega
  exact ih fu _ (i+1) (aV++[v]) (hr.step v) (fun u hu=>by rcases List.mem_append.1 hu with hu|hu;exact hg u hu;rw[List.mem_singleton.1 hu];exact h3) (by simp;omega) (by omega) (by omega) (by omega)
def lks(n:Nat)(f:Nat->Zat):List Zat:=(List.range (n+2)).map f
def updL(f:Nat->Zat)(k:Nat)(l:Zat):Nat->Zat:=fun j=>if j=k then l else f j
theorem ZtN(n:Nat)(f:Nat->Zat):(lks n f).length=n+2:=by simp[lks]
theorem Zzm{n:Nat}(f:Nat->Zat){k:Nat}(hk:k<n+2):(lks n f).getD k Zat.d=f k:=by
 simp[lks,List.getD_eq_getElem?_getD,hk]
theorem ZHt{n:Nat}(f:Nat->Zat){k:Nat}(hk:k<n+2)(l:Zat):(lks n f).set k l=lks n (updL f k l):=by
 apply List.ext_getElem
 ·simp[lks]
 ·intro i h1 h2;simp only[lks,List.length_set,List.length_map,List.length_range]at h1;simp only[lks,List.getElem_set,List.getElem_map,List.getElem_range,updL];by_cases h:k=i
  ·subst h;simp
  ·rw[if_neg h,if_neg (fun e=>h e.symm)]
theorem ZCD(f:Nat->Zat)(k:Nat)(l:Zat):updL f k l k=l:=if_pos rfl
theorem ZvW(f:Nat->Zat){k j:Nat}(l:Zat)(h:j≠k):updL f k l j=f j:=if_neg h
theorem ZCE(f:Nat->Zat)(k:Nat)(a:Zat):updL (updL f k a) k (f k)=f:=by
 funext j;unfold updL;split
 ·rename_i e;rw[e]
 ·rfl
def memM(al out:Int)(bans:List Zab)(book:List Zac)(sh:List Zad)(n:Nat)(f:Nat->Zat):ZaD:=⟨al,out,bans,book,sh,lks n f⟩
def ZhE:Zat:=⟨0,[]⟩
def ZfU:Zat:=⟨1,[]⟩
section
variable {al out:Int} {bans:List Zab} {book:List Zac} {sh:List Zad} {n:Nat} {f:Nat->Zat} (aT:1<=n) (aS:n<=8) (aO:sh.length = n)
include aT aS aO
omit aT aS aO in
theorem ZoK{k:Nat}(hk:k<n+2)(m:ZaD)(hm:m.fLocks=lks n f):ZbI m (k:Int)=some (f k):=by
 unfold ZbI;rw[hm,ZtN,Zal,if_neg (by omega),Zal,if_neg (by omega),Zaw (by omega),Int.toNat_natCast,Zzm f hk]
omit aO in
theorem ZsA{k:Nat}(hk:k<n+2)(kd:Int)(dO:kd=1\/kd=3)(l:Zay)(a b:Int)(v:Zae)(ag:Bool):Zbp ⟨kd,(k:Int),l,a,b,v,ag⟩ (n:Int)=some true:=by
 have e:Zar (n:Int) 1=(n:Int)+1:=Zcx (by omega) (by omega);unfold Zbp ZbV;rw[Zal,if_neg (by omega),Zal,if_neg (by omega),ZdI];dsimp only;rcases dO with rfl|rfl
 ·rw[if_pos rfl,e];simp only[show ((1:Int)==1)=true from rfl,cond_true,Zal];rw[if_pos (by omega),decide_eq_true (by omega)]
 ·rw[if_neg (by decide),e];simp only[show ((3:Int)==3)=true from rfl,cond_true,Zal];rw[if_pos (by omega),decide_eq_true (by omega)]
omit aO in
theorem Zwd(kd:Int)(dO:kd=2\/kd=4)(l:Zay)(a b:Int)(v:Zae)(ag:Bool):Zbp ⟨kd,0,l,a,b,v,ag⟩ (n:Int)=some true:=by
 unfold Zbp ZbV Zcg;rw[Zal,if_neg (by omega),Zal,if_neg (by omega),ZdI];dsimp only;rcases dO with rfl|rfl
 ·rw[if_neg (by decide)];rfl
 ·rw[if_neg (by decide)];rfl
theorem ZAD{kd:Int}(dO:kd=1){k:Nat}(hk:k<n+2)(hf:f k=ZhE)(ag:Bool):Zbn (memM al out bans book sh n f) ⟨kd,(k:Int),locZ,0,0,valZ,ag⟩=some true:=by
 subst dO;have hl:(((memM al out bans book sh n f).fShards.length:Nat):Int)=(n:Int):=by rw[show (memM al out bans book sh n f).fShards=sh from rfl,aO]
 unfold Zbn;rw[hl,ZsA aT aS hk 1 (.inl rfl),ZaS,ZoK hk _ rfl,ZaS,hf];rfl
theorem ZAE{kd:Int}(dO:kd=3){k:Nat}(hk:k<n+2)(ag:Bool):Zbn (memM al out bans book sh n f) ⟨kd,(k:Int),locZ,0,0,valZ,ag⟩=some true:=by
 subst dO;have hl:(((memM al out bans book sh n f).fShards.length:Nat):Int)=(n:Int):=by rw[show (memM al out bans book sh n f).fShards=sh from rfl,aO]
 unfold Zbn;rw[hl,ZsA aT aS hk 3 (.inr rfl),ZaS,ZoK hk _ rfl,ZaS];rfl
theorem Zro{kd:Int}(dO:kd=2\/kd=4)(hf:kd=2->(f 0).fBy=0)(ag:Bool):Zbn (memM al out bans book sh n f) ⟨kd,0,locZ,0,0,valZ,ag⟩=some true:=by
 have hl:(((memM al out bans book sh n f).fShards.length:Nat):Int)=(n:Int):=by rw[show (memM al out bans book sh n f).fShards=sh from rfl,aO]
 have h0:ZbI (memM al out bans book sh n f) 0=some (f 0):=ZoK (k:=0) (by omega) _ rfl;unfold Zbn;rw[hl,Zwd aT aS kd dO,ZaS,h0,ZaS];rcases dO with rfl|rfl
 ·rw[hf rfl];rfl
 ·rfl
omit aT aS aO in
theorem ZAh{k:Nat}(hk:k<n+2)(hn:n<=8)(m:ZaD)(hm:m.fLocks=lks n f)(l:Zat):Zcs m (k:Int) l=some { m with fLocks:=lks n (updL f k l) }:=by
 unfold Zcs;rw[List.nil_append,hm,ZtN,Zal,if_pos (by omega),Zal,if_pos (by omega),Zaw ⟨by omega,by unfold maxLen;omega⟩,Zaw (by omega),Int.toNat_natCast,ZHt f hk]
theorem ZHD{k:Nat}(hk:k<n+2)(hf:f k=ZhE)(ag:Bool):Zbc (memM al out bans book sh n f) ⟨1,(k:Int),locZ,0,0,valZ,ag⟩ 0=some (memM al out bans book sh n (updL f k ZfU),valZ):=by
 have e:Zar (0:Int) 1=1:=rfl;unfold Zbc;rw[ZAD aT aS aO rfl hk hf,ZaS,Bool.not_true,cond_false];dsimp only;rw[ZoK hk _ rfl,ZaS,ZdI,if_pos rfl,hf,e,ZAh hk aS _ rfl,ZaS];rfl
theorem ZHF{k:Nat}(hk:k<n+2)(sr:List Int)(hf:f k=⟨1,sr⟩)(ag:Bool):Zbc (memM al out bans book sh n f) ⟨3,(k:Int),locZ,0,0,valZ,ag⟩ 0=some (memM al out bans book sh n (updL f k ⟨0,sr⟩),valZ):=by
 have e:Zar (0:Int) 1=1:=rfl;unfold Zbc;rw[ZAE aT aS aO rfl hk,ZaS,Bool.not_true,cond_false];dsimp only;rw[ZoK hk _ rfl,ZaS,ZdI,if_neg (by decide),ZdI,if_neg (by decide),ZdI,if_pos rfl,hf,e];simp only[show ((1:Int)==1)=true from rfl,cond_true];rw[ZAh hk aS _ rfl,ZaS];rfl
theorem ZFQ(hf:f 0=ZhE)(ag:Bool):Zbc (memM al out bans book sh n f) ⟨2,0,locZ,0,0,valZ,ag⟩ 0=some (memM al out bans book sh n (updL f 0 ⟨0,[0]⟩),valZ):=by
 have h0:ZbI (memM al out bans book sh n f) 0=some (f 0):=ZoK (k:=0) (by omega) _ rfl;have hr:Zfm [] 0=some [0]:=by decide +kernel
 have hw:=ZAh (f:=f) (n:=n) (k:=0) (by omega) aS (memM al out bans book sh n f) rfl ⟨0,[0]⟩;unfold Zbc;rw[Zro aT aS aO (.inl rfl) (fun _=>by rw[hf];rfl),ZaS,Bool.not_true,cond_false];dsimp only;rw[h0,ZaS,ZdI,if_neg (by decide),ZdI,if_pos rfl,hf];simp only[ZhE,hr,ZaS];have iF:Zcs (memM al out bans book sh n f) 0 ⟨0,[0]⟩=some { memM al out bans book sh n f with fLocks:=lks n (updL f 0 ⟨0,[0]⟩) }:=hw;rw[iF];rfl
theorem ZHG(hf:f 0=⟨0,[0]⟩)(ag:Bool):Zbc (memM al out bans book sh n f) ⟨4,0,locZ,0,0,valZ,ag⟩ 0=some (memM al out bans book sh n (updL f 0 ZhE),valZ):=by
 have h0:ZbI (memM al out bans book sh n f) 0=some (f 0):=ZoK (k:=0) (by omega) _ rfl;have hr:ZeO [0] 0=some []:=by decide +kernel
 have hw:=ZAh (f:=f) (n:=n) (k:=0) (by omega) aS (memM al out bans book sh n f) rfl ZhE;unfold Zbc;rw[Zro aT aS aO (.inr rfl) (fun h=>by cases h),ZaS,Bool.not_true,cond_false];dsimp only;rw[h0,ZaS,ZdI,if_neg (by decide),ZdI,if_neg (by decide),ZdI,if_neg (by decide),ZdI,if_pos rfl,hf];simp only[hr,ZaS];have iF:Zcs (memM al out bans book sh n f) 0 ⟨0,[]⟩=some { memM al out bans book sh n f with fLocks:=lks n (updL f 0 ZhE) }:=hw;rw[iF];rfl
end
theorem ZtH{n:Int}(h1 : -9223372036854775808<=n)(h2:n<=9223372036854775807):okI .i64 n:=by
 simp only[okI,Lit.wf,IntKind.min,IntKind.max,IntKind.bits,IntKind.signed];simp;omega
theorem okZ:okI .i64 0:=by rfl
theorem Zrt:gv0 valZ:=by
 refine⟨?_,by simp[valZ],by simp[valZ]⟩;refine⟨okZ,?_,⟨by simp[valZ,maxLen],by simp[valZ]⟩,⟨by simp[valZ,maxLen],by simp[valZ]⟩,trivial⟩;exact⟨⟨⟨trivial,rfl,rfl,trivial⟩,okZ,trivial⟩,trivial,okZ,⟨okZ,okZ,trivial⟩,okZ,okZ,trivial⟩
def bn(b:Bool):Nat:=if b=true then 1 else 0
theorem ZtL(kd k:Int)(dO:kd≠7)(ag:Bool)(v:Zae):mkd ⟨kd,k,locZ,0,0,valZ,ag⟩ v=bn ag:=by
 unfold mkd bn;cases ag<;>simp[dO]
section
variable {al out:Int} {bans:List Zab} {book:List Zac} {sh:List Zad} {n:Nat} {f:Nat->Zat} (aT:1<=n) (aS:n<=8) (aO:sh.length = n)
include aT aS aO
theorem Zsx{k:Nat}(hk:k<n+2)(hf:f k=ZhE)(ag:Bool):Ex (keyP 1 (k:Int) ag) (memM al out bans book sh n f) () (memM al out bans book sh n (updL f k ZfU)) 1 (bn ag):=by
 have:=Ex.ask (o:=⟨1,(k:Int),locZ,0,0,valZ,ag⟩) (k:=fun _=>.ret ()) (ZAD (al:=al) (out:=out) (bans:=bans) (book:=book) aT aS aO rfl hk hf ag) (ZHD aT aS aO hk hf ag) Zrt (.ret () _ 0);rw[show opN ⟨1,(k:Int),locZ,0,0,valZ,ag⟩=⟨1,(k:Int),locZ,0,0,valZ,ag⟩from rfl,ZtL 1 _ (by decide)]at this;exact this
theorem ZET{k:Nat}(hk:k<n+2)(sr:List Int)(hf:f k=⟨1,sr⟩)(ag:Bool):Ex (keyP 3 (k:Int) ag) (memM al out bans book sh n f) () (memM al out bans book sh n (updL f k ⟨0,sr⟩)) 1 (bn ag):=by
 have:=Ex.ask (o:=⟨3,(k:Int),locZ,0,0,valZ,ag⟩) (k:=fun _=>.ret ()) (ZAE (al:=al) (out:=out) (bans:=bans) (book:=book) (f:=f) aT aS aO rfl hk ag) (ZHF aT aS aO hk sr hf ag) Zrt (.ret () _ 0);rw[show opN ⟨3,(k:Int),locZ,0,0,valZ,ag⟩=⟨3,(k:Int),locZ,0,0,valZ,ag⟩from rfl,ZtL 3 _ (by decide)]at this;exact this
theorem ZBj(hf:f 0=ZhE)(ag:Bool):Ex (keyP 2 0 ag) (memM al out bans book sh n f) () (memM al out bans book sh n (updL f 0 ⟨0,[0]⟩)) 1 (bn ag):=by
 have:=Ex.ask (o:=⟨2,0,locZ,0,0,valZ,ag⟩) (k:=fun _=>.ret ()) (Zro (al:=al) (out:=out) (bans:=bans) (book:=book) (f:=f) aT aS aO (.inl rfl) (fun _=>by rw[hf];rfl) ag) (ZFQ aT aS aO hf ag) Zrt (.ret () _ 0);rw[show opN ⟨2,0,locZ,0,0,valZ,ag⟩=⟨2,0,locZ,0,0,valZ,ag⟩from rfl,ZtL 2 _ (by decide)]at this;exact this
theorem ZEU(hf:f 0=⟨0,[0]⟩)(ag:Bool):Ex (keyP 4 0 ag) (memM al out bans book sh n f) () (memM al out bans book sh n (updL f 0 ZhE)) 1 (bn ag):=by
 have:=Ex.ask (o:=⟨4,0,locZ,0,0,valZ,ag⟩) (k:=fun _=>.ret ()) (Zro (al:=al) (out:=out) (bans:=bans) (book:=book) (f:=f) aT aS aO (.inr rfl) (fun h=>by cases h) ag) (ZHG aT aS aO hf ag) Zrt (.ret () _ 0);rw[show opN ⟨4,0,locZ,0,0,valZ,ag⟩=⟨4,0,locZ,0,0,valZ,ag⟩from rfl,ZtL 4 _ (by decide)]at this;exact this
omit aO in
theorem ZxA(k:Int)(ag:Bool):Zbp ⟨8,k,locZ,0,0,valZ,ag⟩ (n:Int)=some true:=by
 unfold Zbp ZbV Zcg;rw[Zal,if_neg (by omega),Zal,if_neg (by omega)];rfl
theorem ZEQ(ag:Bool):Ex (keyP 8 0 ag) (memM al out bans book sh n f) () (memM al out bans book sh n f) 1 (bn ag):=by
 have hl:(((memM al out bans book sh n f).fShards.length:Nat):Int)=(n:Int):=by rw[show (memM al out bans book sh n f).fShards=sh from rfl,aO]
 have h0:ZbI (memM al out bans book sh n f) 0=some (f 0):=ZoK (k:=0) (by omega) _ rfl;have hm:Zbn (memM al out bans book sh n f) ⟨8,0,locZ,0,0,valZ,ag⟩=some true:=by
  unfold Zbn;rw[hl,ZxA aT aS,ZaS,h0,ZaS];rfl
 have hd:Zbc (memM al out bans book sh n f) ⟨8,0,locZ,0,0,valZ,ag⟩ 0=some (memM al out bans book sh n f,valZ):=by
  unfold Zbc;rw[hm,ZaS,Bool.not_true,cond_false];dsimp only;rw[h0,ZaS];rfl
 have:=Ex.ask (o:=⟨8,0,locZ,0,0,valZ,ag⟩) (k:=fun _=>.ret ()) hm hd Zrt (.ret () _ 0);rw[show opN ⟨8,0,locZ,0,0,valZ,ag⟩=⟨8,0,locZ,0,0,valZ,ag⟩from rfl,ZtL 8 _ (by decide)]at this;exact this
end
theorem ZqN{n:Nat}(aT:1<=n)(aS:n<=8)(l:Zay)(h1:1<=l.fKind)(h6:l.fKind<=6)(hs:5<=l.fKind->0<=l.fShard/\l.fShard<(n:Int))(ht:6<=l.fKind->0<=l.fSlot):ZbK l (n:Int)=some true:=by
 unfold ZbK;rw[Zal,if_neg (by omega),Zal,if_neg (by omega),Zal,if_neg (by omega),Zal,if_neg (by omega),Zal];by_cases h5:l.fKind<5
 ·rw[if_pos h5,Zal,if_pos (by omega)]
 ·have:=hs (by omega);rw[if_neg h5,Zal,if_pos (by omega),Zal,if_pos (by omega),Zal];by_cases h6':l.fKind<6
  ·rw[if_pos h6']
  ·rw[if_neg h6',decide_eq_true (ht (by omega))]
theorem ZGz{n:Nat}(aT:1<=n)(aS:n<=8){i:Nat}(hi:i<n):ZbK ⟨5,(i:Int),0⟩ (n:Int)=some true:=
 ZqN aT aS _ (show (1:Int)<=5 by decide) (show (5:Int)<=6 by decide) (fun _=>⟨Int.natCast_nonneg _,by show (i:Int)<n;omega⟩) (fun h=>absurd h (show ¬(6:Int)<=5 by decide))
theorem ZGy{n:Nat}(aT:1<=n)(aS:n<=8){i:Nat}(hi:i<n)(j:Nat):ZbK ⟨6,(i:Int),(j:Int)⟩ (n:Int)=some true:=
 ZqN aT aS _ (show (1:Int)<=6 by decide) (show (6:Int)<=6 by decide) (fun _=>⟨Int.natCast_nonneg _,by show (i:Int)<n;omega⟩) (fun _=>Int.natCast_nonneg _)
section
variable {al out:Int} {bans:List Zab} {book:List Zac} {sh:List Zad} {n:Nat} {f:Nat->Zat} (aT:1<=n) (aS:n<=8) (aO:sh.length = n)
include aT aS aO
theorem ZtM{o:ZaK}(hr:Zbp o (n:Int)=some true)(h0:o.fLock=0)(h1:o.fKind≠1)(h2:o.fKind≠2):Zbn (memM al out bans book sh n f) o=some true:=by
 have hl:(((memM al out bans book sh n f).fShards.length:Nat):Int)=(n:Int):=by rw[show (memM al out bans book sh n f).fShards=sh from rfl,aO]
 have hk:ZbI (memM al out bans book sh n f) 0=some (f 0):=ZoK (k:=0) (by omega) _ rfl;have e1:(o.fKind != 1)=true:=by rw[bne_iff_ne];exact h1
 have e2:(o.fKind != 2)=true:=by rw[bne_iff_ne];exact h2
 unfold Zbn;rw[hl,hr,ZaS,Bool.not_true,cond_false,h0,hk,ZaS,e1,cond_true,e2,cond_true]
theorem ZHE{l:Zay}(hp:ZbK l (n:Int)=some true){v:Zae}(hL:ZdB (memM al out bans book sh n f) l=some v) :
  Zbn (memM al out bans book sh n f) ⟨5,0,l,0,0,valZ,false⟩=some true/\Zbc (memM al out bans book sh n f) ⟨5,0,l,0,0,valZ,false⟩ 0=some (memM al out bans book sh n f,v):=by
 have hr:Zbp ⟨5,0,l,0,0,valZ,false⟩ (n:Int)=some true:=by
  unfold Zbp ZbV Zcg;rw[Zal,if_neg (by omega),Zal,if_neg (by omega)];show (ZbK l (n:Int)).bind (fun x1=>some x1)=some true;rw[hp];rfl
 have hm:=ZtM (al:=al) (out:=out) (bans:=bans) (book:=book) (f:=f) aT aS aO hr rfl (by show (5:Int)≠1;decide) (by show (5:Int)≠2;decide);have hk:ZbI (memM al out bans book sh n f) 0=some (f 0):=ZoK (k:=0) (by omega) _ rfl;refine⟨hm,?_⟩;unfold Zbc;rw[hm,ZaS,Bool.not_true,cond_false];dsimp only;rw[hk,ZaS];show ((ZdB (memM al out bans book sh n f) l).bind fun x10=>some (memM al out bans book sh n f,x10))=_;rw[hL];rfl
theorem ZuM{l:Zay}(hl:locN l=l)(hp:ZbK l (n:Int)=some true){v:Zae}(hL:ZdB (memM al out bans book sh n f) l=some v)(hg:gv0 v):Ex (Zms l) (memM al out bans book sh n f) v (memM al out bans book sh n f) 1 0:=by
 obtain⟨h1,h2⟩:=ZHE aT aS aO hp hL;have e:opN ⟨5,0,l,0,0,valZ,false⟩=⟨5,0,l,0,0,valZ,false⟩:=by
  show (⟨5,0,locN l,0,0,valZ,false⟩ : ZaK)=_;rw[hl]
 have:=Ex.ask (o:=⟨5,0,l,0,0,valZ,false⟩) (k:=.ret) (by rw[e];exact h1) (by rw[e];exact h2) hg (.ret v _ 0);have hm:mkd (opN ⟨5,0,l,0,0,valZ,false⟩) v=0:=by rw[e];simp[mkd]
 rw[hm]at this;exact this
theorem ZGp(k:Int)(hk:k=1\/k=2)(hi:okI .i64 (if k=1 then al else out)):Ex (Zms ⟨k,0,0⟩) (memM al out bans book sh n f) ⟨if k=1 then al else out,Zkk,[],[]⟩ (memM al out bans book sh n f) 1 0:=by
 refine ZuM aT aS aO (by rcases hk with rfl|rfl<;>rfl) (ZqN aT aS _ (by show 1<=k;omega) (by show k<=6;omega) (fun h=>by have:5<=k:=h;omega) (fun h=>by have:6<=k:=h;omega)) ?_ ⟨⟨hi,Zrt.1.2⟩,by simp,by simp⟩;rcases hk with rfl|rfl<;>rfl
theorem ZAe(h1:bans.length<=800)(h2:∀b∈bans,b.ok):Ex (Zms ⟨3,0,0⟩) (memM al out bans book sh n f) ⟨0,Zkk,bans,[]⟩ (memM al out bans book sh n f) 1 0:=by
 refine ZuM aT aS aO rfl (ZqN aT aS _ (by decide) (by decide) (fun h=>absurd h (by decide)) (fun h=>absurd h (by decide))) rfl ⟨⟨okZ,Zrt.1.2.1,⟨by show bans.length<=maxLen;unfold maxLen;omega,h2⟩,Zrt.1.2.2.2⟩,h1,by simp⟩
theorem ZuL(h1:book.length<=800)(h2:∀b∈book,b.ok):Ex (Zms ⟨4,0,0⟩) (memM al out bans book sh n f) ⟨0,Zkk,[],book⟩ (memM al out bans book sh n f) 1 0:=by
 refine ZuM aT aS aO rfl (ZqN aT aS _ (by decide) (by decide) (fun h=>absurd h (by decide)) (fun h=>absurd h (by decide))) rfl ⟨⟨okZ,Zrt.1.2.1,Zrt.1.2.2.1,⟨by show book.length<=maxLen;unfold maxLen;omega,h2⟩,trivial⟩,by simp,h1⟩
theorem ZBk{i:Nat}(hi:i<n){l r:List Zaa}(hs:sh.getD i Zad.d=⟨(l.length:Int),l++r⟩)(ay:∀p∈l,p.ok):∀(k j:Nat)(w:List Zaa),j+k<=l.length ->
  Ex (Zpo (i:Int) k j w) (memM al out bans book sh n f) (w++(l.drop j).take k) (memM al out bans book sh n f) k 0
 | 0,j,w,h=>by
  have:w++(l.drop j).take 0=w:=by simp
  rw[this]
  exact .ret _ _ _
 |k+1,j,w,h=>by
  have hj:j<l.length:=by omega
  have hv:Ex (Zms ⟨6,(i:Int),(j:Int)⟩) (memM al out bans book sh n f) ⟨0,l.getD j Zaa.d,[],[]⟩ (memM al out bans book sh n f) 1 0:=by
   refine ZuM aT aS aO rfl (ZGy aT aS hi j) ?_ ⟨⟨okZ,ay _ (Zgq l _ j hj),Zrt.1.2.2⟩,by simp,by simp⟩;unfold ZdB;show (need (0<=(i:Int)/\(i:Int)<(((memM al out bans book sh n f).fShards.length:Nat):Int)) _)=_;rw[Zaw ⟨Int.natCast_nonneg _,by show (i:Int)<((sh.length:Nat):Int);omega⟩];simp only[Int.toNat_natCast];rw[show (memM al out bans book sh n f).fShards=sh from rfl];simp only[hs];have hlen:(l++r).length=l.length+r.length:=List.length_append;rw[Zal,if_pos (by omega),Zaw ⟨Int.natCast_nonneg _,by omega⟩];have:(l++r).getD j Zaa.d=l.getD j Zaa.d:=by
    simp[List.getD_eq_getElem?_getD,List.getElem?_append_left hj]
   rw[this]
  have ih:=ZBk hi hs ay k (j+1) (w++[l.getD j Zaa.d]) (by omega);have e:w++[l.getD j Zaa.d]++(l.drop (j+1)).take k=w++(l.drop j).take (k+1):=by
   rw[Zee l Zaa.d j hj];simp
  rw[e]at ih;unfold Zpo;exact hv.seq ih (by omega) rfl
theorem ZHU{i:Nat}(hi:i<n){l r:List Zaa}(hs:sh.getD i Zad.d=⟨(l.length:Int),l++r⟩)(ay:∀p∈l,p.ok)(hl:l.length<=800):Ex (ZxJ (i:Int)) (memM al out bans book sh n f) l (memM al out bans book sh n f) (l.length+1) 0:=by
 have hv:Ex (Zms ⟨5,(i:Int),0⟩) (memM al out bans book sh n f) ⟨(l.length:Int),Zkk,[],[]⟩ (memM al out bans book sh n f) 1 0:=by
  refine ZuM aT aS aO rfl (ZGz aT aS hi) ?_ ⟨⟨?_,Zrt.1.2⟩,by simp,by simp⟩
  ·unfold ZdB;show (need (0<=(i:Int)/\(i:Int)<(((memM al out bans book sh n f).fShards.length:Nat):Int)) _)=_;rw[Zaw ⟨Int.natCast_nonneg _,by show (i:Int)<((sh.length:Nat):Int);omega⟩,Int.toNat_natCast,show (memM al out bans book sh n f).fShards=sh from rfl,hs];rfl
  ·show okI .i64 (l.length:Int);exact ZtH (by omega) (by omega)
 have h2:=ZBk (al:=al) (out:=out) (bans:=bans) (book:=book) (f:=f) aT aS aO hi hs ay l.length 0 [] (by omega);rw[List.drop_zero,List.take_length,List.nil_append]at h2;unfold ZxJ;exact hv.seq (by simpa using h2) (by omega) rfl
theorem Ztg{l:Zay}{v:Zae}(hl:locN l=l)(hv:valN l.fKind v=v)(hp:ZbK l (n:Int)=some true)(h2:2<l.fKind){m':ZaD}(hS:Zdl (memM al out bans book sh n f) l v=some m')(ag:Bool):Ex (Zkl l v ag) (memM al out bans book sh n f) () m' 1 (bn ag):=by
 have e:opN ⟨6,0,l,0,0,v,ag⟩=⟨6,0,l,0,0,v,ag⟩:=by
  show (⟨6,0,locN l,0,0,valN l.fKind v,ag⟩ : ZaK)=_;rw[hl,hv]
 have hr:Zbp ⟨6,0,l,0,0,v,ag⟩ (n:Int)=some true:=by
  unfold Zbp ZbV Zcg;rw[Zal,if_neg (by omega),Zal,if_neg (by omega)];show ((ZbK l (n:Int)).bind fun x2=>bif x2 then some (decide (l.fKind>2))else some false)=some true;rw[hp,ZaS,cond_true,decide_eq_true h2]
 have hm:=ZtM (al:=al) (out:=out) (bans:=bans) (book:=book) (f:=f) aT aS aO hr rfl (by show (6:Int)≠1;decide) (by show (6:Int)≠2;decide);have hk:ZbI (memM al out bans book sh n f) 0=some (f 0):=ZoK (k:=0) (by omega) _ rfl;have hd:Zbc (memM al out bans book sh n f) ⟨6,0,l,0,0,v,ag⟩ 0=some (m',valZ):=by
  unfold Zbc;rw[hm,ZaS,Bool.not_true,cond_false];dsimp only;rw[hk,ZaS];show ((Zdl (memM al out bans book sh n f) l v).bind fun iZ=>some (iZ,valZ))=_;rw[hS];rfl
 have:=Ex.ask (o:=⟨6,0,l,0,0,v,ag⟩) (k:=fun _=>.ret ()) (by rw[e];exact hm) (by rw[e];exact hd) Zrt (.ret () _ 0);have hm:mkd (opN ⟨6,0,l,0,0,v,ag⟩) valZ=bn ag:=by rw[e];cases ag<;>simp[mkd,bn]
 rw[hm]at this;exact this
theorem ZpO(l:List Zab)(ag:Bool):Ex (Zkl ⟨3,0,0⟩ ⟨0,Zkk,l,[]⟩ ag) (memM al out bans book sh n f) () (memM al out l book sh n f) 1 (bn ag):=
 Ztg aT aS aO rfl rfl (ZqN aT aS _ (by decide) (by decide) (fun h=>absurd h (by decide)) (fun h=>absurd h (by decide))) (by decide) rfl ag
theorem ZyP(l:List Zac)(ag:Bool):Ex (Zkl ⟨4,0,0⟩ ⟨0,Zkk,[],l⟩ ag) (memM al out bans book sh n f) () (memM al out bans l sh n f) 1 (bn ag):=
 Ztg aT aS aO rfl rfl (ZqN aT aS _ (by decide) (by decide) (fun h=>absurd h (by decide)) (fun h=>absurd h (by decide))) (by decide) rfl ag
omit aT in
theorem Zxr{i:Nat}(hi:i<n){sz:Int}{S:List Zaa}(hs:sh.getD i Zad.d=⟨sz,S⟩)(hS:S.length<=10000)(j:Nat)(hj:j<=S.length)(p:Zaa) :
  Zdl (memM al out bans book sh n f) ⟨6,(i:Int),(j:Int)⟩ ⟨0,p,[],[]⟩=some (memM al out bans book (sh.set i ⟨sz,if j<S.length then S.set j p else S++[p]⟩) n f):=by
 unfold Zdl;simp only[List.nil_append];show (need ((memM al out bans book sh n f).fShards.length * 32<=140737488355328/\(memM al out bans book sh n f).fShards.length<=maxLen) _)=_;rw[show (memM al out bans book sh n f).fShards=sh from rfl];rw[Zaw ⟨by omega,by unfold maxLen;omega⟩,Zaw ⟨Int.natCast_nonneg _,by omega⟩];show (bif(decide ((j:Int)<_))then _ else _)=_;simp only[Int.toNat_natCast,hs];rw[Zal];by_cases h:j<S.length
 ·rw[if_pos (by omega),if_pos h,Zaw ⟨by omega,by unfold maxLen;omega⟩,Zaw ⟨Int.natCast_nonneg _,by omega⟩];rfl
 ·have e:j=S.length:=by omega
  subst e;rw[if_neg (by omega),if_neg h];simp only[beq_self_eq_true,cond_true];rw[Zaw ⟨by omega,by unfold maxLen;omega⟩,Zaw ⟨by simp;omega,by simp[maxLen];omega⟩];rfl
theorem ZyN{i:Nat}(hi:i<n){sz:Int}{S:List Zaa}(hs:sh.getD i Zad.d=⟨sz,S⟩)(hS:S.length<=10000)(j:Nat)(hj:j<=S.length)(p:Zaa)(ag:Bool) :
  Ex (Zkl ⟨6,(i:Int),(j:Int)⟩ ⟨0,p,[],[]⟩ ag) (memM al out bans book sh n f) () (memM al out bans book (sh.set i ⟨sz,if j<S.length then S.set j p else S++[p]⟩) n f) 1 (bn ag):=
 Ztg aT aS aO rfl rfl (ZGy aT aS hi j) (show (2:Int)<6 by decide) (Zxr aS aO hi hs hS j hj p) ag
theorem ZyO{i:Nat}(hi:i<n){sz:Int}{S:List Zaa}(hs:sh.getD i Zad.d=⟨sz,S⟩)(k:Int)(ag:Bool) :
  Ex (Zkl ⟨5,(i:Int),0⟩ ⟨k,Zkk,[],[]⟩ ag) (memM al out bans book sh n f) () (memM al out bans book (sh.set i ⟨k,S⟩) n f) 1 (bn ag):=by
 refine Ztg aT aS aO rfl rfl (ZGz aT aS hi) (show (2:Int)<5 by decide) ?_ ag;unfold Zdl;simp only[List.nil_append];show (need ((memM al out bans book sh n f).fShards.length * 32<=140737488355328/\(memM al out bans book sh n f).fShards.length<=maxLen) _)=_;rw[show (memM al out bans book sh n f).fShards=sh from rfl];rw[Zaw ⟨by omega,by unfold maxLen;omega⟩,Zaw ⟨Int.natCast_nonneg _,by omega⟩];simp only[Int.toNat_natCast,hs];rfl
end
theorem ZAl{α:Type}(l:List α)(d:α){i:Nat}(hi:i<l.length)(x:α):(l.set i x).getD i d=x:=by simp[List.getD_eq_getElem?_getD,hi]
def Zkm(aj S0:List Zaa)(j:Nat):List Zaa:=aj.take j++S0.drop j
theorem Zvj{aj S0:List Zaa}{j:Nat}(hj:j<=aj.length):(Zkm aj S0 j).length=j+(S0.length-j):=by simp[Zkm];omega
theorem ZyY{aj S0:List Zaa}{j:Nat}(hj:j<aj.length):(if j<(Zkm aj S0 j).length then(Zkm aj S0 j).set j (aj.getD j Zaa.d)else Zkm aj S0 j++[aj.getD j Zaa.d])=Zkm aj S0 (j+1):=by
 have hl:=Zvj (S0:=S0) (Nat.le_of_lt hj);have ht:(aj.take j).length=j:=by simp;omega
 have e1:aj.take (j+1)=aj.take j++[aj.getD j Zaa.d]:=by rw[List.take_succ_eq_append_getElem hj,Zdf aj _ j hj]
 by_cases h:j<S0.length
 ·rw[if_pos (by omega)];unfold Zkm;rw[Zee S0 Zaa.d j h,e1,List.set_append_right _ _ (by omega),ht,Nat.sub_self];simp
 ·rw[if_neg (by omega)];unfold Zkm;rw[e1,List.drop_eq_nil_of_le (by omega),List.drop_eq_nil_of_le (by omega)];simp
theorem ZyZ{was r aj:List Zaa}{j:Nat}(hj:j<aj.length)(hb:wrB was aj j=false):Zkm aj (was++r) j=Zkm aj (was++r) (j+1):=by
 unfold wrB at hb;simp only[Bool.or_eq_false_iff,decide_eq_false_iff_not,Bool.not_eq_false',decide_eq_true_eq]at hb;obtain⟨h1,h2⟩:=hb;have hw:j<was.length:=by omega
 have hd:(was++r).getD j Zaa.d=was.getD j Zaa.d:=by simp[List.getD_eq_getElem?_getD,List.getElem?_append_left hw]
 have e1:aj.take (j+1)=aj.take j++[aj.getD j Zaa.d]:=by rw[List.take_succ_eq_append_getElem hj,Zdf aj _ j hj]
 unfold Zkm;rw[Zee (was++r) Zaa.d j (by simp;omega),e1,hd,h2];simp
section
variable {al out:Int} {bans:List Zab} {book:List Zac} {n:Nat} {f:Nat->Zat} (aT:1<=n) (aS:n<=8)
include aT aS
theorem ZuK{i:Nat}(hi:i<n)(was r aj:List Zaa)(hlen:(was++r).length<=5000)(gp:aj.length<=5000)(sz:Int):∀(k j:Nat)(sh:List Zad),j+k=aj.length->sh.length=n->sh.getD i Zad.d=⟨sz,Zkm aj (was++r) j⟩ ->
  Ex (ZqH (i:Int) aj (((List.range' j k).filter (wrB was aj)).map fun(i:Nat)=>(i:Int))) (memM al out bans book sh n f) () (memM al out bans book (sh.set i ⟨sz,Zkm aj (was++r) aj.length⟩) n f) k 0
 | 0,j,sh,hj,aO,hs=>by
  have e:j=aj.length:=by omega
  subst e
  have:sh.set i ⟨sz,Zkm aj (was++r) aj.length⟩=sh:=by
   rw[<-hs];apply List.ext_getElem
   ·simp
   ·intro q h1 h2;rw[List.getElem_set];split
    ·rename_i e;subst e;exact Zdf sh _ i h2
    ·rfl
  rw[this];exact .ret _ _ _
 |k+1,j,sh,hj,aO,hs=>by
  have lV:j<aj.length:=by omega
  rw[List.range'_succ];cases hb:wrB was aj j with
  |true=>
   rw[List.filter_cons_of_pos hb,List.map_cons];unfold ZqH;have hS:=Zvj (S0:=was++r) (Nat.le_of_lt lV);have h1:=ZyN (al:=al) (out:=out) (bans:=bans) (book:=book) (f:=f) aT aS aO hi hs (by omega) j (by omega) (aj.getD j Zaa.d) false;rw[ZyY lV]at h1;have h2:=ZuK hi was r aj hlen gp sz k (j+1) (sh.set i ⟨sz,Zkm aj (was++r) (j+1)⟩) (by omega) (by simpa using aO) (ZAl sh _ (by omega) _);rw[List.set_set]at h2;have e:aj.getD ((j:Int)).toNat Zaa.d=aj.getD j Zaa.d:=by rw[Int.toNat_natCast]
   rw[e];exact h1.seq h2 (by omega) rfl
  |false=>
   rw[List.filter_cons_of_neg (by simp[hb])];rw[ZyZ lV hb]at hs;exact(ZuK hi was r aj hlen gp sz k (j+1) sh (by omega) aO hs).more (by omega)
theorem ZGo{sh:List Zad}(aO:sh.length=n){i:Nat}(hi:i<n)(was r aj:List Zaa)(hlen:(was++r).length<=5000)(gp:aj.length<=5000)(hs:sh.getD i Zad.d=⟨(was.length:Int),was++r⟩) :
  Ex (Zxg (i:Int) was aj) (memM al out bans book sh n f) () (memM al out bans book (sh.set i ⟨(aj.length:Int),aj++(was++r).drop aj.length⟩) n f) (aj.length+1) 0:=by
 have h1:=ZuK (al:=al) (out:=out) (bans:=bans) (book:=book) (f:=f) aT aS hi was r aj hlen gp (was.length:Int) aj.length 0 sh (by omega) aO (by rw[hs];simp[Zkm]);have e:Zkm aj (was++r) aj.length=aj++(was++r).drop aj.length:=by simp[Zkm]
 rw[e]at h1;unfold Zxg wrL;rw[List.range_eq_range'];by_cases h:was.length=aj.length
 ·rw[if_pos h];rw[h]at h1;exact h1.seq (.ret _ _ 0) (by omega) rfl
 ·rw[if_neg h];have h2:=ZyO (al:=al) (out:=out) (bans:=bans) (book:=book) (f:=f) (sh:=sh.set i ⟨(was.length:Int),aj++(was++r).drop aj.length⟩) aT aS (by simpa using aO) hi (ZAl sh _ (by omega) _) (aj.length:Int) false;rw[List.set_set]at h2;exact h1.seq h2 (by omega) rfl
theorem ZHT{sh:List Zad}(aO:sh.length=n)(k:Int)(hk:k=1\/k=2)(aj:Int)(ag:Bool):Ex (ZGZ k (if k=1 then al else out) aj ag) (memM al out bans book sh n f) true (memM (if k=1 then aj else al) (if k=1 then out else aj) bans book sh n f) 1 (bn ag):=by
 have hr:∀old,Zbp ⟨7,0,⟨k,0,0⟩,old,aj,valZ,ag⟩ (n:Int)=some true:=fun old=>by
  unfold Zbp ZbV Zcg;rw[Zal,if_neg (by omega),Zal,if_neg (by omega)];rcases hk with rfl|rfl<;>rfl
 have hm:=fun old=>ZtM (al:=al) (out:=out) (bans:=bans) (book:=book) (f:=f) aT aS aO (hr old) rfl (by show (7:Int)≠1;decide) (by show (7:Int)≠2;decide);have hl:ZbI (memM al out bans book sh n f) 0=some (f 0):=ZoK (k:=0) (by omega) _ rfl;have hd:Zbc (memM al out bans book sh n f) ⟨7,0,⟨k,0,0⟩,(if k=1 then al else out),aj,valZ,ag⟩ 0=some (memM (if k=1 then aj else al) (if k=1 then out else aj) bans book sh n f,⟨1,Zkk,[],[]⟩):=by
  unfold Zbc;rw[hm,ZaS,Bool.not_true,cond_false];dsimp only;rw[hl,ZaS];rcases hk with rfl|rfl
  ·show (bif(al==al)then _ else _)=_;rw[beq_self_eq_true,cond_true];rfl
  ·show (bif(out==out)then _ else _)=_;rw[beq_self_eq_true,cond_true];rfl
 have e:∀old,opN ⟨7,0,⟨k,0,0⟩,old,aj,valZ,ag⟩=⟨7,0,⟨k,0,0⟩,old,aj,valZ,ag⟩:=fun old=>by rcases hk with rfl|rfl<;>rfl
 have hg1:gv0 ⟨1,Zkk,[],[]⟩:=⟨⟨rfl,Zrt.1.2⟩,Nat.zero_le _,Nat.zero_le _⟩;have:=Ex.ask (o:=⟨7,0,⟨k,0,0⟩,(if k=1 then al else out),aj,valZ,ag⟩) (k:=fun v=>.ret (v.fN==1)) (by rw[e];exact hm _) (by rw[e];exact hd) hg1 (.ret _ _ 0);rw[e]at this;have i3:mkd ⟨7,0,⟨k,0,0⟩,(if k=1 then al else out),aj,valZ,ag⟩ ⟨1,Zkk,[],[]⟩=bn ag:=by cases ag<;>simp[mkd,bn]
 rw[i3]at this;exact this
theorem ZES{sh:List Zad}(aO:sh.length=n)(k:Int)(hk:k=1\/k=2)(hi:okI .i64 (if k=1 then al else out))(dt:Int)(ag:Bool) :
  Ex (Zwy k dt ag 1000000) (memM al out bans book sh n f) () (memM (if k=1 then Zar al dt else al) (if k=1 then out else Zar out dt) bans book sh n f) 2 (bn ag):=by
 unfold Zwy;refine(ZGp aT aS aO k hk hi).seq (s2:=1) (c2:=bn ag) ?_ (by omega) (by omega);dsimp only;have h:=ZHT (al:=al) (out:=out) (bans:=bans) (book:=book) (f:=f) aT aS aO k hk (Zar (if k=1 then al else out) dt) ag;have e1:memM (if k=1 then Zar (if k=1 then al else out) dt else al) (if k=1 then out else Zar (if k=1 then al else out) dt) bans book sh n f=memM (if k=1 then Zar al dt else al) (if k=1 then out else Zar out dt) bans book sh n f:=by
  rcases hk with rfl|rfl<;>rfl
 rw[e1]at h;exact h.seq (.ret _ _ 0) (by omega) rfl
def updR(f:Nat->Zat)(i j:Nat)(l:Zat):Nat->Zat:=fun q=>if i<=q/\q<j then l else f q
theorem ZBl{sh:List Zad}(aO:sh.length=n):∀(k i:Nat)(f:Nat->Zat),i+k=n->(∀q,2+i<=q->q<n+2->f q=ZhE)->Ex (ZxX i k) (memM al out bans book sh n f) () (memM al out bans book sh n (updR f (2+i) (n+2) ZfU)) k 0
 | 0,i,f,hk,hf=>by
  have:updR f (2+i) (n+2) ZfU=f:=by
   funext q;unfold updR;rw[if_neg (by omega)]
  rw[this];exact .ret _ _ _
 |k+1,i,f,hk,hf=>by
  have h1:=Zsx (al:=al) (out:=out) (bans:=bans) (book:=book) (f:=f) (k:=2+i) aT aS aO (by omega) (hf _ (by omega) (by omega)) false;have h2:=ZBl aO k (i+1) (updL f (2+i) ZfU) (by omega) (fun q h1 h2=>by rw[ZvW _ _ (by omega)];exact hf q (by omega) h2);have e:updR (updL f (2+i) ZfU) (2+(i+1)) (n+2) ZfU=updR f (2+i) (n+2) ZfU:=by
   funext q;unfold updR updL;by_cases h:q=2+i
   ·rw[if_neg (by omega),if_pos h,if_pos (by omega)]
   ·by_cases h2:2+i<=q/\q<n+2
    ·rw[if_pos (by omega),if_pos h2]
    ·rw[if_neg (by omega),if_neg h,if_neg h2]
  rw[e]at h2;have ek:(2+(i:Int))=((2+i:Nat):Int):=by omega
  unfold ZxX;rw[ek];exact h1.seq h2 (by omega) rfl
theorem ZvS{sh:List Zad}(aO:sh.length=n)(p:Int)(hp:Zbr p=n)(hf:∀q,2<=q->q<n+2->f q=ZhE):Ex (ZmQ p) (memM al out bans book sh n f) () (memM al out bans book sh n (updR f 2 (n+2) ZfU)) n 0:=by
 unfold ZmQ;rw[hp];exact ZBl aT aS aO n 0 f (by omega) hf
theorem ZBm{sh:List Zad}(aO:sh.length=n)(ag:Bool)(m:Nat):∀(k:Nat)(f:Nat->Zat),k<=n->(∀q,2<=q->q<k+2->f q=ZfU)->Ex (ZvE ag m k) (memM al out bans book sh n f) () (memM al out bans book sh n (updR f 2 (k+2) ZhE)) k (if 0<m/\m<=k then bn ag else 0)
 | 0,f,hk,hf=>by
  have:updR f 2 (0+2) ZhE=f:=by
   funext q;unfold updR;rw[if_neg (by omega)]
  rw[this,if_neg (by omega)];exact .ret _ _ _
 |k+1,f,hk,hf=>by
  have h1:=ZET (al:=al) (out:=out) (bans:=bans) (book:=book) (f:=f) (k:=2+k) aT aS aO (by omega) [] (hf _ (by omega) (by omega)) (ag&&decide (k+1=m));have h2:=ZBm aO ag m k (updL f (2+k) ZhE) (by omega) (fun q h1 h2=>by rw[ZvW _ _ (by omega)];exact hf q h1 (by omega));have e:updR (updL f (2+k) ZhE) 2 (k+2) ZhE=updR f 2 (k+1+2) ZhE:=by
   funext q;unfold updR updL;by_cases h:q=2+k
   ·rw[if_neg (by omega),if_pos h,if_pos (by omega)]
   ·by_cases h2:2<=q/\q<k+2
    ·rw[if_pos h2,if_pos (by omega)]
    ·rw[if_neg h2,if_neg h,if_neg (by omega)]
  rw[e]at h2;have ek:(2+(k:Int))=((2+k:Nat):Int):=by omega
  unfold ZvE;rw[ek];refine h1.seq h2 (by omega) ?_;by_cases hm:k+1=m
  ·subst hm;rw[if_neg (by omega),if_pos (by omega)];simp
  ·rw[decide_eq_false hm,Bool.and_false];by_cases h3:0<m/\m<=k
   ·rw[if_pos h3,if_pos (by omega)];simp[bn]
   ·rw[if_neg h3,if_neg (by omega)];simp[bn]
theorem ZvT{sh:List Zad}(aO:sh.length=n)(p:Int)(hp:Zbr p=n)(ag:Bool)(hf:∀q,2<=q->q<n+2->f q=ZfU):Ex (ZoF p ag) (memM al out bans book sh n f) () (memM al out bans book sh n (updR f 2 (n+2) ZhE)) n (bn ag):=by
 unfold ZoF;rw[hp];have:=ZBm (al:=al) (out:=out) (bans:=bans) (book:=book) aT aS aO ag n n f (Nat.le_refl _) hf;rw[if_pos (by omega)]at this;exact this
end
theorem Zny{a:Int}(h:0<=a):∃n:Nat,a=n:=⟨a.toNat,by omega⟩
def ZeG(a:Zag):Bool:=if a.fV6 then !(decide (a.fHi=0)&&decide (a.fLo / 4294967296=65535))else decide (a.fHi=0)&&decide (a.fLo<4294967296)
theorem ZIk(n:Nat)(h:n<=18446744073709551615):IntKind.u32.wrap (IntKind.u64.wrap (((BitVec.ofInt (IntKind.bits .u64) (n:Int)) &&& (BitVec.ofInt (IntKind.bits .u64) (4294967295:Int))).toNat:Int))=((n % 4294967296:Nat):Int):=by
 have:=ZEF n 4294967295 (by omega) (by omega);rw[show ((4294967295:Nat):Int)=(4294967295:Int)from rfl]at this;rw[this,show (4294967295:Nat)=2 ^ 32-1 from rfl,Nat.and_two_pow_sub_one_eq_mod];rw[show (2:Nat) ^ 32=4294967296 from rfl];have h1:n % 4294967296<4294967296:=Nat.mod_lt _ (by omega);rw[ZjI (by omega) (by omega)];simp only[IntKind.wrap,IntKind.bits,IntKind.signed];simp
theorem ZHX(n:Nat)(h:n<4294967296):ZnR ((n:Nat):Int)=some ⟨false,0,n⟩:=by
 unfold ZnR;rw[ZjI (by omega) (by omega)]
theorem ZlI(a:Zag)(h:a.ok):Zfp a=some (ZeG a):=by
 obtain⟨v,hi,lo⟩:=a;obtain⟨_,h1,h2,_⟩:=h;have h1:=Zsb h1;have h2:=Zsb h2;simp only at h1 h2;obtain⟨n,rfl⟩:=Zny h2.1;have hm:=ZIk n (by omega);have hlt:n % 4294967296<4294967296:=Nat.mod_lt _ (by omega);have hd:Int.fdiv (n:Int) (2 ^ (min (32:Int).toNat (IntKind.bits .u64)))=(n:Int) / 4294967296:=by
  rw[show (2:Int) ^ (min (32:Int).toNat (IntKind.bits .u64))=4294967296 from rfl,Int.fdiv_eq_ediv_of_nonneg _ (by omega)]
 cases v with
 |true=>
  simp only[Zfp,ZrE,ZeG,cond_true,hd,hm];have hb:∀(p q:Int),(p==q)=decide (p=q):=fun p q=>by rw[Bool.eq_iff_iff];simp
  have hv:=ZHX _ hlt;by_cases h3:hi=0
  ·by_cases h4:(n:Int) / 4294967296=65535
   ·rw[hb,hb,decide_eq_true h3,decide_eq_true h4,cond_true,cond_true,hv];simp
   ·rw[hb,hb,decide_eq_true h3,decide_eq_false h4,cond_true,cond_false];simp
  ·rw[hb,decide_eq_false h3,cond_false];simp
 |false=>
  simp only[Zfp,ZeG,cond_false,hm,ZHX _ hlt,Option.bind_some];congr 1;rw[Bool.eq_iff_iff];simp;constructor
  ·rintro ⟨h5,h6⟩;exact⟨h5.symm,by omega⟩
  ·rintro ⟨h5,h6⟩;exact⟨h5.symm,by omega⟩
theorem Zns(a:Zag)(h:a.ok):Zcf a=some (ZeG a):=by
 obtain⟨v,hi,lo⟩:=a;obtain⟨_,h1,h2,_⟩:=h;have h1:=Zsb h1;have h2:=Zsb h2;simp only at h1 h2;have hd:IntKind.u64.wrap (Int.tdiv lo 4294967296)=lo / 4294967296:=by
  rw[Int.tdiv_eq_ediv_of_nonneg h2.1];exact ZjI (by omega) (by omega)
 cases v with
 |true=>
  simp only[Zcf,ZeG,hd,Bool.not_true,cond_false,if_true];generalize lo / 4294967296=q;simp only[Bool.cond_eq_ite,beq_iff_eq,bne_iff_ne,ne_eq,decide_eq_true_eq,Bool.not_eq_true',Bool.not_eq_false',decide_eq_false_iff_not]
  repeat' split
  all_goals first|rfl | (rw[Option.some.injEq,Bool.eq_iff_iff];simp only[Bool.and_eq_true,Bool.not_eq_true',Bool.not_eq_false',Bool.and_eq_false_iff,decide_eq_true_eq,decide_eq_false_iff_not,beq_iff_eq,bne_iff_ne,ne_eq,iff_true,iff_false,true_iff,false_iff,Bool.false_eq_true,Bool.true_eq_false,not_true_eq_false,not_false_eq_true];omega)
 |false=>
  simp only[Zcf,ZeG,Bool.not_false,cond_true,Bool.false_eq_true,if_false];simp only[Bool.cond_eq_ite,beq_iff_eq,bne_iff_ne,ne_eq,decide_eq_true_eq,Bool.not_eq_true',Bool.not_eq_false',decide_eq_false_iff_not]
  repeat' split
  all_goals first|rfl | (rw[Option.some.injEq,Bool.eq_iff_iff];simp only[Bool.and_eq_true,Bool.not_eq_true',Bool.not_eq_false',Bool.and_eq_false_iff,decide_eq_true_eq,decide_eq_false_iff_not,beq_iff_eq,bne_iff_ne,ne_eq,iff_true,iff_false,true_iff,false_iff,Bool.false_eq_true,Bool.true_eq_false,not_true_eq_false,not_false_eq_true];omega)
theorem ZAs(a b:Zag):ZdX a b=some (cmpA a b):=by
 obtain⟨v,hi,lo⟩:=a;obtain⟨v',cQ,lW⟩:=b;simp only[ZdX,Zed,Zec,cmpA,famA,cmpI,orI,Zag.mk.injEq];simp only[Bool.cond_eq_ite,bne_iff_ne,ne_eq,ite_not,decide_eq_true_eq,Bool.not_eq_true',beq_eq_false_iff_ne];cases v<;>cases v'<;>simp only[true_and,Bool.false_eq_true,Bool.true_eq_false,false_and,not_true_eq_false,not_false_eq_true,if_true,if_false,ite_true,ite_false,Bool.not_true,Bool.not_false]
 all_goals (repeat' split)<;>first|rfl|omega | (congr 1;omega)|simp_all
theorem ZAr(a b:Zao):ZdW a b=some (cmpN a b):=by
 simp only[ZdW,ZAs,Option.bind_some,cmpN,orI,cmpI];simp only[Bool.cond_eq_ite,bne_iff_ne,ne_eq,ite_not,decide_eq_true_eq,beq_iff_eq];generalize cmpA a.fAddr b.fAddr=c
 (repeat' split)<;>first|rfl|omega | (congr 1;omega)|simp_all
def Zlm(a:Zah):Bool:=ZeG a.fAddr&&decide (1<=a.fPort)&&decide (a.fPort<=65535)
theorem ZCf(a:Zah)(h:a.ok):ZkU a=some (Zlm a):=by
 simp only[ZkU,ZlI _ h.1,Zlm,Option.bind_some];generalize ZeG a.fAddr=b;cases b<;>simp only[cond_true,cond_false,Bool.true_and,Bool.false_and];simp only[Bool.cond_eq_ite,beq_iff_eq,bne_iff_ne,ne_eq,decide_eq_true_eq,Bool.not_eq_true',Bool.not_eq_false',decide_eq_false_iff_not]
 repeat' split
 all_goals first|rfl | (rw[Option.some.injEq,Bool.eq_iff_iff];simp only[Bool.and_eq_true,Bool.not_eq_true',Bool.not_eq_false',Bool.and_eq_false_iff,decide_eq_true_eq,decide_eq_false_iff_not,beq_iff_eq,bne_iff_ne,ne_eq,iff_true,iff_false,true_iff,false_iff,Bool.false_eq_true,Bool.true_eq_false,not_true_eq_false,not_false_eq_true];omega)
theorem Zpn(a:Zah)(h:a.ok):ZdQ a=some (Zlm a):=by
 simp only[ZdQ,Zns _ h.1,Zlm,Option.bind_some];generalize ZeG a.fAddr=b;cases b<;>simp only[cond_true,cond_false,Bool.true_and,Bool.false_and];simp only[Bool.cond_eq_ite,beq_iff_eq,bne_iff_ne,ne_eq,decide_eq_true_eq,Bool.not_eq_true',Bool.not_eq_false',decide_eq_false_iff_not]
 repeat' split
 all_goals first|rfl | (rw[Option.some.injEq,Bool.eq_iff_iff];simp only[Bool.and_eq_true,Bool.not_eq_true',Bool.not_eq_false',Bool.and_eq_false_iff,decide_eq_true_eq,decide_eq_false_iff_not,beq_iff_eq,bne_iff_ne,ne_eq,iff_true,iff_false,true_iff,false_iff,Bool.false_eq_true,Bool.true_eq_false,not_true_eq_false,not_false_eq_true];omega)
def Zxz(e:Zac):Bool:=Zlm e.fEnd&&decide (1<=e.fState)&&decide (e.fState<=3)&&decide (0<=e.fFails)&&decide (e.fFails<=1000)&&decide (0<=e.fNext)&&decide (e.fNext<=1099511627776)
theorem ZuQ(e:Zac)(h:e.ok):ZfJ e=some (Zxz e):=by
 simp only[ZfJ,Zpn _ h.1,Zxz,Option.bind_some];generalize Zlm e.fEnd=b;cases b<;>simp only[cond_true,cond_false,Bool.true_and,Bool.false_and];simp only[Bool.cond_eq_ite,beq_iff_eq,bne_iff_ne,ne_eq,decide_eq_true_eq,Bool.not_eq_true',Bool.not_eq_false',decide_eq_false_iff_not]
 repeat' split
 all_goals first|rfl | (rw[Option.some.injEq,Bool.eq_iff_iff];simp only[Bool.and_eq_true,Bool.not_eq_true',Bool.not_eq_false',Bool.and_eq_false_iff,decide_eq_true_eq,decide_eq_false_iff_not,beq_iff_eq,bne_iff_ne,ne_eq,iff_true,iff_false,true_iff,false_iff,Bool.false_eq_true,Bool.true_eq_false,not_true_eq_false,not_false_eq_true];omega)
def cmpE(a b:Zah):Int:=orI (cmpA a.fAddr b.fAddr) (cmpI a.fPort b.fPort)
theorem ZFO(a b:Zah):Zjh a b=some (cmpE a b):=by
 simp only[Zjh,ZBf,ZzU,or2,Option.bind_some,cmpE]
theorem Zwi(a b:Zah):Zdu a b=some (cmpE a b):=by
 simp only[Zdu,ZAs,Option.bind_some,cmpE,orI,cmpI];simp only[Bool.cond_eq_ite,bne_iff_ne,ne_eq,ite_not,decide_eq_true_eq,beq_iff_eq];generalize cmpA a.fAddr b.fAddr=c
 (repeat' split)<;>first|rfl|omega | (congr 1;omega)|simp_all
theorem ZEm{a b:Zah}:cmpE a b<0↔cmpA a.fAddr b.fAddr<0\/(a.fAddr=b.fAddr/\a.fPort<b.fPort):=by simp only[cmpE,ZDj,ZzV,ZrR]
theorem ZHJ{a b:Zah}:0<cmpE a b↔0<cmpA a.fAddr b.fAddr\/(a.fAddr=b.fAddr/\b.fPort<a.fPort):=by simp only[cmpE,ZGB,ZEl,ZrR]
theorem Zuy{a b:Zah}:cmpE a b=0↔a=b:=by
 simp only[cmpE,ZAx,ZrP,ZrR];obtain⟨x,p⟩:=a;obtain⟨y,q⟩:=b;simp
theorem ZrQ{a b:Zah}:0<cmpE a b↔cmpE b a<0:=by
 rw[ZHJ,ZEm,ZEn];constructor<;>rintro (h|⟨h1,h2⟩)<;>first|exact .inl h|exact .inr ⟨h1.symm,h2⟩
theorem Zsu{a b c:Zah}(h1:cmpE a b<0)(h2:cmpE b c<0):cmpE a c<0:=by
 rw[ZEm]at *
 rcases h1 with h1|⟨h1,h3⟩<;>rcases h2 with h2|⟨h2,h4⟩
 ·exact .inl (ZvO h1 h2)
 ·exact .inl (h2 ▸ h1)
 ·exact .inl (h1 ▸ h2)
 ·exact .inr ⟨h1.trans h2,by omega⟩
def findS(l:List Zac)(e:Zah):Int:=ixOf (fun x=>decide (x.fEnd=e)) l 0
theorem ZFm(l:List Zac)(e:Zah)(hl:l.length<=maxLen):Zgi l e=some (findS l e):=by
 simp only[Zgi];rw[show ((0:Int))=((0:Nat):Int)from rfl];rw[ZqO l Zac.d (fun x=>decide (x.fEnd=e)) hl (fun fu i=>ZcM l fu i e) (fun i=>i) ?_ ?_ _ 0 (by omega) (by omega)]
 ·rfl
 ·intro fu i hi;simp only[ZcM,Zal];rw[if_pos (by omega),Zaw ⟨by omega,by omega⟩];simp
 ·intro fu;simp only[ZcM,Zal];rw[if_neg (by omega)]
theorem ZFU(l:List Zac)(h:l.length<=10000):ZbL l=some l:=by
 unfold ZbL;rw[Zaw ⟨by omega,Zrc (by omega)⟩]
def Zfc(l:List Zac)(state:Int):Int:=((l.countP fun x=>decide (x.fState=state):Nat):Int)
theorem ZxF(l:List Zac)(state:Int)(hl:l.length<=maxLen):ZeB l state=some (Zfc l state):=by
 simp only[ZeB];have:=Zse l Zac.d (fun x=>decide (x.fState=state)) hl (fun fu n i=>Zcl l state fu n i) (fun fu i n hi=>by
   simp only[Zcl,Zal];rw[if_pos (by omega),Zaw ⟨by omega,by omega⟩];simp only[Bool.cond_eq_ite,beq_iff_eq,Int.toNat_natCast,decide_eq_true_eq]) (fun fu n=>by
   simp only[Zcl,Zal];rw[if_neg (by omega)]) ((((l.length:Nat):Int)-(0:Int)).toNat+2) 0 0 (by omega) (by omega) (by omega)
 simpa[Zfc]using this
def ZBd:Option Zac->Zac->Bool|none,_=>true|some p,x=>decide (cmpE p.fEnd x.fEnd<0)
def ZAn:Option Zac->List Zac->Bool|_,[]=>true|p,x :: r=>Zxz x&&ZBd p x&&ZAn (some x) r
def ZCT(l:List Zac):Bool:=ZAn none l
def Zxy:List Zac->List Zac->Bool|_,[]=>true|p,x :: r=>Zxz x&&p.all (fun y=>decide (cmpE y.fEnd x.fEnd<0))&&Zxy (p++[x]) r
theorem Zxx:∀(r p:List Zac),p.Pairwise (fun a b=>cmpE a.fEnd b.fEnd<0)->Zxy p r=ZAn p.getLast? r
 | [],p,_=>rfl
 |x :: r,p,hp=>by
  simp only[Zxy,ZAn]
  have e:p.all (fun y=>decide (cmpE y.fEnd x.fEnd<0))=ZBd p.getLast? x:=by
   rcases List.eq_nil_or_concat p with rfl|⟨q,z,rfl⟩
   ·rfl
   ·rw[List.concat_eq_append]at hp ⊢;rw[List.getLast?_append,List.getLast?_singleton,Option.some_or,List.all_append];simp only[ZBd,List.all_cons,List.all_nil,Bool.and_true];by_cases hz:cmpE z.fEnd x.fEnd<0
    ·rw[decide_eq_true hz,Bool.and_true,List.all_eq_true];intro y hy;have:=(List.pairwise_append.1 hp).2.2 y hy z (by simp);exact decide_eq_true (Zsu this hz)
    ·rw[decide_eq_false hz,Bool.and_false]
  rw[e];cases ha:ZBd p.getLast? x
  ·simp
  ·rw[Zxx r (p++[x])]
   ·simp
   ·refine List.pairwise_append.2 ⟨hp,List.pairwise_singleton _ _,fun y hy z hz=>?_⟩;rw[List.mem_singleton.1 hz];rw[ha]at e;exact of_decide_eq_true (List.all_eq_true.1 e y hy)
theorem Zwj(l:List Zac)(h:l.length<=maxLen)(ay:∀x∈l,x.ok):ZfI l=some (ZCT l):=by
 simp only[ZfI];have dB:∀(i:Nat)(K:Int->Option Bool),i<l.length->∀fu (j:Nat),j<=i->i-j<fu->Zdd l (i:Int) K fu (j:Int)=bif((l.take i).drop j).all (fun y=>decide (cmpE y.fEnd (l.getD i Zac.d).fEnd<0))then K (Zar (i:Int) 1)else some false:=by
  intro i K hi fu;induction fu with
  |zero=>intro j _ h;omega
  |succ fu ih=>
   intro j hj hf;simp only[Zdd,Zal,Zwi,Option.bind_some];by_cases hlt:j<i
   ·rw[if_pos (by omega),Zaw ⟨by omega,by omega⟩,Zaw ⟨by omega,by omega⟩];simp only[Int.toNat_natCast];have hjt:j<(l.take i).length:=by rw[List.length_take];omega
    have hgt:(l.take i).getD j Zac.d=l.getD j Zac.d:=by
     simp only[List.getD_eq_getElem?_getD,List.getElem?_take,if_pos hlt]
    rw[Zee (l.take i) Zac.d j hjt,hgt];simp only[List.all_cons];by_cases hc:cmpE (l.getD j Zac.d).fEnd (l.getD i Zac.d).fEnd>=0
    ·rw[if_pos hc,decide_eq_false (by omega)];rfl
    ·rw[if_neg hc,decide_eq_true (by omega),add1 (show j<l.length by omega) h,ih (j+1) (by omega) (by omega)];rfl
   ·have e:j=i:=by omega
    subst e;rw[if_neg (by omega),List.drop_eq_nil_of_le (by rw[List.length_take];omega)];rfl
 have key:∀fu (i:Nat),i<=l.length->l.length-i<fu->Zck l fu (i:Int)=some (Zxy (l.take i) (l.drop i)):=by
  intro fu;induction fu with
  |zero=>intro i _ h;omega
  |succ fu ih=>
   intro i hi hf;simp only[Zck,Zal];by_cases hlt:i<l.length
   ·rw[if_pos (by omega),Zaw ⟨by omega,by omega⟩,ZuQ _ (ay _ (by rw[Int.toNat_natCast];exact Zgq l _ i hlt))];simp only[Int.toNat_natCast,Option.bind_some];rw[Zee l Zac.d i hlt];simp only[Zxy];cases Zxz (l.getD i Zac.d)
    ·rfl
    ·simp only[Bool.not_true,cond_false,Bool.true_and];have hin:=dB i (Zck l fu) hlt (((i:Int)-(0:Int)).toNat+2) 0 (by omega) (by omega);rw[show ((0:Nat):Int)=0 from rfl,List.drop_zero]at hin;rw[hin];have hih:=ih (i+1) (by omega) (by omega);rw[List.take_succ_eq_append_getElem hlt,<-Zdf l Zac.d i hlt]at hih;cases(l.take i).all (fun y=>decide (cmpE y.fEnd (l.getD i Zac.d).fEnd<0))
     ·rfl
     ·rw[cond_true,add1 hlt h,hih];rfl
   ·rw[if_neg (by omega),List.drop_eq_nil_of_le (by omega)];rfl
 have:=key ((((l.length:Nat):Int)-(0:Int)).toNat+2) 0 (by omega) (by omega);rw[show ((0:Nat):Int)=0 from rfl]at this;rw[this];congr 1;exact Zxx l [] .nil
theorem ZzT(l:List Zah)(e:Zah)(hl:l.length<=maxLen):ZcA l e=some (l.contains e):=by
 simp only[ZcA,ZdT];have:=ZqO l Zah.d (fun x=>decide (e=x)) hl (fun fu i=>Zbx l fu (l.length:Int) i e) (fun i=>i) (fun fu i hi=>by
   simp only[Zbx,Zal];rw[if_pos (by omega),Zaw ⟨by omega,by omega⟩];simp) (fun fu=>by
   simp only[Zbx,Zal];rw[if_neg (by omega)]) ((((l.length:Nat):Int)-(0:Int)).toNat+2) 0 (by omega) (by omega)
 simp only[Int.natCast_zero,List.drop_zero]at this;rw[this];simp only[Option.bind_some,Option.some.injEq];rw[Bool.eq_iff_iff,decide_eq_true_eq,List.contains_iff_mem];have hn:=ZwE (fun x=>decide (e=x)) l 0;constructor
 ·intro h;obtain⟨k,h1,_,⟨x,h3,h4⟩,_⟩:=Zrr _ l 0 h;rw[of_decide_eq_true h4];exact List.mem_of_getElem? h3
 ·intro h;apply Int.not_lt.1;intro h1;have:=hn.1 h1 e h;simp at this
theorem ZHM(l:List Zah)(e:Zah)(hl:l.length<=maxLen):ZgR l e=some (l.contains e):=by
 simp only[ZgR];have:=ZqO l Zah.d (fun x=>decide (x=e)) hl (fun fu i=>ZcV l fu i e) (fun i=>decide (0<=i)) (fun fu i hi=>by
   simp only[ZcV,Zal];rw[if_pos (by omega),Zaw ⟨by omega,by omega⟩];simp) (fun fu=>by
   simp only[ZcV,Zal];rw[if_neg (by omega)];rfl) ((((l.length:Nat):Int)-(0:Int)).toNat+2) 0 (by omega) (by omega)
 simp only[Int.natCast_zero,List.drop_zero]at this;rw[this];congr 1;rw[Bool.eq_iff_iff,decide_eq_true_eq,List.contains_iff_mem];have hn:=ZwE (fun x=>decide (x=e)) l 0;constructor
 ·intro h;obtain⟨k,h1,_,⟨x,h3,h4⟩,_⟩:=Zrr _ l 0 h;rw[<-of_decide_eq_true h4];exact List.mem_of_getElem? h3
 ·intro h;apply Int.not_lt.1;intro h1;have:=hn.1 h1 e h;simp at this
def Zlk(ends:List Zah)(x:Zac):Zac:=if x.fState=3 then(if ends.contains x.fEnd then⟨x.fEnd,1,x.fFails,x.fNext⟩else x)else x
theorem ZsR{α:Type}(l:List α)(d:α)(i:Nat)(h:i<l.length):l.set i (l.getD i d)=l:=by
 apply List.ext_getElem?;intro k;rw[List.getElem?_set];split
 ·rename_i e;subst e;rw[Zdf l d i h,List.getElem?_eq_getElem h]
 ·rfl
theorem ZEz(l:List Zac)(ends:List Zah)(h:l.length<=10000)(hm:ends.length<=maxLen):ZkC l ends=some (l.map (Zlk ends)):=by
 simp only[ZkC,ZFU l h,Option.bind_some];have:=ZAG (Zlk ends) Zac.d l.length (Zrc (by omega)) (fun fu i w=>Zen ends fu (l.length:Int) i w) some (fun fu i w hw hi=>by
   simp only[Zen,Zal,ZzT ends _ hm,ZmU,Option.bind_some];rw[if_pos (by omega),Zaw ⟨by omega,by omega⟩];simp only[Int.toNat_natCast,Zlk,Bool.cond_eq_ite,beq_iff_eq];split
   ·split
    ·rfl
    ·rw[ZsR w _ i (by omega)]
   ·rw[ZsR w _ i (by omega)]) (fun fu w hw=>by
   simp only[Zen,Zal];rw[if_neg (by omega)]) ((((l.length:Nat):Int)-(0:Int)).toNat+2) 0 l rfl (by omega) (by omega)
 simpa using this
theorem ZFn(l:List Zac)(ends:List Zah)(h:l.length<=10000)(hm:ends.length<=maxLen):ZeY l ends=some (l.map (Zlk ends)):=by
 simp only[ZeY,List.nil_append];rw[Zaw ⟨by omega,Zrc (by omega)⟩];have:=ZAG (Zlk ends) Zac.d l.length (Zrc (by omega)) (fun fu i w=>Zcd ends fu i w) some (fun fu i w hw hi=>by
   simp only[Zcd,Zal,ZHM ends _ hm,Option.bind_some];rw[if_pos (by omega),Zaw ⟨by omega,by omega⟩];simp only[Int.toNat_natCast,Zlk,Bool.cond_eq_ite,beq_iff_eq];split
   ·split
    ·rfl
    ·rw[ZsR w _ i (by omega)]
   ·rw[ZsR w _ i (by omega)]) (fun fu w hw=>by
   simp only[Zcd,Zal];rw[if_neg (by omega)]) ((((l.length:Nat):Int)-(0:Int)).toNat+2) 0 l rfl (by omega) (by omega)
 simpa using this
def Zui(l:List Zaa)(e:Zah):Int:=ixOf (fun x=>decide (x.fEnd=e)) l 0
theorem ZCZ(l:List Zaa)(e:Zah)(hl:l.length<=maxLen):ZfK l e=some (Zui l e):=by
 simp only[ZfK];have:=ZqO l Zaa.d (fun x=>decide (x.fEnd=e)) hl (fun fu i=>ZcF l fu i e) (fun i=>i) (fun fu i hi=>by
   simp only[ZcF,Zal];rw[if_pos (by omega),Zaw ⟨by omega,by omega⟩];simp) (fun fu=>by
   simp only[ZcF,Zal];rw[if_neg (by omega)]) ((((l.length:Nat):Int)-(0:Int)).toNat+2) 0 (by omega) (by omega)
 simp only[Int.natCast_zero,List.drop_zero]at this;rw[this];rfl
theorem ZFJ(l:List Zaa)(e:Zah):Zui l e<(l.length:Int):=by
 have:=Zzn (fun x:Zaa=>decide (x.fEnd=e)) l 0;unfold Zui;omega
def wid(a:Zag):Nat:=if a.fV6 then 128 else 32
def num(a:Zag):Nat:=if a.fV6 then 2 ^ 64*a.fHi.toNat+a.fLo.toNat else a.fLo.toNat
def bitN(a:Zag)(i:Nat):Bool:=(num a).testBit (wid a-1-i)
structure Fits (a:Zag):Prop where
 hi0:0<=a.fHi
 hi1:a.fHi<=18446744073709551615
 lo0:0<=a.fLo
 lo1:a.fLo<=18446744073709551615
 v4:a.fV6=false->a.fHi=0/\a.fLo<4294967296
theorem ZoG{a:Zag}(h:a.ok)(hr:ZeG a=true):Fits a:=by
 have h1:=Zsb h.2.1;have h2:=Zsb h.2.2.1;refine⟨h1.1,h1.2,h2.1,h2.2,fun hv=>?_⟩;unfold ZeG at hr;rw[hv]at hr;simpa using hr
theorem Fits.ok{a:Zag}(h:Fits a):a.ok:=by
 refine⟨trivial,?_,?_,trivial⟩
 ·have:=h.hi0;have:=h.hi1;simp only[okI,Lit.wf,IntKind.min,IntKind.max,IntKind.bits,IntKind.signed];simp;omega
 ·have:=h.lo0;have:=h.lo1;simp only[okI,Lit.wf,IntKind.min,IntKind.max,IntKind.bits,IntKind.signed];simp;omega
theorem ZGD{a:Zag}(h:Fits a):num a<2 ^ wid a:=by
 have:=h.hi0;have:=h.hi1;have:=h.lo0;have:=h.lo1;unfold num wid;cases hv:a.fV6
 ·have:=h.v4 hv;simp only[Bool.false_eq_true,if_false];omega
 ·simp only[if_true];omega
theorem ZrT{a b:Zag}(ha:Fits a)(hb:Fits b)(hv:a.fV6=b.fV6)(h:∀i,i<wid a->bitN a i=bitN b i):a=b:=by
 have hn:num a=num b:=by
  apply Nat.eq_of_testBit_eq;intro j;have hw:wid a=wid b:=by unfold wid;rw[hv]
  by_cases hj:j<wid a
  ·have:=h (wid a-1-j) (by omega);unfold bitN at this;rw[<-hw]at this;rw[show wid a-1-(wid a-1-j)=j by omega]at this;exact this
  ·rw[Nat.testBit_lt_two_pow (Nat.lt_of_lt_of_le (ZGD ha) (Nat.pow_le_pow_right (by omega) (by omega))),Nat.testBit_lt_two_pow (Nat.lt_of_lt_of_le (ZGD hb) (Nat.pow_le_pow_right (by omega) (by omega)))]
 have:=ha.hi0;have:=ha.hi1;have:=ha.lo0;have:=ha.lo1;have:=hb.hi0;have:=hb.hi1;have:=hb.lo0;have:=hb.lo1;obtain⟨v,hi,lo⟩:=a;obtain⟨v',cQ,lW⟩:=b;simp only at hv;subst hv;simp only[num]at hn;simp only[Zag.mk.injEq,true_and];cases v
 ·have:=ha.v4 rfl;have:=hb.v4 rfl;simp only[Bool.false_eq_true,if_false]at *
  omega
 ·simp only[if_true]at *
  omega
theorem Zxb(n k T:Nat)(hk:k<=T)(h:n<2 ^ T):n &&& (2 ^ T-2 ^ k)=n-n % 2 ^ k:=by
 have h1:n-n % 2 ^ k=2 ^ k*(n / 2 ^ k):=by have:=Nat.div_add_mod n (2 ^ k);omega
 rw[h1];apply Nat.eq_of_testBit_eq;intro i;have h2:2 ^ T-2 ^ k=2 ^ k*(2 ^ (T-k)-1):=by
  rw[Nat.mul_sub,<-Nat.pow_add,Nat.mul_one];congr 2;omega
 rw[Nat.testBit_and,h2,Nat.testBit_two_pow_mul,Nat.testBit_two_pow_mul,Nat.testBit_two_pow_sub_one,Nat.testBit_div_two_pow];by_cases hi:k<=i
 ·by_cases h3:i<T
  ·simp[hi,show i-k<T-k by omega,show i-k+k=i by omega]
  ·have:n.testBit i=false:=Nat.testBit_lt_two_pow (Nat.lt_of_lt_of_le h (Nat.pow_le_pow_right (by omega) (by omega)));simp[hi,this,show i-k+k=i by omega]
 ·simp[hi]
theorem ZzR(n k j:Nat):(n-n % 2 ^ k).testBit j=(decide (k<=j)&&n.testBit j):=by
 have h1:n-n % 2 ^ k=2 ^ k*(n / 2 ^ k):=by have:=Nat.div_add_mod n (2 ^ k);omega
 rw[h1,Nat.testBit_two_pow_mul,Nat.testBit_div_two_pow];by_cases h:k<=j
 ·simp[h,show j-k+k=j by omega]
 ·simp[h]
theorem Zqb(a b:Nat)(ha:a<2 ^ 64)(hb:b<2 ^ 64):IntKind.u64.wrap (((BitVec.ofInt (IntKind.bits .u64) (a:Int)) &&& (BitVec.ofInt (IntKind.bits .u64) (b:Int))).toNat:Int)=((a &&& b:Nat):Int):=by
 rw[ZEF a b ha hb];have:a &&& b<2 ^ 64:=Nat.and_lt_two_pow _ hb;exact ZjI (by omega) (by omega)
theorem ZHY:∀n:Fin 65,Zgz ((n.val:Nat):Int)=some (((2 ^ 64-2 ^ (64-n.val):Nat)):Int):=by decide +kernel
theorem Zxn(n:Nat)(h:n<=64):Zgz ((n:Nat):Int)=some (((2 ^ 64-2 ^ (64-n):Nat)):Int):=ZHY ⟨n,by omega⟩
theorem Zxo(n:Int):Zgz n=Zgz (if(64:Int)<(if(0:Int)>n then(0:Int)else n)then(64:Int)else(if(0:Int)>n then(0:Int)else n)):=by
 unfold Zgz;have e:∀m:Int,0<=m->m<=64->(if(64:Int)<(if(0:Int)>m then(0:Int)else m)then(64:Int)else(if(0:Int)>m then(0:Int)else m))=m:=fun m h1 h2=>by
  repeat' split
  all_goals omega
 rw[e (if(64:Int)<(if(0:Int)>n then(0:Int)else n)then(64:Int)else(if(0:Int)>n then(0:Int)else n)) (by repeat' split<;>omega) (by repeat' split<;>omega)]
theorem ZGW(n:Int)(h:n<=0):Zgz n=some 0:=by
 rw[Zxo,show (if(64:Int)<(if(0:Int)>n then(0:Int)else n)then(64:Int)else(if(0:Int)>n then(0:Int)else n))=((0:Nat):Int)by repeat' split<;>omega,Zxn 0 (by omega)]
 rfl
theorem ZEY(n:Int)(h:64<=n):Zgz n=some 18446744073709551615:=by
 rw[Zxo,show (if(64:Int)<(if(0:Int)>n then(0:Int)else n)then(64:Int)else(if(0:Int)>n then(0:Int)else n))=((64:Nat):Int)by repeat' split<;>omega,Zxn 64 (by omega)]
 rfl
def Zjy(a:Zag)(n:Nat):Zag:=if a.fV6 then(if n<=64 then⟨true,((a.fHi.toNat-a.fHi.toNat % 2 ^ (64-n):Nat):Int),0⟩else⟨true,a.fHi,((a.fLo.toNat-a.fLo.toNat % 2 ^ (128-n):Nat):Int)⟩)else⟨false,a.fHi,((a.fLo.toNat-a.fLo.toNat % 2 ^ (32-n):Nat):Int)⟩
theorem ZDs{a:Zag}(h:a.ok)(hr:ZeG a=true)(n:Nat)(hn:n<=wid a):ZjA a (n:Int)=some (Zjy a n):=by
 have hf:=ZoG h hr;have fy:=ZlI a h;have hA:=hf.hi0;have hB:=hf.hi1;have hC:=hf.lo0;have hD:=hf.lo1;obtain⟨v,hi,lo⟩:=a;obtain⟨p,hp⟩:=Zny hf.hi0;obtain⟨q,hq⟩:=Zny hf.lo0;simp only at hp hq hA hB hC hD;subst hp hq;cases v with
 |false=>
  have hv:=hf.v4 rfl;simp only at hv;have hn:n<=32:=hn;have df:(if(32:Int)<(if(0:Int)>(n:Int)then(0:Int)else(n:Int))then(32:Int)else(if(0:Int)>(n:Int)then(0:Int)else(n:Int)))=(n:Int):=by repeat' split<;>omega
  simp only[ZjA,fy,hr,Option.bind_some,Bool.not_true,cond_false,Zex,Bool.not_false,cond_true,df,Zxn n (by omega)];have hp:(2:Nat) ^ (64-n)=2 ^ 32 * 2 ^ (32-n):=by rw[<-Nat.pow_add];congr 1;omega
  have bg:(2:Nat) ^ (32-n)<=2 ^ 32:=Nat.pow_le_pow_right (by omega) (by omega);have hp0:0<(2:Nat) ^ (32-n):=Nat.pow_pos (by omega);have hd:(2 ^ 64-2 ^ (64-n):Nat) / 4294967296=2 ^ 32-2 ^ (32-n):=by
   rw[hp];generalize (2:Nat) ^ (32-n)=z at *
   omega
  have e3:Int.fdiv ((2 ^ 64-2 ^ (64-n):Nat):Int) (2 ^ (min (32:Int).toNat (IntKind.bits .u64)))=((2 ^ 32-2 ^ (32-n):Nat):Int):=by
   rw[show (2:Int) ^ (min (32:Int).toNat (IntKind.bits .u64))=4294967296 from rfl,Int.fdiv_eq_ediv_of_nonneg _ (by omega),<-hd];rfl
  rw[e3,Zqb q _ (by omega) (by generalize (2:Nat) ^ (32-n)=z at *;omega),Zxb q (32-n) 32 (by omega) (by omega)];simp[Zjy]
 |true=>
  have hn:n<=128:=hn;have df:(if(128:Int)<(if(0:Int)>(n:Int)then(0:Int)else(n:Int))then(128:Int)else(if(0:Int)>(n:Int)then(0:Int)else(n:Int)))=(n:Int):=by repeat' split<;>omega
  simp only[ZjA,fy,hr,Option.bind_some,Bool.not_true,cond_false,Zex,cond_true,df,Zlx];have hs:ZaV (n:Int) 64=(n:Int)-64:=ZdK (by omega) (by omega);rw[hs];by_cases h64:n<=64
  ·rw[Zxn n h64,ZGW _ (by omega)];simp only[Option.bind_some];rw[Zqb p _ (by omega) (by have:=Nat.pow_pos (a:=2) (n:=64-n) (by omega);omega),Zxb p (64-n) 64 (by omega) (by omega)];have:=Zqb q 0 (by omega) (by omega);rw[Nat.and_zero]at this;rw[show (0:Int)=((0:Nat):Int)from rfl,this];simp[Zjy,h64]
  ·rw[ZEY _ (by omega),show (n:Int)-64=((n-64:Nat):Int)by omega,Zxn (n-64) (by omega)];simp only[Option.bind_some];have e1:=Zqb p 18446744073709551615 (by omega) (by omega);have e2:=Zxb p 0 64 (by omega) (by omega);rw[show (2:Nat) ^ 64-2 ^ 0=18446744073709551615 from rfl,Nat.pow_zero,Nat.mod_one,Nat.sub_zero]at e2;rw[e2]at e1;rw[show (18446744073709551615:Int)=((18446744073709551615:Nat):Int)from rfl,e1];rw[show 64-(n-64)=128-n by omega,Zqb q _ (by omega) (by have:=Nat.pow_pos (a:=2) (n:=128-n) (by omega);omega),Zxb q (128-n) 64 (by omega) (by omega)];simp[Zjy,h64]
theorem ZiN(a:Zag)(n:Nat):(Zjy a n).fV6=a.fV6:=by
 unfold Zjy;cases h:a.fV6
 ·rfl
 ·simp only[if_true];split<;>rfl
theorem ZjE{a:Zag}(h:Fits a)(n:Nat):Fits (Zjy a n):=by
 have:=h.hi0;have:=h.hi1;have:=h.lo0;have:=h.lo1;have l:∀x y:Nat,x-x % y<=x:=fun x y=>Nat.sub_le _ _;have l1:=l a.fHi.toNat (2 ^ (64-n));have l2:=l a.fLo.toNat (2 ^ (128-n));have l3:=l a.fLo.toNat (2 ^ (32-n));unfold Zjy;cases hv:a.fV6
 ·have:=h.v4 hv;simp only[Bool.false_eq_true,if_false];exact⟨by simp only;omega,by simp only;omega,by simp only;omega,by simp only;omega,fun _=>⟨this.1,by simp only;omega⟩⟩
 ·simp only[if_true];split
  ·exact⟨by simp only;omega,by simp only;omega,by simp only;omega,by simp only;omega,fun h=>by simp at h⟩
  ·exact⟨by simp only;omega,by simp only;omega,by simp only;omega,by simp only;omega,fun h=>by simp at h⟩
theorem Zod{hi lo j:Nat}(hl:lo<2 ^ 64):(2 ^ 64*hi+lo).testBit j=if j<64 then lo.testBit j else hi.testBit (j-64):=Nat.testBit_two_pow_mul_add hi hl j
theorem ZkK{a:Zag}(h:Fits a)(n i:Nat)(hn:n<=wid a)(hi:i<wid a):bitN (Zjy a n) i=(decide (i<n)&&bitN a i):=by
 have h1:=h.hi0;have h2:=h.hi1;have h3:=h.lo0;have h4:=h.lo1;unfold bitN;have hw:wid (Zjy a n)=wid a:=by unfold wid;rw[ZiN]
 rw[hw];unfold wid at hn hi ⊢;unfold num Zjy;cases hv:a.fV6
 ·simp only[hv,Bool.false_eq_true,if_false]at *
  rw[Int.toNat_natCast,ZzR];congr 1;rw[decide_eq_decide];omega
 ·simp only[hv,if_true]at *
  have jN:a.fLo.toNat<2 ^ 64:=by omega
  by_cases h64:n<=64
  ·simp only[h64,if_true,Int.toNat_natCast];rw[Zod (by simp),Zod jN];by_cases hj:128-1-i<64
   ·simp only[hj,if_true];rw[show (decide (i<n))=false by rw[decide_eq_false_iff_not];omega];simp
   ·simp only[hj,if_false];rw[ZzR];congr 1;rw[decide_eq_decide];omega
  ·simp only[h64,if_false,if_true,Int.toNat_natCast];rw[Zod (Nat.lt_of_le_of_lt (Nat.sub_le _ _) jN),Zod jN];by_cases hj:128-1-i<64
   ·simp only[hj,if_true];rw[ZzR];congr 1;rw[decide_eq_decide];omega
   ·simp only[hj,if_false];rw[show (decide (i<n))=true by rw[decide_eq_true_eq];omega];simp
theorem ZBO{a:Zag}(h:Fits a)(hr:ZeG a=true)(n:Nat):ZeG (Zjy a n)=true:=by
 have h1:=h.hi0;have h2:=h.hi1;have h3:=h.lo0;have h4:=h.lo1;unfold Zjy;cases hv:a.fV6
 ·have:=h.v4 hv;have l3:a.fLo.toNat-a.fLo.toNat % 2 ^ (32-n)<=a.fLo.toNat:=Nat.sub_le _ _;simp[ZeG,this.1];omega
 ·simp only[if_true];split
  ·simp[ZeG]
  ·rename_i h64;unfold ZeG at hr ⊢;rw[hv]at hr;simp only[if_true,Bool.not_eq_true',Bool.and_eq_false_iff,decide_eq_false_iff_not]at hr ⊢;rcases hr with hr|hr
   ·exact .inl hr
   ·refine .inr fun e=>hr ?_;have e':(a.fLo.toNat-a.fLo.toNat % 2 ^ (128-n)) / 4294967296=65535:=by omega
    have hx:a.fLo.toNat-a.fLo.toNat % 2 ^ (128-n)=2 ^ (128-n)*(a.fLo.toNat / 2 ^ (128-n)):=by have:=Nat.div_add_mod a.fLo.toNat (2 ^ (128-n));omega
    rw[hx]at e';by_cases hk:128-n<=32
    ·have hp:(4294967296:Nat)=2 ^ (128-n) * 2 ^ (32-(128-n)):=by
      rw[<-Nat.pow_add,show 128-n+(32-(128-n))=32 by omega]
     rw[hp,Nat.mul_div_mul_left _ _ (Nat.pow_pos (by omega)),Nat.div_div_eq_div_mul,<-hp]at e';omega
    ·have hp:(2:Nat) ^ (128-n)=4294967296*(2 * 2 ^ (128-n-33)):=by
      rw[show (4294967296:Nat)*(2 * 2 ^ (128-n-33))=2 ^ 33 * 2 ^ (128-n-33)by omega,<-Nat.pow_add];congr 1;omega
     rw[hp,Nat.mul_assoc,Nat.mul_div_cancel_left _ (by omega),Nat.mul_assoc]at e';omega
def Zhl(p:Zao):Bool:=ZeG p.fAddr&&decide (0<=p.fBits)&&decide (p.fBits<=(wid p.fAddr:Int))&&decide (Zjy p.fAddr p.fBits.toNat=p.fAddr)
structure RN (p:Zao):Prop where
 ok:p.fAddr.ok
 right:ZeG p.fAddr=true
 nn:0<=p.fBits
 le:p.fBits<=(wid p.fAddr:Int)
 cut:Zjy p.fAddr p.fBits.toNat=p.fAddr
theorem RN.fits{p:Zao}(h:RN p):Fits p.fAddr:=ZoG h.ok h.right
theorem Ztr{p:Zao}(h:p.fAddr.ok):Zhl p=true↔RN p:=by
 unfold Zhl;simp only[Bool.and_eq_true,decide_eq_true_eq];exact⟨fun⟨⟨⟨a,b⟩,c⟩,d⟩=>⟨h,a,b,c,d⟩,fun⟨_,a,b,c,d⟩=>⟨⟨⟨a,b⟩,c⟩,d⟩⟩
theorem ZzY(a:Zag):Zex a=some (wid a:Int):=by
 unfold Zex wid;cases a.fV6<;>rfl
theorem Zzl(a:Zag)(h:a.ok)(n:Int):ZiD a n=some (if ZeG a=true/\0<=n/\n<=(wid a:Int)then(⟨Zjy a n.toNat,n⟩,true)else(⟨⟨false,0,0⟩,0⟩,false)):=by
 simp only[ZiD,ZlI a h,ZzY,Option.bind_some,Zal];cases hr:ZeG a
 ·simp
 ·simp only[Bool.not_true,cond_false,true_and];by_cases h0:n<0
  ·rw[if_pos h0,if_neg (by omega)]
  ·rw[if_neg h0];by_cases h1:n>(wid a:Int)
   ·rw[if_pos h1,if_neg (by omega)]
   ·rw[if_neg h1,if_pos (by omega)];have:=ZDs h hr n.toNat (by omega);rw[Int.toNat_of_nonneg (by omega)]at this;rw[this];rfl
theorem ZkF(p:Zao)(h:p.fAddr.ok):ZgW p=some (Zhl p):=by
 simp only[ZgW,Zzl _ h,Option.bind_some];unfold Zhl;split
 ·rename_i hh;simp only[cond_true,hh.1,hh.2.1,hh.2.2,decide_true,Bool.true_and,Option.some.injEq];rw[decide_eq_decide];obtain⟨x,n⟩:=p;simp
 ·rename_i hh;simp only[cond_false,Option.some.injEq];rw[eq_comm,Bool.eq_false_iff];intro hq;simp only[Bool.and_eq_true,decide_eq_true_eq]at hq;exact hh ⟨hq.1.1.1,hq.1.1.2,hq.1.2⟩
def bs(p:Zao):List Bool:=(List.range p.fBits.toNat).map (bitN p.fAddr)
theorem ZGP(p:Zao):(bs p).length=p.fBits.toNat:=by simp[bs]
theorem ZGQ(p:Zao)(i:Nat)(h:i<p.fBits.toNat):(bs p)[i]?=some (bitN p.fAddr i):=by simp[bs,h]
theorem ZCR{p:Zao}(h:RN p)(i:Nat)(hi:i<wid p.fAddr)(hn:p.fBits.toNat<=i):bitN p.fAddr i=false:=by
 have h1:=ZkK h.fits p.fBits.toNat i (by have:=h.le;omega) hi;rw[h.cut]at h1;rw[h1];rw[show decide (i<p.fBits.toNat)=false by rw[decide_eq_false_iff_not];omega];rfl
theorem ZIe{p q:Zao}(hp:RN p)(hq:RN q)(hv:p.fAddr.fV6=q.fAddr.fV6)(hb:bs p=bs q):p=q:=by
 have hw:wid p.fAddr=wid q.fAddr:=by unfold wid;rw[hv]
 have hn:p.fBits=q.fBits:=by
  have:=congrArg List.length hb;rw[ZGP,ZGP]at this;have:=hp.nn;have:=hq.nn;omega
 have ha:p.fAddr=q.fAddr:=by
  refine ZrT hp.fits hq.fits hv fun i hi=>?_;by_cases h:i<p.fBits.toNat
  ·have h1:=ZGQ p i h;rw[hb,ZGQ q i (by omega)]at h1;exact(Option.some.inj h1).symm
  ·rw[ZCR hp i hi (by omega),ZCR hq i (by omega) (by omega)]
 obtain⟨x,n⟩:=p;obtain⟨y,m⟩:=q;simp only at hn ha;rw[hn,ha]
theorem ZHg{a:Zag}(h:a.ok)(hr:ZeG a=true)(n:Nat)(hn:n<=wid a):RN ⟨Zjy a n,(n:Int)⟩/\bs ⟨Zjy a n,(n:Int)⟩=(List.range n).map (bitN a):=by
 have hf:=ZoG h hr;have hw:wid (Zjy a n)=wid a:=by unfold wid;rw[ZiN]
 refine⟨⟨(ZjE hf n).ok,ZBO hf hr n,by simp only;omega,by simp only;omega,?_⟩,?_⟩
 ·simp only[Int.toNat_natCast];refine ZrT (ZjE (ZjE hf n) n) (ZjE hf n) (ZiN _ _) fun i hi=>?_;have hi:i<wid a:=by unfold wid at hi ⊢;rwa [ZiN,ZiN]at hi
  rw[ZkK (ZjE hf n) n i (by omega) (by omega),ZkK hf n i hn hi];cases decide (i<n)<;>simp
 ·unfold bs;simp only[Int.toNat_natCast];apply List.map_congr_left;intro i hi;have hi:i<n:=by simpa using hi
  rw[ZkK hf n i hn (by omega),show decide (i<n)=true by rw[decide_eq_true_eq];exact hi];rfl
theorem ZGI(p:Zao)(a:Zag)(hp:RN p)(ha:a.ok):ZjG p a=some (ZeG a&&decide (p.fAddr.fV6=a.fV6)&&decide (∀i,i<p.fBits.toNat->bitN a i=bitN p.fAddr i)):=by
 have hrc:=(Ztr hp.ok).2 hp;simp only[ZjG,ZkF p hp.ok,hrc,ZlI a ha,Option.bind_some,cond_true];cases hr:ZeG a
 ·rfl
 ·simp only[cond_true,Bool.true_and];by_cases hv:p.fAddr.fV6=a.fV6
  ·have hw:wid p.fAddr=wid a:=by unfold wid;rw[hv]
   have hm:=ZDs ha hr p.fBits.toNat (by have:=hp.le;omega);rw[Int.toNat_of_nonneg hp.nn]at hm;have hf:=ZoG ha hr;rw[show (p.fAddr.fV6==a.fV6)=true by simp[hv],cond_true,hm,decide_eq_true hv];simp only[Option.bind_some,Bool.true_and,Option.some.injEq];rw[decide_eq_decide];have hle:p.fBits.toNat<=wid a:=by have:=hp.le;omega
   constructor
   ·intro e i hi;have h1:=ZkK hf p.fBits.toNat i hle (by omega);rw[e,decide_eq_true hi]at h1;simpa using h1.symm
   ·intro h;refine ZrT (ZjE hf _) hp.fits (by rw[ZiN];exact hv.symm) fun i hi=>?_;have hi:i<wid a:=by unfold wid at hi ⊢;rwa [ZiN]at hi
    rw[ZkK hf p.fBits.toNat i hle hi];by_cases hb:i<p.fBits.toNat
    ·rw[decide_eq_true hb,h i hb];rfl
    ·rw[decide_eq_false hb,ZCR hp i (by omega) (by omega)];rfl
  ·rw[show (p.fAddr.fV6==a.fV6)=false by simp[hv],cond_false,decide_eq_false hv];rfl
theorem Zsv(n k:Nat)(hk:k<64)(hn:n<2 ^ 64):IntKind.i64.wrap (IntKind.u64.wrap (((BitVec.ofInt (IntKind.bits .u64) (Int.fdiv (n:Int) (2 ^ (min ((k:Nat):Int).toNat (IntKind.bits .u64))))) &&& (BitVec.ofInt (IntKind.bits .u64) (1:Int))).toNat:Int))=if n.testBit k then 1 else 0:=by
 rw[Int.toNat_natCast,show min k (IntKind.bits .u64)=k from Nat.min_eq_left (by simp[IntKind.bits];omega)];have e:Int.fdiv (n:Int) (2 ^ k)=((n / 2 ^ k:Nat):Int):=by
  rw[Int.fdiv_eq_ediv_of_nonneg _ (by have:(0:Int)<2 ^ k:=Int.pow_pos (by omega);omega)];simp
 have h1:n / 2 ^ k<2 ^ 64:=Nat.lt_of_le_of_lt (Nat.div_le_self _ _) hn;rw[e,show (1:Int)=((1:Nat):Int)from rfl,Zqb _ 1 h1 (by omega),Nat.and_one_is_mod,Nat.testBit_eq_decide_div_mod_eq];have h2:n / 2 ^ k % 2<2:=Nat.mod_lt _ (by omega);have h3:IntKind.i64.wrap ((n / 2 ^ k % 2:Nat):Int)=((n / 2 ^ k % 2:Nat):Int):=by
  simp only[IntKind.wrap,IntKind.bits,IntKind.signed];simp;omega
 rw[h3];simp only[decide_eq_true_eq];split<;>omega
theorem ZEI{a:Zag}(h:Fits a)(i:Nat)(hi:i<wid a):ZhA a (i:Int)=some (if bitN a i then 1 else 0):=by
 have h1:=h.hi0;have h2:=h.hi1;have h3:=h.lo0;have h4:=h.lo1;obtain⟨v,cQ,lo⟩:=a;obtain⟨p,hp⟩:=Zny h.hi0;obtain⟨q,hq⟩:=Zny h.lo0;simp only at hp hq h1 h2 h3 h4;subst hp hq;cases v with
 |false=>
  have hi:i<32:=hi;have hv:=h.v4 rfl;simp only at hv;have e:ZaV (ZaV (32:Int) 1) (i:Int)=((31-i:Nat):Int):=by rw[show ZaV (32:Int) 1=31 from rfl,ZdK (by omega) (by omega)];omega
  simp only[ZhA,Zex,cond_false,Option.bind_some,Zal,e];rw[if_neg (by omega),if_neg (by omega),if_neg (by omega),Zaw (by omega),Zsv q _ (by omega) (by omega)];rfl
 |true=>
  have hi:i<128:=hi;have e:ZaV (ZaV (128:Int) 1) (i:Int)=((127-i:Nat):Int):=by rw[show ZaV (128:Int) 1=127 from rfl,ZdK (by omega) (by omega)];omega
  simp only[ZhA,Zex,cond_true,Option.bind_some,Zal,e];rw[if_neg (by omega),if_neg (by omega)];have hb:bitN ⟨true,(p:Int),(q:Int)⟩ i=if 127-i<64 then q.testBit (127-i)else p.testBit (127-i-64):=by
   unfold bitN num wid;simp only[if_true,Int.toNat_natCast];rw[Zod (by omega)]
  rw[hb];by_cases h64:i<64
  ·have e2:ZaV ((127-i:Nat):Int) 64=((127-i-64:Nat):Int):=by rw[ZdK (by omega) (by omega)];omega
   rw[if_pos (by omega),e2,Zaw (by omega),Zsv p _ (by omega) (by omega),if_neg (show ¬127-i<64 by omega)]
  ·rw[if_neg (by omega),Zaw (by omega),Zsv q _ (by omega) (by omega),if_pos (show 127-i<64 by omega)]
theorem ZvX{p:Zao}(h:RN p)(i:Nat)(hi:i<wid p.fAddr):Zie p (i:Int)=some (if bitN p.fAddr i then 1 else 0):=by
 simp only[Zie,ZEI h.fits i hi,Option.bind_some]
def Len(z r:Nat):Prop:=z<2 ^ r/\(0<r->2 ^ (r-1)<=z)
theorem ZtR{z r:Nat}(k:Nat)(hz:2 ^ k<=z)(h:Len (z / 2 ^ k) r):Len z (r+k)/\0<r:=by
 have hk:0<2 ^ k:=Nat.pow_pos (by omega);have h1:1<=z / 2 ^ k:=(Nat.le_div_iff_mul_le hk).2 (by omega);have hr:0<r:=by
  rcases Nat.eq_zero_or_pos r with e|e
  ·subst e;have:=h.1;simp at this;omega
  ·exact e
 refine⟨⟨?_,fun _=>?_⟩,hr⟩
 ·rw[Nat.pow_add];exact(Nat.div_lt_iff_lt_mul hk).1 h.1
 ·have:=(Nat.le_div_iff_mul_le hk).1 (h.2 hr);rw[<-Nat.pow_add]at this;rwa [show r+k-1=r-1+k by omega]
set_option maxRecDepth 100000 in
theorem ZIm:∃T:ByteArray,T.size=256/\(∀i:Fin 256,i.val<2 ^ Zkr T i.val/\(0<Zkr T i.val->2 ^ (Zkr T i.val-1)<=i.val)/\Zkr T i.val<=8)/\∀v0 v2:Int,Zey v0 v2 =
  bif(decide (v0>=(256:Int)))then
   need (0<=(IntKind.wrap .u8 (Int.fdiv v0 (2 ^ (min (8:Int).toNat (IntKind.bits .u64)))))/\(IntKind.wrap .u8 (Int.fdiv v0 (2 ^ (min (8:Int).toNat (IntKind.bits .u64)))))<((T.size:Nat):Int)) <|
   some (Zar (Zar v2 (8:Int)) (IntKind.wrap .i64 ((Zkr T (IntKind.wrap .u8 (Int.fdiv v0 (2 ^ (min (8:Int).toNat (IntKind.bits .u64))))).toNat:Nat):Int)))
  else
   need (0<=(IntKind.wrap .u8 v0)/\(IntKind.wrap .u8 v0)<((T.size:Nat):Int)) <|
   some (Zar v2 (IntKind.wrap .i64 ((Zkr T (IntKind.wrap .u8 v0).toNat:Nat):Int))):=by
 refine⟨_,?_,?_,fun v0 v2=>rfl⟩
 ·rfl
 ·decide +kernel
theorem ZCA{a:Int}(h:0<=a)(h':a<256):IntKind.u8.wrap a=a:=by
 simp only[IntKind.wrap,IntKind.bits,IntKind.signed];simp;omega
theorem Zxh{a:Int}(h:0<=a)(h':a<256):IntKind.i64.wrap a=a:=by
 simp only[IntKind.wrap,IntKind.bits,IntKind.signed];simp;omega
theorem ZIo(z v:Nat)(hz:z<65536)(hv:v<=1000):∃r,Len z r/\r<=16/\Zey (z:Int) (v:Int)=some ((v+r:Nat):Int):=by
 obtain⟨T,hT,hi,he⟩:=ZIm;rw[he,Zal,hT];by_cases h:256<=z
 ·rw[if_pos (by omega)];have e:Int.fdiv (z:Int) (2 ^ (min (8:Int).toNat (IntKind.bits .u64)))=((z / 256:Nat):Int):=by
   rw[show (2:Int) ^ (min (8:Int).toNat (IntKind.bits .u64))=256 from rfl,Int.fdiv_eq_ediv_of_nonneg _ (by omega)];rfl
  obtain⟨h1,h2,h3⟩:=hi ⟨z / 256,by omega⟩;simp only at h1 h2 h3;rw[e,ZCA (by omega) (by omega),Zaw (by omega),Int.toNat_natCast,Zxh (by omega) (by omega)];obtain⟨h4,h5⟩:=ZtR (z:=z) (r:=Zkr T (z / 256)) 8 (by omega) ⟨by rw[show (2:Nat) ^ 8=256 from rfl];exact h1,by rw[show (2:Nat) ^ 8=256 from rfl];exact h2⟩;refine⟨_,h4,by omega,?_⟩;rw[Zcx (a:=(v:Int)) (by omega) (by omega),Zcx (by omega) (by omega)];congr 1;omega
 ·rw[if_neg (by omega)];obtain⟨h1,h2,h3⟩:=hi ⟨z,by omega⟩;simp only at h1 h2 h3;rw[ZCA (by omega) (by omega),Zaw (by omega),Int.toNat_natCast,Zxh (by omega) (by omega)];refine⟨_,⟨h1,h2⟩,by omega,?_⟩;rw[Zcx (by omega) (by omega)];congr 1
theorem ZIn(z v:Nat)(hz:z<4294967296)(hv:v<=900):∃r,Len z r/\r<=32/\Zez (z:Int) (v:Int)=some ((v+r:Nat):Int):=by
 simp only[Zez,Zal];by_cases h:65536<=z
 ·rw[if_pos (by omega)];have e:Int.fdiv (z:Int) (2 ^ (min (16:Int).toNat (IntKind.bits .u64)))=((z / 65536:Nat):Int):=by
   rw[show (2:Int) ^ (min (16:Int).toNat (IntKind.bits .u64))=65536 from rfl,Int.fdiv_eq_ediv_of_nonneg _ (by omega)];rfl
  rw[e,show Zar (v:Int) 16=((v+16:Nat):Int)by rw[Zcx (by omega) (by omega)];omega];obtain⟨r,h1,h2,h3⟩:=ZIo (z / 65536) (v+16) (by omega) (by omega);obtain⟨h4,_⟩:=ZtR (z:=z) 16 (by omega) (by rw[show (2:Nat) ^ 16=65536 from rfl];exact h1);exact⟨r+16,h4,by omega,by rw[h3];congr 2;omega⟩
 ·rw[if_neg (by omega)];obtain⟨r,h1,h2,h3⟩:=ZIo z v (by omega) (by omega);exact⟨r,h1,by omega,h3⟩
theorem len64(z:Nat)(hz:z<2 ^ 64):∃r,Len z r/\r<=64/\Zhx (z:Int)=some ((r:Nat):Int):=by
 simp only[Zhx,Zal];by_cases h:4294967296<=z
 ·rw[if_pos (by omega)];have e:Int.fdiv (z:Int) (2 ^ (min (32:Int).toNat (IntKind.bits .u64)))=((z / 4294967296:Nat):Int):=by
   rw[show (2:Int) ^ (min (32:Int).toNat (IntKind.bits .u64))=4294967296 from rfl,Int.fdiv_eq_ediv_of_nonneg _ (by omega)];rfl
  rw[e];obtain⟨r,h1,h2,h3⟩:=ZIn (z / 4294967296) 32 (by omega) (by omega);obtain⟨h4,_⟩:=ZtR (z:=z) 32 (by omega) (by rw[show (2:Nat) ^ 32=4294967296 from rfl];exact h1);exact⟨r+32,h4,by omega,by rw[show (32:Int)=((32:Nat):Int)from rfl,h3];congr 2;omega⟩
 ·rw[if_neg (by omega)];obtain⟨r,h1,h2,h3⟩:=ZIn z 0 (by omega) (by omega);exact⟨r,h1,by omega,by rw[show (0:Int)=((0:Nat):Int)from rfl,h3];congr 2;omega⟩
theorem ZCz(a b:Nat)(ha:a<2 ^ 64)(hb:b<2 ^ 64):IntKind.u64.wrap (((BitVec.ofInt (IntKind.bits .u64) (a:Int)) ^^^ (BitVec.ofInt (IntKind.bits .u64) (b:Int))).toNat:Int)=((a ^^^ b:Nat):Int):=by
 have h1:∀c:Nat,c<2 ^ 64->(BitVec.ofInt 64 (c:Int)).toNat=c:=fun c hc=>by
  rw[BitVec.ofInt_natCast,BitVec.toNat_ofNat];exact Nat.mod_eq_of_lt hc
 have h2:((BitVec.ofInt (IntKind.bits .u64) (a:Int)) ^^^ (BitVec.ofInt (IntKind.bits .u64) (b:Int))).toNat=a ^^^ b:=by
  show (BitVec.ofInt 64 (a:Int) ^^^ BitVec.ofInt 64 (b:Int)).toNat=a ^^^ b;rw[BitVec.toNat_xor,h1 a ha,h1 b hb]
 rw[h2];have:a ^^^ b<2 ^ 64:=Nat.xor_lt_two_pow ha hb;exact ZjI (by omega) (by omega)
theorem lead(a b:Nat)(ha:a<2 ^ 64)(hb:b<2 ^ 64):∃k,k<=64/\ZcX ((a ^^^ b:Nat):Int)=some ((k:Nat):Int)/\(∀j,64-k<=j->a.testBit j=b.testBit j)/\(k<64->a.testBit (63-k)≠b.testBit (63-k))/\(k=64↔a ^^^ b=0):=by
 have hx:a ^^^ b<2 ^ 64:=Nat.xor_lt_two_pow ha hb;obtain⟨r,h1,h2,h3⟩:=len64 (a ^^^ b) hx;refine⟨64-r,by omega,?_,fun j hj=>?_,fun hk=>?_,?_⟩
 ·simp only[ZcX,h3,Option.bind_some];rw[ZdK (by omega) (by omega)];congr 1;omega
 ·have h4:(a ^^^ b).testBit j=false:=Nat.testBit_lt_two_pow (Nat.lt_of_lt_of_le h1.1 (Nat.pow_le_pow_right (by omega) (by omega)));rw[Nat.testBit_xor]at h4
  revert h4
  cases a.testBit j<;>cases b.testBit j<;>simp
 ·have h4:(a ^^^ b).testBit (r-1)=true:=by
   have h5:=h1.2 (by omega);have h6:a ^^^ b<2 ^ (r-1) * 2:=by rw[<-Nat.pow_succ,show (r-1).succ=r by omega];exact h1.1
   rw[Nat.testBit_eq_decide_div_mod_eq,decide_eq_true_eq];have h7:(a ^^^ b) / 2 ^ (r-1)=1:=by
    have hp:0<2 ^ (r-1):=Nat.pow_pos (by omega);have:=(Nat.le_div_iff_mul_le hp).2 (show 1 * 2 ^ (r-1)<=a ^^^ b by omega);have:=(Nat.div_lt_iff_lt_mul hp).2 (show a ^^^ b<2 * 2 ^ (r-1)by omega);omega
   rw[h7]
  rw[show 63-(64-r)=r-1 by omega];rw[Nat.testBit_xor]at h4
  revert h4
  cases a.testBit (r-1)<;>cases b.testBit (r-1)<;>simp
 ·constructor
  ·intro e;have:r=0:=by omega
   subst this;have:=h1.1;simpa using this
  ·intro e;rw[e]at h1;rcases Nat.eq_zero_or_pos r with h|h
   ·omega
   ·have:=h1.2 h;have:0<2 ^ (r-1):=Nat.pow_pos (by omega);omega
theorem ZEj{p q:Zao}(hp:RN p)(hq:RN q)(hv:p.fAddr.fV6=q.fAddr.fV6) :
  ∃k:Nat,ZjN p q=some (k:Int)/\k<=p.fBits.toNat/\k<=q.fBits.toNat/\(∀i,i<k->bitN p.fAddr i=bitN q.fAddr i)/\(k<p.fBits.toNat->k<q.fBits.toNat->bitN p.fAddr k≠bitN q.fAddr k):=by
 have fp:=hp.fits;have fq:=hq.fits;have a1:=fp.hi0;have a2:=fp.hi1;have a3:=fp.lo0;have a4:=fp.lo1;have b1:=fq.hi0;have b2:=fq.hi1;have b3:=fq.lo0;have b4:=fq.lo1;have n1:=hp.nn;have n2:=hq.nn;have l1:=hp.le;have l2:=hq.le;have lX:=fp.v4;have lY:=fq.v4;clear hp hq fp fq;obtain⟨⟨v,hi,lo⟩,n⟩:=p;obtain⟨⟨v',cQ,lW⟩,n'⟩:=q;simp only at hv a1 a2 a3 a4 b1 b2 b3 b4 n1 n2 lX lY;subst hv;obtain⟨x,rfl⟩:=Zny a1;obtain⟨y,rfl⟩:=Zny a3;obtain⟨x',rfl⟩:=Zny b1;obtain⟨y',rfl⟩:=Zny b3;obtain⟨n,rfl⟩:=Zny n1;obtain⟨n',rfl⟩:=Zny n2;have df:(if(n':Int)<(n:Int)then(n':Int)else(n:Int))=((min n n':Nat):Int):=by split<;>omega
 have lZ:∀k:Nat,(if((min n n':Nat):Int)<(k:Int)then((min n n':Nat):Int)else(k:Int))=((min k (min n n'):Nat):Int):=fun k=>by split<;>omega
 obtain⟨k1,c1,c2,c3,c4,c5⟩:=lead x x' (by omega) (by omega);obtain⟨k2,d1,d2,d3,d4,d5⟩:=lead y y' (by omega) (by omega);simp only[ZjN,ZCz x x' (by omega) (by omega),ZCz y y' (by omega) (by omega),c2,d2,Option.bind_some,df]
 -- what is to be shown of a number
 have bx:∀k:Nat,(∀i,i<k->i<wid ⟨v,x,y⟩->bitN ⟨v,x,y⟩ i=bitN ⟨v,x',y'⟩ i)->(k<wid ⟨v,x,y⟩->bitN ⟨v,x,y⟩ k≠bitN ⟨v,x',y'⟩ k) ->
   (min k (min n n'))<=n/\(min k (min n n'))<=n'/\(∀i,i<min k (min n n')->bitN ⟨v,x,y⟩ i=bitN ⟨v,x',y'⟩ i)/\((min k (min n n'))<n->(min k (min n n'))<n'->bitN ⟨v,x,y⟩ (min k (min n n'))≠bitN ⟨v,x',y'⟩ (min k (min n n'))):=by
  intro k h1 h2;simp only at l1 l2;refine⟨by omega,by omega,fun i hi=>h1 i (by omega) (by omega),fun h3 h4=>?_⟩;have e:min k (min n n')=k:=by omega
  rw[e];exact h2 (by omega)
 cases v with
 |false=>
  have e1:=(lX rfl).1;have e2:=(lY rfl).1;have e3:=(lX rfl).2;have e4:=(lY rfl).2;have gJ:x ^^^ x'=0:=by rw[show x=x' by omega,Nat.xor_self]
  have hk2:32<=k2:=by
   rcases Nat.lt_or_ge k2 32 with h|h
   ·exfalso;apply d4 (by omega);rw[Nat.testBit_lt_two_pow (Nat.lt_of_lt_of_le (show y<2 ^ 32 by omega) (Nat.pow_le_pow_right (by omega) (by omega))),Nat.testBit_lt_two_pow (Nat.lt_of_lt_of_le (show y'<2 ^ 32 by omega) (Nat.pow_le_pow_right (by omega) (by omega)))]
   ·exact h
  rw[gJ,show (((0:Nat):Int)==0)=true from rfl,cond_true];have e5:ZaV (Zar 64 (k2:Int)) (ZaV 128 32)=((k2-32:Nat):Int):=by
   rw[Zcx (by omega) (by omega),show ZaV (128:Int) 32=96 from rfl,ZdK (by omega) (by omega)];omega
  simp only[Zfx,Bool.not_false,cond_true,Zex,cond_false,Option.bind_some,e5,lZ];refine⟨_,rfl,?_⟩;refine bx (k2-32) (fun i h1 h2=>?_) (fun h=>?_)
  ·have h2:i<32:=h2;show (y.testBit (32-1-i))=(y'.testBit (32-1-i));exact d3 _ (by omega)
  ·have h:k2-32<32:=h;show (y.testBit (32-1-(k2-32)))≠(y'.testBit (32-1-(k2-32)));rw[show 32-1-(k2-32)=63-k2 by omega];exact d4 (by omega)
 |true=>
  have hb:∀(x y:Nat),y<2 ^ 64->∀i,bitN ⟨true,(x:Int),(y:Int)⟩ i=if 127-i<64 then y.testBit (127-i)else x.testBit (127-i-64):=fun x y hy i=>by
   unfold bitN num wid;simp only[if_true,Int.toNat_natCast];rw[Zod (by omega)]
  by_cases hx:x ^^^ x'=0
  ·rw[hx,show (((0:Nat):Int)==0)=true from rfl,cond_true];have hxx:x=x':=by
    apply Nat.eq_of_testBit_eq;intro j;exact c3 j (by have:=c5.2 hx;omega)
   have e5:Zar 64 (k2:Int)=((64+k2:Nat):Int):=by rw[Zcx (by omega) (by omega)];omega
   simp only[Zfx,Bool.not_true,cond_false,e5,lZ];refine⟨_,rfl,?_⟩;refine bx (64+k2) (fun i h1 h2=>?_) (fun h=>?_)
   ·have h2:i<128:=h2;rw[hb x y (by omega),hb x' y' (by omega),hxx];split
    ·exact d3 _ (by omega)
    ·rfl
   ·have h:64+k2<128:=h;rw[hb x y (by omega),hb x' y' (by omega),if_pos (by omega),if_pos (by omega)];rw[show 127-(64+k2)=63-k2 by omega];exact d4 (by omega)
  ·have hk:k1<64:=by
    rcases Nat.lt_or_ge k1 64 with h|h
    ·exact h
    ·exact absurd (c5.1 (by omega)) hx
   have hne:(((x ^^^ x':Nat):Int)==0)=false:=by
    rw[beq_eq_false_iff_ne];intro e;exact hx (by omega)
   rw[hne,cond_false];simp only[Zfx,Bool.not_true,cond_false,lZ];refine⟨_,rfl,?_⟩;refine bx k1 (fun i h1 h2=>?_) (fun h=>?_)
   ·rw[hb x y (by omega),hb x' y' (by omega),if_neg (by omega),if_neg (by omega)];exact c3 _ (by omega)
   ·rw[hb x y (by omega),hb x' y' (by omega),if_neg (by omega),if_neg (by omega)];rw[show 127-k1-64=63-k1 by omega];exact c4 hk
def Bel'(n:Nat)(f:Nat->Bool)(p:Zao):Prop:=n<=p.fBits.toNat/\∀i,i<n->bitN p.fAddr i=f i
def ext'(p:Zao)(b:Bool):Nat->Bool:=fun i=>if i<p.fBits.toNat then bitN p.fAddr i else b
theorem ZjC{p q:Zao}{b:Bool}:Bel' (p.fBits.toNat+1) (ext' p b) q↔p.fBits.toNat<q.fBits.toNat/\(∀i,i<p.fBits.toNat->bitN q.fAddr i=bitN p.fAddr i)/\bitN q.fAddr p.fBits.toNat=b:=by
 unfold Bel' ext';constructor
 ·rintro ⟨h1,h2⟩;refine⟨by omega,fun i hi=>?_,?_⟩
  ·have:=h2 i (by omega);rwa [if_pos hi]at this
  ·have:=h2 p.fBits.toNat (by omega);rwa [if_neg (by omega)]at this
 ·rintro ⟨h1,h2,h3⟩;refine⟨by omega,fun i hi=>?_⟩;by_cases h:i<p.fBits.toNat
  ·rw[if_pos h];exact h2 i h
  ·rw[if_neg h,show i=p.fBits.toNat by omega];exact h3
def ZnV(v:Bool):Zau->Nat->(Nat->Bool)->Prop | .nil,_,_=>True | .mk h has k0 k1,n,f=>RN h.fNet/\h.fNet.fAddr.fV6=v/\Bel' n f h.fNet/\ZnV v k0 (h.fNet.fBits.toNat+1) (ext' h.fNet false)/\ZnV v k1 (h.fNet.fBits.toNat+1) (ext' h.fNet true)
def Zby:Zau->List Zav | .nil=>[] | .mk h has k0 k1=>(if has then[h]else[])++Zby k0++Zby k1
theorem ZbN{v:Bool}:∀{nd:Zau}{n:Nat}{f:Nat->Bool},ZnV v nd n f->∀x∈Zby nd,RN x.fNet/\x.fNet.fAddr.fV6=v/\Bel' n f x.fNet
 | .nil,_,_,_,x,hx=>by simp[Zby]at hx
 | .mk h has k0 k1,n,f,hg,x,hx=>by
  obtain⟨g1,g2,g3,g4,g5⟩:=hg
  have iG:∀b,Bel' (h.fNet.fBits.toNat+1) (ext' h.fNet b) x.fNet->Bel' n f x.fNet:=fun b hb=>by
   obtain⟨b1,b2,_⟩:=ZjC.1 hb
   have:=g3.1
   exact⟨by omega,fun i hi=>by rw[b2 i (by omega)];exact g3.2 i hi⟩
  simp only[Zby,List.mem_append]at hx
  rcases hx with (hx|hx)|hx
  ·split at hx
   ·rw[List.mem_singleton]at hx;rw[hx];exact⟨g1,g2,g3⟩
   ·simp at hx
  ·obtain⟨h1,h2,h3⟩:=ZbN g4 x hx
   exact⟨h1,h2,iG _ h3⟩
  ·obtain⟨h1,h2,h3⟩:=ZbN g5 x hx
   exact⟨h1,h2,iG _ h3⟩
theorem ZnV.rebase{v:Bool}{nd:Zau}{n m:Nat}{f g:Nat->Bool}(h:ZnV v nd n f)(hb:∀x has k0 k1,nd=.mk x has k0 k1->Bel' m g x.fNet):ZnV v nd m g:=by
 cases nd with
 |nil=>trivial
 |mk x has k0 k1=>exact⟨h.1,h.2.1,hb x has k0 k1 rfl,h.2.2.2⟩
def Zlu(l:List Zav)(n:Zao):Int×Bool:=match l.find? (fun x=>decide (x.fNet=n))with
 |some x=>(x.fV,true)
 |none=>(0,false)
theorem Zle{l:List Zav}{n:Zao}(h:∀x∈l,x.fNet≠n):l.find? (fun x=>decide (x.fNet=n))=none:=by
 rw[List.find?_eq_none];intro x hx;simpa using h x hx
theorem ZAO{v:Bool}{n:Zao}(hn:RN n)(hv:n.fAddr.fV6=v):∀fu (nd:Zau) (m:Nat) (f:Nat->Bool),ZnV v nd m f->n.fBits.toNat+1<fu+m ->
  Zdw fu nd n=some (Zlu (Zby nd) n)\/(n.fBits.toNat<m/\fu=0):=by
 intro fu;induction fu with
 |zero=>intro nd m f _ h;exact .inr ⟨by omega,rfl⟩
 |succ fu ih=>
  intro nd m f hg hf;refine .inl ?_;cases nd with
  |nil=>rfl
  |mk h has k0 k1=>
   obtain⟨g1,g2,g3,g4,g5⟩:=hg;have hw:wid h.fNet.fAddr=wid n.fAddr:=by unfold wid;rw[g2,hv]
   have b0:=fun x hx=>ZjC.1 (ZbN g4 x hx).2.2;have b1:=fun x hx=>ZjC.1 (ZbN g5 x hx).2.2;have hnn:=g1.nn;have hnn':=hn.nn;simp only[Zdw,Zal];by_cases hlt:h.fNet.fBits<n.fBits
   ·rw[if_pos hlt];have ht:=ZvX hn h.fNet.fBits.toNat (by have:=hn.le;omega);rw[Int.toNat_of_nonneg hnn]at ht;rw[ht];have hh:∀x∈(if has then[h]else[]),x.fNet≠n:=fun x hx e=>by
     split at hx
     ·rw[List.mem_singleton]at hx;subst hx;rw[e]at hlt;omega
     ·simp at hx
    have gm:=g3.1;cases hb:bitN n.fAddr h.fNet.fBits.toNat with
    |false=>
     simp only[Bool.false_eq_true,if_false,Option.bind_some];rw[Zaw (by omega)];have he:Zlu (Zby (.mk h has k0 k1)) n=Zlu (Zby k0) n:=by
      unfold Zlu;simp only[Zby];rw[List.find?_append,List.find?_append,Zle hh,Zle (l:=Zby k1) fun x hx e=>by have:=(b1 x hx).2.2;rw[e,hb]at this;cases this];simp
     rw[he];rcases ih k0 _ _ g4 (by omega)with h|h
     ·exact h
     ·omega
    |true=>
     simp only[if_true,Option.bind_some];rw[Zaw (by omega)];have he:Zlu (Zby (.mk h has k0 k1)) n=Zlu (Zby k1) n:=by
      unfold Zlu;simp only[Zby];rw[List.find?_append,List.find?_append,Zle hh,Zle (l:=Zby k0) fun x hx e=>by have:=(b0 x hx).2.2;rw[e,hb]at this;cases this];simp
     rw[he];rcases ih k1 _ _ g5 (by omega)with h|h
     ·exact h
     ·omega
   ·rw[if_neg hlt];have he:Zlu (Zby (.mk h has k0 k1)) n=Zlu (if has then[h]else[]) n:=by
     unfold Zlu;simp only[Zby];rw[List.find?_append,List.find?_append,Zle (l:=Zby k0) fun x hx e=>by have:=(b0 x hx).1;rw[e]at this;omega,Zle (l:=Zby k1) fun x hx e=>by have:=(b1 x hx).1;rw[e]at this;omega];simp
    rw[he];cases has with
    |false=>rfl
    |true=>
     by_cases e:h.fNet=n
     ·simp[Zlu,e]
     ·simp[Zlu,e]
theorem Zxi{v:Bool}{hit:Zav}(hn:RN hit.fNet)(hv:hit.fNet.fAddr.fV6=v):∀fu (nd:Zau) (m:Nat) (f:Nat->Bool),ZnV v nd m f->Bel' m f hit.fNet->hit.fNet.fBits.toNat+1<fu+m ->
  ∃jV,ZeT fu nd hit=some jV/\ZnV v jV m f/\∀x,x∈Zby jV↔x=hit\/(x∈Zby nd/\x.fNet≠hit.fNet):=by
 intro fu;induction fu with
 |zero=>intro nd m f _ hb h;have:=hb.1;omega
 |succ fu ih=>
  intro nd m f hg cw hf;cases nd with
  |nil=>exact⟨_,rfl,⟨hn,hv,cw,trivial,trivial⟩,fun x=>by simp[Zby]⟩
  |mk h has k0 k1=>
   have jA:=hg;obtain⟨g1,g2,g3,g4,g5⟩:=hg;have hwd:wid h.fNet.fAddr=wid hit.fNet.fAddr:=by unfold wid;rw[g2,hv]
   have b0:=fun x hx=>ZjC.1 (ZbN g4 x hx).2.2;have b1:=fun x hx=>ZjC.1 (ZbN g5 x hx).2.2;have jW:∀x∈Zby (.mk h has k0 k1),h.fNet.fBits.toNat<=x.fNet.fBits.toNat/\∀i,i<h.fNet.fBits.toNat->bitN x.fNet.fAddr i=bitN h.fNet.fAddr i:=fun x hx=>by
    simp only[Zby,List.mem_append]at hx;rcases hx with (hx|hx)|hx
    ·split at hx
     ·rw[List.mem_singleton]at hx;rw[hx];exact⟨Nat.le_refl _,fun _ _=>rfl⟩
     ·simp at hx
    ·obtain⟨x1,x2,_⟩:=b0 x hx;exact⟨by omega,x2⟩
    ·obtain⟨x1,x2,_⟩:=b1 x hx;exact⟨by omega,x2⟩
   have n1:=g1.nn;have n2:=hn.nn;have l1:=g1.le;have l2:=hn.le;obtain⟨k,c1,c2,c3,c4,c5⟩:=ZEj g1 hn (g2.trans hv.symm);simp only[ZeT,c1,Option.bind_some,Zal];by_cases hk:k<h.fNet.fBits.toNat
   ·rw[if_pos (by omega)];have hbit:=ZvX g1 k (by omega);by_cases iH:k=hit.fNet.fBits.toNat
    ·-- the new one stands above
     have e:((k:Int)==hit.fNet.fBits)=true:=by rw[beq_iff_eq];omega
     have hne:∀x∈Zby (.mk h has k0 k1),x.fNet≠hit.fNet:=fun x hx e=>by have:=(jW x hx).1;rw[e]at this;omega
     have hB:Bel' (hit.fNet.fBits.toNat+1) (ext' hit.fNet (bitN h.fNet.fAddr k)) h.fNet:=ZjC.2 ⟨by omega,fun i hi=>c4 i (by omega),by rw[<-iH]⟩;have hG:ZnV v (.mk h has k0 k1) (hit.fNet.fBits.toNat+1) (ext' hit.fNet (bitN h.fNet.fAddr k)):=jA.rebase fun x _ _ _ e=>by cases e;exact hB
     simp only[ZjO,e,cond_true,hbit,Option.bind_some];cases hb:bitN h.fNet.fAddr k with
     |false=>
      rw[hb]at hG;simp only[Bool.false_eq_true,if_false];rw[Zaw (by omega)];refine⟨_,rfl,⟨hn,hv,cw,hG,trivial⟩,fun x=>?_⟩;have:Zby (.mk hit true (.mk h has k0 k1) .nil)=[hit]++Zby (.mk h has k0 k1):=by simp[Zby]
      rw[this,List.mem_append,List.mem_singleton];exact or_congr Iff.rfl ⟨fun hx=>⟨hx,hne x hx⟩,fun hx=>hx.1⟩
     |true=>
      rw[hb]at hG;simp only[if_true];rw[Zaw (by omega)];refine⟨_,rfl,⟨hn,hv,cw,trivial,hG⟩,fun x=>?_⟩;have:Zby (.mk hit true .nil (.mk h has k0 k1))=[hit]++Zby (.mk h has k0 k1):=by simp[Zby]
      rw[this,List.mem_append,List.mem_singleton];exact or_congr Iff.rfl ⟨fun hx=>⟨hx,hne x hx⟩,fun hx=>hx.1⟩
    ·-- they part
     have hk2:k<hit.fNet.fBits.toNat:=by omega
     have e:((k:Int)==hit.fNet.fBits)=false:=by rw[beq_eq_false_iff_ne];omega
     have c7:=c5 hk hk2;have hne:∀x∈Zby (.mk h has k0 k1),x.fNet≠hit.fNet:=fun x hx e=>c7 (by rw[<-(jW x hx).2 k hk,e]);obtain⟨r1,r2⟩:=ZHg hn.ok hn.right k (by omega);have i3:ZiD hit.fNet.fAddr (k:Int)=some (⟨Zjy hit.fNet.fAddr k,(k:Int)⟩,true):=by
      rw[Zzl _ hn.ok,if_pos ⟨hn.right,by omega,by omega⟩,Int.toNat_natCast]
     have iI:(⟨Zjy hit.fNet.fAddr k,(k:Int)⟩ : Zao).fBits.toNat=k:=Int.toNat_natCast k;have bR:∀i,i<k->bitN (Zjy hit.fNet.fAddr k) i=bitN hit.fNet.fAddr i:=fun i hi=>by
      rw[ZkK hn.fits k i (by omega) (by omega),decide_eq_true hi];rfl
     have hm:m<=k:=by
      rcases Nat.lt_or_ge k m with hh|hh
      ·exact absurd ((g3.2 k hh).trans (cw.2 k hh).symm) c7
      ·exact hh
     have hP:Bel' m f ⟨Zjy hit.fNet.fAddr k,(k:Int)⟩:=⟨by rw[iI];exact hm,fun i hi=>by rw[bR i (by omega)];exact cw.2 i hi⟩;have hO:ZnV v (.mk h has k0 k1) ((⟨Zjy hit.fNet.fAddr k,(k:Int)⟩ : Zao).fBits.toNat+1) (ext' ⟨Zjy hit.fNet.fAddr k,(k:Int)⟩ (bitN h.fNet.fAddr k)):=jA.rebase fun x _ _ _ e=>by
      cases e;exact ZjC.2 ⟨by rw[iI];exact hk,fun i hi=>by rw[iI]at hi;rw[bR i hi];exact c4 i hi,by rw[iI]⟩
     have hL:ZnV v (.mk hit true .nil .nil) ((⟨Zjy hit.fNet.fAddr k,(k:Int)⟩ : Zao).fBits.toNat+1) (ext' ⟨Zjy hit.fNet.fAddr k,(k:Int)⟩ (bitN hit.fNet.fAddr k)):=
      ⟨hn,hv,ZjC.2 ⟨by rw[iI];exact hk2,fun i hi=>by rw[iI]at hi;rw[bR i hi],by rw[iI]⟩,trivial,trivial⟩
     have bw:=ZvX hn k (by omega);simp only[ZjO,e,cond_false,i3,hbit,bw,Option.bind_some];cases hb:bitN h.fNet.fAddr k with
     |false=>
      have aF:bitN hit.fNet.fAddr k=true:=by
       cases hq:bitN hit.fNet.fAddr k
       ·rw[hb,hq]at c7;exact absurd rfl c7
       ·rfl
      rw[hb]at hO;rw[aF]at hL;simp only[aF,Bool.false_eq_true,if_false,if_true];rw[Zaw (by omega)];have e1:∀(A B:Option Zau),ix2 0 A B=A:=fun _ _=>rfl;have e2:∀(A B:Option Zau),ix2 1 A B=B:=fun _ _=>rfl;rw[e1,Zaw (by omega),e2];refine⟨_,rfl,⟨r1,by simp only[ZiN];exact hv,hP,hO,hL⟩,fun x=>?_⟩;have:Zby (.mk ⟨⟨Zjy hit.fNet.fAddr k,(k:Int)⟩,0⟩ false (.mk h has k0 k1) (.mk hit true .nil .nil))=Zby (.mk h has k0 k1)++[hit]:=by simp[Zby]
      rw[this,List.mem_append,List.mem_singleton,or_comm];exact or_congr Iff.rfl ⟨fun hx=>⟨hx,hne x hx⟩,fun hx=>hx.1⟩
     |true=>
      have aF:bitN hit.fNet.fAddr k=false:=by
       cases hq:bitN hit.fNet.fAddr k
       ·rfl
       ·rw[hb,hq]at c7;exact absurd rfl c7
      rw[hb]at hO;rw[aF]at hL;simp only[aF,Bool.false_eq_true,if_false,if_true];rw[Zaw (by omega)];have e1:∀(A B:Option Zau),ix2 0 A B=A:=fun _ _=>rfl;have e2:∀(A B:Option Zau),ix2 1 A B=B:=fun _ _=>rfl;rw[e2,Zaw (by omega),e1];refine⟨_,rfl,⟨r1,by simp only[ZiN];exact hv,hP,hL,hO⟩,fun x=>?_⟩;have:Zby (.mk ⟨⟨Zjy hit.fNet.fAddr k,(k:Int)⟩,0⟩ false (.mk hit true .nil .nil) (.mk h has k0 k1))=[hit]++Zby (.mk h has k0 k1):=by simp[Zby]
      rw[this,List.mem_append,List.mem_singleton];exact or_congr Iff.rfl ⟨fun hx=>⟨hx,hne x hx⟩,fun hx=>hx.1⟩
   ·rw[if_neg (by omega)];have iH:k=h.fNet.fBits.toNat:=by omega
    by_cases hke:k=hit.fNet.fBits.toNat
    ·-- it is there
     have e:((k:Int)==hit.fNet.fBits)=true:=by rw[beq_iff_eq];omega
     have l5:h.fNet=hit.fNet:=ZIe g1 hn (g2.trans hv.symm) (by
      unfold bs;rw[<-iH,<-hke];apply List.map_congr_left;intro i hi;exact c4 i (by simpa using hi))
     rw[e,cond_true];refine⟨_,rfl,⟨hn,hv,cw,by rw[<-l5];exact g4,by rw[<-l5];exact g5⟩,fun x=>?_⟩;have n0:x∈Zby k0->x.fNet≠hit.fNet:=fun hx e=>by have:=(b0 x hx).1;rw[e]at this;omega
     have n1:x∈Zby k1->x.fNet≠hit.fNet:=fun hx e=>by have:=(b1 x hx).1;rw[e]at this;omega
     simp only[Zby,List.mem_append,if_true,List.mem_singleton];constructor
     ·rintro ((hx|hx)|hx)
      ·exact .inl hx
      ·exact .inr ⟨.inl (.inr hx),n0 hx⟩
      ·exact .inr ⟨.inr hx,n1 hx⟩
     ·rintro (hx|⟨(hx|hx)|hx,hne⟩)
      ·exact .inl (.inl hx)
      ·split at hx
       ·rw[List.mem_singleton]at hx;rw[hx]at hne;exact absurd l5 hne
       ·simp at hx
      ·exact .inl (.inr hx)
      ·exact .inr hx
    ·have e:((k:Int)==hit.fNet.fBits)=false:=by rw[beq_eq_false_iff_ne];omega
     have hbit:=ZvX hn k (by omega);have hB:Bel' (h.fNet.fBits.toNat+1) (ext' h.fNet (bitN hit.fNet.fAddr k)) hit.fNet:=ZjC.2 ⟨by omega,fun i hi=>(c4 i (by omega)).symm,by rw[<-iH]⟩;have nh:∀x∈(if has then[h]else[]),x.fNet≠hit.fNet:=fun x hx e=>by
      split at hx
      ·rw[List.mem_singleton]at hx;rw[hx]at e;rw[e]at iH;omega
      ·simp at hx
     have gm:=g3.1;simp only[e,cond_false,hbit,Option.bind_some];cases hb:bitN hit.fNet.fAddr k with
     |false=>
      rw[hb]at hB;simp only[Bool.false_eq_true,if_false];rw[Zaw (by omega)];obtain⟨jV,w1,w2,w3⟩:=ih k0 _ _ g4 hB (by omega);have e1:∀(A B:Option Zau),ix2 0 A B=A:=fun _ _=>rfl;rw[e1,w1];refine⟨_,rfl,⟨g1,g2,g3,w2,g5⟩,fun x=>?_⟩;have n1:x∈Zby k1->x.fNet≠hit.fNet:=fun hx e=>by have:=(b1 x hx).2.2;rw[e,<-iH,hb]at this;cases this
      simp only[Zby,List.mem_append,w3];constructor
      ·rintro ((hx|hx|hx)|hx)
       ·exact .inr ⟨.inl (.inl hx),nh x hx⟩
       ·exact .inl hx
       ·exact .inr ⟨.inl (.inr hx.1),hx.2⟩
       ·exact .inr ⟨.inr hx,n1 hx⟩
      ·rintro (hx|⟨(hx|hx)|hx,hne⟩)
       ·exact .inl (.inr (.inl hx))
       ·exact .inl (.inl hx)
       ·exact .inl (.inr (.inr ⟨hx,hne⟩))
       ·exact .inr hx
     |true=>
      rw[hb]at hB;simp only[if_true];rw[Zaw (by omega)];obtain⟨jV,w1,w2,w3⟩:=ih k1 _ _ g5 hB (by omega);have e2:∀(A B:Option Zau),ix2 1 A B=B:=fun _ _=>rfl;rw[e2,w1];refine⟨_,rfl,⟨g1,g2,g3,g4,w2⟩,fun x=>?_⟩;have n1:x∈Zby k0->x.fNet≠hit.fNet:=fun hx e=>by have:=(b0 x hx).2.2;rw[e,<-iH,hb]at this;cases this
      simp only[Zby,List.mem_append,w3];constructor
      ·rintro ((hx|hx)|hx|hx)
       ·exact .inr ⟨.inl (.inl hx),nh x hx⟩
       ·exact .inr ⟨.inl (.inr hx),n1 hx⟩
       ·exact .inl hx
       ·exact .inr ⟨.inr hx.1,hx.2⟩
      ·rintro (hx|⟨(hx|hx)|hx,hne⟩)
       ·exact .inr (.inl hx)
       ·exact .inl (.inl hx)
       ·exact .inl (.inr hx)
       ·exact .inr (.inr ⟨hx,hne⟩)
def cov(a:Zag)(x:Zav):Bool:=decide (∀i,i<x.fNet.fBits.toNat->bitN a i=bitN x.fNet.fAddr i)
theorem Zmi{α:Type}{p:α->Bool}{l:List α}(h:∀x∈l,p x=false):l.filter p=[]:=by
 rw[List.filter_eq_nil_iff];intro x hx;rw[h x hx];simp
theorem ZvN{v:Bool}{a:Zag}(ha:a.ok)(hr:ZeG a=true)(hv:a.fV6=v):∀fu (nd:Zau) (m:Nat) (f:Nat->Bool) (w:List Zav),ZnV v nd m f->(∀i,i<m->i<wid a->bitN a i=f i)->m<=wid a+1->wid a+1<fu+m->w.length<=m ->
  ZbE fu nd w a=some (w++(Zby nd).filter (cov a)):=by
 have hwa:wid a<=128:=by unfold wid;split<;>omega
 intro fu;induction fu with
 |zero=>intro nd m f w _ _ _ h;omega
 |succ fu ih=>
  intro nd m f w hg hp hmw hf hl;cases nd with
  |nil=>simp[ZbE,Zby]
  |mk h has k0 k1=>
   obtain⟨g1,g2,g3,g4,g5⟩:=hg;have hwd:wid h.fNet.fAddr=wid a:=by unfold wid;rw[g2,hv]
   have b0:=fun x hx=>ZjC.1 (ZbN g4 x hx).2.2;have b1:=fun x hx=>ZjC.1 (ZbN g5 x hx).2.2;have w0:=fun x hx=>(ZbN g4 x hx);have w1:=fun x hx=>(ZbN g5 x hx);have n1:=g1.nn;have l1:=g1.le;have gm:=g3.1;simp only[ZbE,ZGI _ a g1 ha,hr,decide_eq_true (g2.trans hv.symm),Bool.true_and,Option.bind_some,Zal];by_cases hc:∀i,i<h.fNet.fBits.toNat->bitN a i=bitN h.fNet.fAddr i
   ·rw[if_pos hc];have l6:cov a h=true:=by unfold cov;rw[decide_eq_true_eq];exact hc
    -- what lies below
    have jX:∀w':List Zav,w'.length<=h.fNet.fBits.toNat+1->((ZhA a h.fNet.fBits).bind fun x6=>need (0<=x6/\x6<((2:Nat):Int))<|ix2 x6 (ZbE fu k0 w' a) (ZbE fu k1 w' a))=some (w'++((Zby k0).filter (cov a)++(Zby k1).filter (cov a))):=by
     intro w' iF;by_cases hb:h.fNet.fBits.toNat<wid a
     ·have ht:=ZEI (ZoG ha hr) h.fNet.fBits.toNat hb;rw[Int.toNat_of_nonneg n1]at ht;rw[ht];cases hbit:bitN a h.fNet.fBits.toNat with
      |false=>
       simp only[Bool.false_eq_true,if_false,Option.bind_some];rw[Zaw (by omega),show ∀(A B:Option (List Zav)),ix2 0 A B=A from fun _ _=>rfl];rw[ih k0 _ _ w' g4 (fun i hi cQ=>by
        unfold ext';by_cases h3:i<h.fNet.fBits.toNat
        ·rw[if_pos h3];exact hc i h3
        ·rw[if_neg h3,show i=h.fNet.fBits.toNat by omega];exact hbit) (by omega) (by omega) iF]
       rw[Zmi (l:=Zby k1) fun x hx=>?_]
       ·simp
       ·unfold cov;rw[decide_eq_false_iff_not];intro hq;obtain⟨x1,x2,x3⟩:=b1 x hx;have:=hq _ x1;rw[hbit,x3]at this;cases this
      |true=>
       simp only[if_true,Option.bind_some];rw[Zaw (by omega),show ∀(A B:Option (List Zav)),ix2 1 A B=B from fun _ _=>rfl];rw[ih k1 _ _ w' g5 (fun i hi cQ=>by
        unfold ext';by_cases h3:i<h.fNet.fBits.toNat
        ·rw[if_pos h3];exact hc i h3
        ·rw[if_neg h3,show i=h.fNet.fBits.toNat by omega];exact hbit) (by omega) (by omega) iF]
       rw[Zmi (l:=Zby k0) fun x hx=>?_]
       ·simp
       ·unfold cov;rw[decide_eq_false_iff_not];intro hq;obtain⟨x1,x2,x3⟩:=b0 x hx;have:=hq _ x1;rw[hbit,x3]at this;cases this
     ·-- a whole address: nothing lies below
      have aY:∀(iG:Zau)(b:Bool),ZnV v iG (h.fNet.fBits.toNat+1) (ext' h.fNet b)->iG=.nil:=fun iG b dI=>by
       cases iG with
       |nil=>rfl
       |mk x hs q0 q1=>
        have h1:=dI.2.2.1.1;have h2:=dI.1.le;have h3:wid x.fNet.fAddr=wid a:=by unfold wid;rw[dI.2.1,hv]
        omega
      rw[aY k0 _ g4,aY k1 _ g5];have jY:ZhA a h.fNet.fBits=some 0:=by
       simp only[ZhA,ZzY,Option.bind_some,Zal];rw[if_neg (by omega),if_pos (by omega)]
      rw[jY];simp only[Option.bind_some];rw[Zaw (by omega),show ∀(A B:Option (List Zav)),ix2 0 A B=A from fun _ _=>rfl];have:=ih .nil (h.fNet.fBits.toNat+1) (ext' h.fNet false) w' trivial (fun i hi cQ=>by
        unfold ext';rw[if_pos (by omega)];exact hc i (by omega)) (by omega) (by omega) iF
      rw[this];simp[Zby]
    cases has with
    |true=>
     simp only[cond_true,Zby,if_true];rw[Zaw ⟨by simp;omega,by unfold maxLen;simp;omega⟩,jX _ (by simp;omega)];simp[l6]
    |false=>
     simp only[cond_false,Zby,Bool.false_eq_true,if_false];rw[jX _ (by omega)];simp
   ·rw[if_neg hc];rw[Zmi]
    ·simp
    ·intro x hx;unfold cov;rw[decide_eq_false_iff_not];intro hq;apply hc;intro i hi;simp only[Zby,List.mem_append]at hx;rcases hx with (hx|hx)|hx
     ·split at hx
      ·rw[List.mem_singleton]at hx;rw[hx]at hq;exact hq i hi
      ·simp at hx
     ·obtain⟨x1,x2,_⟩:=b0 x hx;rw[hq i (by omega)];exact x2 i hi
     ·obtain⟨x1,x2,_⟩:=b1 x hx;rw[hq i (by omega)];exact x2 i hi
end Go.Proofs.YtdjfoojllbfcgaaGreat
