import Derived.Test.YtdjfoojllbfcgaaGreatJRiaA3
import Derived.Test.YtdjfoojllbfcgaaGreatJPlA
namespace Go.Proofs.YtdjfoojllbfcgaaGreat
set_option linter.unusedVariables false
set_option linter.unusedSimpArgs false
def ZlO:Zab:=⟨⟨⟨false,0,0⟩,0⟩,false,0,⟨0,0⟩,0,0⟩
def valZ:Zah:=⟨0,ZlO,[],[]⟩
def locZ:Zay:=⟨0,0,0⟩
def opZ:ZaJ:=⟨0,0,locZ,0,0,valZ,false⟩
def endZ:Zan:=⟨⟨false,0,0⟩,0⟩
def repZ:Zaq:=⟨0,endZ,0,0,[]⟩
def locN(l:Zay):Zay:=if l.fKind=1\/l.fKind=2\/l.fKind=3\/l.fKind=4 then⟨l.fKind,0,0⟩else if l.fKind=5 then⟨l.fKind,l.fShard,0⟩else if l.fKind=6 then l else locZ
def valN(k:Int)(v:Zah):Zah:=if k=1\/k=2\/k=5 then⟨v.fN,ZlO,[],[]⟩else if k=3 then⟨0,ZlO,v.fBans,[]⟩else if k=4 then⟨0,ZlO,[],v.fBook⟩else if k=6 then⟨0,v.fPeer,[],[]⟩else valZ
def opN(o:ZaJ):ZaJ:=if o.fKind=1\/o.fKind=2\/o.fKind=3\/o.fKind=4 then⟨o.fKind,o.fLock,locZ,0,0,valZ,o.fMark⟩else if o.fKind=5 then⟨o.fKind,0,locN o.fLoc,0,0,valZ,o.fMark⟩else if o.fKind=6 then⟨o.fKind,0,locN o.fLoc,0,0,valN o.fLoc.fKind o.fVal,o.fMark⟩else if o.fKind=7 then⟨o.fKind,0,locN o.fLoc,o.fOld,o.fNew,valZ,o.fMark⟩else if o.fKind=8 then⟨o.fKind,0,locZ,0,0,valZ,o.fMark⟩else opZ
theorem ZcM(a b:Int){α:Type}(x y:α):(bif a==b then x else y)=if a=b then x else y:=by
 by_cases h:a=b
 .subst h;simp
 .rw[if_neg h,beq_false_of_ne h];rfl
theorem ZEn(l:Zay):Zlf l=some (locN l):=by
 obtain⟨k,s,t⟩:=l;unfold Zlf ZhN locN;simp only[ZcM]
 repeat' split
 all_goals first|rfl | (simp_all [locZ];done) | (exfalso;omega)
theorem ZDQ(k:Int)(v:Zah):Zoh k v=some (valN k v):=by
 unfold Zoh ZiL valN;simp only[ZcM]
 repeat' split
 all_goals first|rfl | (simp_all [valZ,ZlO];done) | (exfalso;omega)
theorem ZEW(o:ZaJ):Zoi o=some (opN o):=by
 unfold Zoi ZhO opN;simp only[ZcM,ZEn,ZDQ,Option.bind_some]
 repeat' split
 all_goals first|rfl | (simp_all [opZ,locZ,valZ,ZlO];done) | (exfalso;omega)
theorem ZaK{α β:Type}(x:α)(f:α->Option β):(some x).bind f=f x:=by simp
theorem ZKC(o:ZaJ):Zci ⟨[]⟩ o=some (.pan (opN o)):=by
 simp[Zci,ZEW]
theorem ZIM(v:Zah)(r:List Zah)(o:ZaJ):Zci ⟨v :: r⟩ o=some (.ret v ⟨r⟩):=by
 have h:(((v :: r).length:Nat):Int)≠0:=by simp only[List.length_cons];omega
 unfold Zci;simp only[ZcM,if_neg h];rw[Zax (by simp only[List.length_cons];omega),Zax (by simp only[List.length_cons];omega)];rfl
section
variable {aO:List Zah} (hL:aO.length<=1000000) {a:Nat} (ha:a<=aO.length)
include hL ha
end
def ZaT(p:Int):Nat:=if p<1 then 1 else if p>8 then 8 else p.toNat
theorem ZgD(p:Int):1<=ZaT p/\ZaT p<=8:=by unfold ZaT;split<;>(try split)<;>omega
theorem ZtN(p:Int):Zip p=some (ZaT p:Int):=by
 unfold Zip ZaT;congr 1
 repeat' split
 all_goals omega
theorem Zxh(p:Int):Zdl p=some (ZaT p:Int):=by
 unfold Zdl ZaT;simp only[Zam]
 repeat' split
 all_goals first|rfl | (congr 1;omega)|omega
theorem ZFq{i:Nat}(h:i<=1000000):ZbT ((i+1:Nat):Int) 1=(i:Int):=by
 unfold ZbT;have:IntKind.i64.wrap (((i+1:Nat):Int)-1)=((i+1:Nat):Int)-1:=ZnW (by omega) (by omega);exact this.trans (by omega)
theorem sub0:ZbT 0 1 = -1:=by decide
theorem ZxW(l:List Zaf)(h:l.length<=1000000):ZgR l l=some true:=by
 have aH:∀(k i f:Nat),l.length-i=k->i<=l.length->k+1<=f->ZcR l l f i=some true:=by
  intro k;induction k with
  |zero=>
   intro i f hk hi hf;obtain⟨f,rfl⟩ : ∃x,f=x+1:=⟨f-1,by omega⟩;have hc:¬((i:Int)<(l.length:Int)):=by omega
   unfold ZcR;simp only[Zam,if_neg hc]
  |succ k ih=>
   intro i f hk hi hf;obtain⟨f,rfl⟩ : ∃x,f=x+1:=⟨f-1,by omega⟩;have hc:(i:Int)<(l.length:Int):=by omega
   have e1:ZaA (i:Int) 1=((i+1:Nat):Int):=add1 (n:=i+1) (by omega) (by simp only[maxLen];omega);unfold ZcR;simp only[Zam,if_pos hc,e1,decide_true,Bool.not_true,cond_false];rw[Zax (by omega),Zax (by omega)];exact ih (i+1) f (by omega) (by omega) (by omega)
 unfold ZgR;simp only[bne_self_eq_false,cond_false];exact aH l.length 0 _ (by omega) (by omega) (by omega)
theorem ZxV(l:List Zaa)(h:l.length<=1000000):ZgQ l l=some true:=by
 have aH:∀(k i f:Nat),l.length-i=k->i<=l.length->k+1<=f->ZcQ l l f i=some true:=by
  intro k;induction k with
  |zero=>
   intro i f hk hi hf;obtain⟨f,rfl⟩ : ∃x,f=x+1:=⟨f-1,by omega⟩;have hc:¬((i:Int)<(l.length:Int)):=by omega
   unfold ZcQ;simp only[Zam,if_neg hc]
  |succ k ih=>
   intro i f hk hi hf;obtain⟨f,rfl⟩ : ∃x,f=x+1:=⟨f-1,by omega⟩;have hc:(i:Int)<(l.length:Int):=by omega
   have e1:ZaA (i:Int) 1=((i+1:Nat):Int):=add1 (n:=i+1) (by omega) (by simp only[maxLen];omega);unfold ZcQ;simp only[Zam,if_pos hc,e1,decide_true,Bool.not_true,cond_false];rw[Zax (by omega),Zax (by omega)];exact ih (i+1) f (by omega) (by omega) (by omega)
 unfold ZgQ;simp only[bne_self_eq_false,cond_false];exact aH l.length 0 _ (by omega) (by omega) (by omega)
theorem Zrt(l:List Zab)(h:l.length<=1000000):Zfe l l=some true:=by
 have aH:∀(k i f:Nat),l.length-i=k->i<=l.length->k+1<=f->ZcA l l f i=some true:=by
  intro k;induction k with
  |zero=>
   intro i f hk hi hf;obtain⟨f,rfl⟩ : ∃x,f=x+1:=⟨f-1,by omega⟩;have hc:¬((i:Int)<(l.length:Int)):=by omega
   unfold ZcA;simp only[Zam,if_neg hc]
  |succ k ih=>
   intro i f hk hi hf;obtain⟨f,rfl⟩ : ∃x,f=x+1:=⟨f-1,by omega⟩;have hc:(i:Int)<(l.length:Int):=by omega
   have e1:ZaA (i:Int) 1=((i+1:Nat):Int):=add1 (n:=i+1) (by omega) (by simp only[maxLen];omega);unfold ZcA;simp only[Zam,if_pos hc,e1,decide_true,Bool.not_true,cond_false];rw[Zax (by omega),Zax (by omega)];exact ih (i+1) f (by omega) (by omega) (by omega)
 unfold Zfe;simp only[bne_self_eq_false,cond_false];exact aH l.length 0 _ (by omega) (by omega) (by omega)
theorem Zwv(r:Zaq)(h:r.fPeers.length<=1000000):Zfd r r=some true:=by
 unfold Zfd;simp only[beq_self_eq_true,decide_true,cond_true,Zrt _ h,ZaK]
inductive Pr (α:Type) where
 |ret (x:α)
 |ask (o:ZaJ) (k:Zah->Pr α)
 |no
def Pr.bind{α β:Type}:Pr α->(α->Pr β)->Pr β | .ret x,f=>f x | .ask o k,f=>.ask o fun v=>(k v).bind f | .no,_=>.no
theorem Pr.bind_ret{α β:Type}(x:α)(f:α->Pr β):(Pr.ret x).bind f=f x:=rfl
theorem Pr.bind_ask{α β:Type}(o:ZaJ)(k:Zah->Pr α)(f:α->Pr β):(Pr.ask o k).bind f=.ask o fun v=>(k v).bind f:=rfl
theorem Pr.bind_assoc{α β γ:Type}(p:Pr α)(f:α->Pr β)(g:β->Pr γ):(p.bind f).bind g=p.bind fun x=>(f x).bind g:=by
 induction p with
 |ret x=>rfl
 |ask o k ih=>simp only[Pr.bind_ask,ih]
 |no=>rfl
def runT{α:Type}:Pr α->List Zah->Option (Tout α) | .ret x,l=>some (.ret x ⟨l⟩) | .ask o _,[]=>some (.pan (opN o)) | .ask _ k,v :: l=>runT (k v) l | .no,_=>none
theorem ZHI{α:Type}(p:Pr α):∀(l:List Zah)(s:ByteArray),runT p l≠some (.bad s):=by
 induction p with
 |ret x=>intro l s h;simp[runT]at h
 |ask o k ih=>
  intro l s;cases l with
  |nil=>simp[runT]
  |cons v l=>exact ih v l s
 |no=>intro l s h;simp[runT]at h
theorem ZFB{α:Type}(p:Pr α):∀(l:List Zah)(x:α)(g:Zao),runT p l=some (.ret x g)->∃a,a<=l.length/\g=⟨l.drop a⟩:=by
 induction p with
 |ret y=>intro l x g h;simp[runT]at h;exact⟨0,Nat.zero_le _,by rw[<-h.2];rfl⟩
 |ask o k ih=>
  intro l x g h;cases l with
  |nil=>simp[runT]at h
  |cons v l=>
   obtain⟨a,h1,h2⟩:=ih v l x g h;exact⟨a+1,by simp only[List.length_cons];omega,h2⟩
 |no=>intro l x g h;simp[runT]at h
theorem ZbS{α β:Type}{p:Pr α}{f:α->Pr β}{l:List Zah}{F:Tout α->Option (Tout β)}(h1:∀x a,a<=l.length->runT p l=some (.ret x ⟨l.drop a⟩)->F (.ret x ⟨l.drop a⟩)=runT (f x) (l.drop a))(h2:∀o,F (.pan o)=some (.pan o)) :
  (runT p l).bind F=runT (p.bind f) l:=by
 induction p generalizing l with
 |ret x=>
  have:=h1 x 0 (Nat.zero_le _) rfl;simpa[runT,Pr.bind]using this
 |ask o k ih=>
  cases l with
  |nil=>simp only[runT,Pr.bind,Option.bind_some,h2]
  |cons v l=>
   simp only[runT,Pr.bind];refine ih v fun x a ha h=>?_;exact h1 x (a+1) (by simp only[List.length_cons];omega) h
 |no=>rfl
theorem ZuK{α:Type}{p:Pr α}{l:List Zah}{F:Tout α->Option (Tout α)}(h1:∀x g,F (.ret x g)=some (.ret x g))(h2:∀o,F (.pan o)=some (.pan o)):(runT p l).bind F=runT p l:=by
 cases h:runT p l with
 |none=>rfl
 |some t=>
  cases t with
  |ret x g=>exact h1 x g
  |pan o=>exact h2 o
  |bad s=>exact absurd h (ZHI p l s)
def ZjW(l:Zay):Pr Zah:=.ask ⟨5,0,l,0,0,valZ,false⟩ .ret
def Zpu(l:Zay)(v:Zah)(af:Bool):Pr Unit:=.ask ⟨6,0,l,0,0,v,af⟩ fun _=>.ret ()
def keyP(k lock:Int)(af:Bool):Pr Unit:=.ask ⟨k,lock,locZ,0,0,valZ,af⟩ fun _=>.ret ()
def ZJF(k old ae:Int)(af:Bool):Pr Bool:=.ask ⟨7,0,⟨k,0,0⟩,old,ae,valZ,af⟩ fun v=>.ret (v.fN==1)
theorem ZqM{α:Type}(f:Zah->α)(o:ZaJ)(l:List Zah):((Zci ⟨l⟩ o).bind fun x=>match x with | .ret v g=>some (Tout.ret (f v) g) | .pan q=>some (.pan q) | .bad s=>some (.bad s))=runT (.ask o fun v=>.ret (f v)) l:=by
 cases l with
 |nil=>rw[ZKC];rfl
 |cons v r=>rw[ZIM];rfl
theorem Zme(l:List Zah)(c:Zay):ZcH ⟨l⟩ c false=runT (ZjW c) l:=ZqM id _ l
theorem Ztd(l:List Zah)(c:Zay)(v:Zah)(af:Bool):ZeZ ⟨l⟩ c v af=runT (Zpu c v af) l:=ZqM (fun _=>()) _ l
theorem ZIS(l:List Zah)(k old ae:Int)(af:Bool):Zju ⟨l⟩ ⟨k,0,0⟩ old ae af=runT (ZJF k old ae af) l:=ZqM (fun v=>v.fN==1) _ l
theorem Ztf(l:List Zah)(k:Int)(af:Bool):ZeL ⟨l⟩ k af=runT (keyP 1 k af) l:=ZqM (fun _=>()) _ l
theorem ZBa(l:List Zah)(k:Int)(af:Bool):Zhw ⟨l⟩ k af=runT (keyP 2 k af) l:=ZqM (fun _=>()) _ l
theorem Zrd(l:List Zah)(k:Int)(af:Bool):Zdb ⟨l⟩ k af=runT (keyP 3 k af) l:=ZqM (fun _=>()) _ l
theorem ZDO(l:List Zah)(k:Int)(af:Bool):ZhZ ⟨l⟩ k af=runT (keyP 4 k af) l:=ZqM (fun _=>()) _ l
theorem ZIU(l:List Zah)(af:Bool):Zjv ⟨l⟩ af=runT (keyP 8 0 af) l:=ZqM (fun _=>()) _ l
theorem Zst{c:Zay}{l:List Zah}{x:Zah}{g:Zao}(h:runT (ZjW c) l=some (.ret x g)):∃r,l=x :: r/\g=⟨r⟩:=by
 cases l with
 |nil=>simp[runT,ZjW]at h
 |cons v r=>
  simp only[runT,ZjW,Option.some.injEq,Tout.ret.injEq]at h;exact⟨r,by rw[h.1],h.2.symm⟩
def Zqc(part:Int):Nat->Nat->List Zab->Pr (List Zab)|0,_,w=>.ret w|k+1,i,w=>(ZjW ⟨6,part,i⟩).bind fun v=>Zqc part k (i+1) (w++[v.fPeer])
def ZtZ(part:Int):Pr (List Zab):=(ZjW ⟨5,part,0⟩).bind fun v=>Zqc part v.fN.toNat 0 []
theorem ZFN(part n:Int):∀(k:Nat)(w:List Zab)(l:List Zah)(fu:Nat),(n-(w.length:Int)).toNat=k->w.length+l.length<=900000->k+1<=fu->Zgd part fu n (w.length:Int) w ⟨l⟩=runT (Zqc part k w.length w) l:=by
 intro k;induction k with
 |zero=>
  intro w l fu hk hl hf;obtain⟨fu,rfl⟩ : ∃x,fu=x+1:=⟨fu-1,by omega⟩;unfold Zgd;simp only[Zam];rw[if_neg (by omega)];rfl
 |succ k ih=>
  intro w l fu hk hl hf;obtain⟨fu,rfl⟩ : ∃x,fu=x+1:=⟨fu-1,by omega⟩;unfold Zgd;simp only[Zam];have e:Zlb part (w.length:Int)=some ⟨6,part,(w.length:Int)⟩:=rfl;rw[if_pos (by omega),e,ZaK,Zme];refine ZbS (fun x a ha h=>?_) (fun o=>rfl);obtain⟨r,rfl,h2⟩:=Zst h;simp only[Zao.mk.injEq]at h2;rw[h2];simp only[List.length_cons]at hl;dsimp only;rw[Zax (by simp only[List.length_append,List.length_singleton,maxLen];omega)];have e1:ZaA (w.length:Int) 1=(((w++[x.fPeer]).length:Nat):Int):=by
   rw[add1 (n:=w.length+1) (by omega) (by simp only[maxLen];omega)];simp
  have e2:w.length+1=(w++[x.fPeer]).length:=by simp
  rw[e1,e2];exact ih (w++[x.fPeer]) r fu (by simp only[List.length_append,List.length_singleton];omega) (by simp only[List.length_append,List.length_singleton];omega) (by omega)
theorem ZDH(part:Int)(l:List Zah)(hl:l.length<=900000):ZjD ⟨l⟩ part=runT (ZtZ part) l:=by
 unfold ZjD;have e:Zlc part=some ⟨5,part,0⟩:=rfl;rw[e,ZaK,Zme];refine ZbS (fun x a ha h=>?_) (fun o=>rfl);obtain⟨r,rfl,h2⟩:=Zst h;simp only[Zao.mk.injEq]at h2;rw[h2];simp only[List.length_cons]at hl;dsimp only;have:=ZFN part (if(0:Int)>x.fN then 0 else x.fN) x.fN.toNat [] r ((((if(0:Int)>x.fN then 0 else x.fN))-(0:Int)).toNat+2) (by simp only[List.length_nil];split<;>omega) (by simp only[List.length_nil];omega) (by split<;>omega);exact this
theorem ZuU(part:Int):∀(k i:Nat)(w:List Zab)(l:List Zah)(x:List Zab)(g:Zao),runT (Zqc part k i w) l=some (.ret x g)->x.length+g.fgot.length=w.length+l.length
 | 0,i,w,l,x,g,h=>by simp[Zqc,runT]at h;rw[<-h.1,<-h.2]
 |k+1,i,w,[],x,g,h=>by simp[Zqc,runT,ZjW,Pr.bind]at h
 |k+1,i,w,v :: l,x,g,h=>by
  have:=ZuU part k (i+1) (w++[v.fPeer]) l x g h
  simp only[List.length_append,List.length_cons,List.length_nil]at this ⊢
  omega
theorem ZHU{part:Int}{l:List Zah}{x:List Zab}{g:Zao}(h:runT (ZtZ part) l=some (.ret x g)):x.length<=l.length:=by
 cases l with
 |nil=>simp[ZtZ,runT,ZjW,Pr.bind]at h
 |cons v l=>
  have:=ZuU part _ _ _ l x g h;simp only[List.length_cons,List.length_nil]at this ⊢;omega
theorem ZzD(part:Int)(Q:Zab->Prop):∀(k i:Nat)(w:List Zab)(l:List Zah)(x:List Zab)(g:Zao),runT (Zqc part k i w) l=some (.ret x g)->(∀p∈w,Q p)->(∀v∈l,Q v.fPeer)->∀p∈x,Q p
 | 0,i,w,l,x,g,h,hw,hl=>by simp[Zqc,runT]at h;rw[<-h.1];exact hw
 |k+1,i,w,[],x,g,h,hw,hl=>by simp[Zqc,runT,ZjW,Pr.bind]at h
 |k+1,i,w,v :: l,x,g,h,hw,hl=>by
  refine ZzD part Q k (i+1) (w++[v.fPeer]) l x g h (fun p hp=>?_) (fun v' hv=>hl v' (List.mem_cons_of_mem _ hv))
  rcases List.mem_append.1 hp with hp|hp
  .exact hw p hp
  .rw[List.mem_singleton.1 hp];exact hl v (by simp)
theorem ZHT{part:Int}{Q:Zab->Prop}{l:List Zah}{x:List Zab}{g:Zao}(h:runT (ZtZ part) l=some (.ret x g))(hl:∀v∈l,Q v.fPeer):∀p∈x,Q p:=by
 cases l with
 |nil=>simp[ZtZ,runT,ZjW,Pr.bind]at h
 |cons v l=>exact ZzD part Q _ _ _ l x g h (by simp) fun v' hv=>hl v' (List.mem_cons_of_mem _ hv)
def wrB(aK ae:List Zab)(i:Nat):Bool:=decide (aK.length<=i) || !decide (aK.getD i Zab.d=ae.getD i Zab.d)
def wrL(aK ae:List Zab):List Int:=((List.range ae.length).filter (wrB aK ae)).map fun(i:Nat)=>(i:Int)
theorem ZCt(aK ae:List Zab)(hn:ae.length<=1000000):Zjm aK ae=some (wrL aK ae):=by
 have aH:∀(k i f:Nat),ae.length-i=k->i<=ae.length->k+1<=f->Zde aK f ae (ae.length:Int) i (((List.range i).filter (wrB aK ae)).map fun(i:Nat)=>(i:Int))=some (wrL aK ae):=by
  intro k;induction k with
  |zero=>
   intro i f hk hi hf;obtain⟨f,rfl⟩ : ∃x,f=x+1:=⟨f-1,by omega⟩;unfold Zde;simp only[Zam];rw[if_neg (by omega)];have:i=ae.length:=by omega
   rw[this];rfl
  |succ k ih=>
   intro i f hk hi hf;obtain⟨f,rfl⟩ : ∃x,f=x+1:=⟨f-1,by omega⟩;unfold Zde;simp only[Zam];have e1:ZaA (i:Int) 1=((i+1:Nat):Int):=add1 (n:=i+1) (by omega) (by simp only[maxLen];omega);have hl:((List.range i).filter (wrB aK ae)).length<=i:=by
    have:=List.length_filter_le (wrB aK ae) (List.range i);rw[List.length_range]at this;exact this
   have hlen:((((List.range i).filter (wrB aK ae)).map fun(i:Nat)=>(i:Int))++[(i:Int)]).length * 8<=140737488355328/\((((List.range i).filter (wrB aK ae)).map fun(i:Nat)=>(i:Int))++[(i:Int)]).length<=maxLen:=by
    simp only[List.length_append,List.length_singleton,List.length_map,maxLen];omega
   have kb:wrB aK ae i=true->(((List.range i).filter (wrB aK ae)).map fun(i:Nat)=>(i:Int))++[(i:Int)]=((List.range (i+1)).filter (wrB aK ae)).map fun(i:Nat)=>(i:Int):=fun h=>by
    rw[List.range_succ,List.filter_append,List.map_append,List.filter_cons_of_pos (by rw[h])];rfl
   have c8:wrB aK ae i=false->(((List.range i).filter (wrB aK ae)).map fun(i:Nat)=>(i:Int))=((List.range (i+1)).filter (wrB aK ae)).map fun(i:Nat)=>(i:Int):=fun h=>by
    rw[List.range_succ,List.filter_append,List.map_append,List.filter_cons_of_neg (by rw[h];decide)];simp
   have l9:=ih (i+1) f (by omega) (by omega) (by omega);rw[if_pos (by omega),Zax (by omega)];by_cases h:(i:Int)>=(aK.length:Int)
   .have hb:wrB aK ae i=true:=by unfold wrB;rw[decide_eq_true (show aK.length<=i by omega)];rfl
    rw[if_pos h,Zax hlen,e1,kb hb];exact l9
   .rw[if_neg h,Zax (show 0<=(i:Int)/\(i:Int)<(aK.length:Int)by omega)];have h0:decide (aK.length<=i)=false:=decide_eq_false (by omega);by_cases h2:aK.getD ((i:Int)).toNat Zab.d=ae.getD ((i:Int)).toNat Zab.d
    .have hb:wrB aK ae i=false:=by
      unfold wrB;rw[h0,Bool.false_or];simp only[Int.toNat_natCast]at h2;rw[decide_eq_true h2];rfl
     simp only[h2,decide_true,Bool.not_true,cond_false,e1];rw[c8 hb];exact l9
    .have hb:wrB aK ae i=true:=by
      unfold wrB;rw[h0,Bool.false_or];simp only[Int.toNat_natCast]at h2;rw[decide_eq_false h2];rfl
     simp only[h2,decide_false,Bool.not_false,cond_true];rw[Zax hlen,e1,kb hb];exact l9
 exact aH ae.length 0 _ (by omega) (by omega) (by omega)
theorem ZJA{aK ae:List Zab}{x:Int}(h:x∈wrL aK ae):0<=x/\x<(ae.length:Int):=by
 unfold wrL at h;obtain⟨i,h1,rfl⟩:=List.mem_map.1 h;have:=List.mem_range.1 (List.mem_filter.1 h1).1;omega
theorem ZJB(aK ae:List Zab):(wrL aK ae).length<=ae.length:=by
 unfold wrL;rw[List.length_map];have:=List.length_filter_le (wrB aK ae) (List.range ae.length);rw[List.length_range]at this;exact this
def ZrH(part:Int)(ae:List Zab):List Int->Pr Unit | []=>.ret ()|i :: r=>(Zpu ⟨6,part,i⟩ ⟨0,ae.getD i.toNat Zab.d,[],[]⟩ false).bind fun _=>ZrH part ae r
def ZwS(part:Int)(aK ae:List Zab):Pr Unit:=(ZrH part ae (wrL aK ae)).bind fun _=>if aK.length=ae.length then .ret ()else Zpu ⟨5,part,0⟩ ⟨(ae.length:Int),ZlO,[],[]⟩ false
theorem ZHr(part:Int)(aK ae:List Zab)(l:List Zah)(hn:ae.length<=1000000):ZjN ⟨l⟩ part aK ae=runT (ZwS part aK ae) l:=by
 unfold ZjN;rw[ZCt aK ae hn,ZaK];have hlen:=ZJB aK ae;have aH:∀(k i f:Nat)(l:List Zah),(wrL aK ae).length-i=k->i<=(wrL aK ae).length->k+1<=f->Zft part aK ae f (wrL aK ae) ((wrL aK ae).length:Int) i ⟨l⟩=runT ((ZrH part ae ((wrL aK ae).drop i)).bind fun _=>if aK.length=ae.length then .ret ()else Zpu ⟨5,part,0⟩ ⟨(ae.length:Int),ZlO,[],[]⟩ false) l:=by
  intro k;induction k with
  |zero=>
   intro i f l hk hi hf;obtain⟨f,rfl⟩ : ∃x,f=x+1:=⟨f-1,by omega⟩;unfold Zft;simp only[Zam];rw[if_neg (by omega),List.drop_of_length_le (by omega)];have e:Zlc part=some ⟨5,part,0⟩:=rfl;simp only[e,Option.bind_some,ZrH,Pr.bind_ret];by_cases hc:aK.length=ae.length
   .have e2:(((aK.length:Nat):Int) != ((ae.length:Nat):Int))=false:=by simp[hc]
    rw[if_pos hc,e2,cond_false];rfl
   .have e2:(((aK.length:Nat):Int) != ((ae.length:Nat):Int))=true:=by
     rw[bne_iff_ne];omega
    rw[if_neg hc,e2,cond_true,Ztd];exact ZuK (p:=Zpu ⟨5,part,0⟩ ⟨(ae.length:Int),ZlO,[],[]⟩ false) (fun _ _=>rfl) (fun _=>rfl)
  |succ k ih=>
   intro i f l hk hi hf;obtain⟨f,rfl⟩ : ∃x,f=x+1:=⟨f-1,by omega⟩;unfold Zft;simp only[Zam];have e1:ZaA (i:Int) 1=((i+1:Nat):Int):=add1 (n:=i+1) (by omega) (by simp only[maxLen];omega);have hm:=ZJA (Zeu (wrL aK ae) (0:Int) i (by omega));have hm':0<=(wrL aK ae).getD ((i:Int)).toNat (0:Int)/\(wrL aK ae).getD ((i:Int)).toNat (0:Int)<(ae.length:Int):=by simpa using hm
   have e:∀x,Zlb part x=some ⟨6,part,x⟩:=fun _=>rfl;rw[if_pos (by omega),Zax (by omega)];simp only[e,Option.bind_some];rw[Zax hm',ZdK (wrL aK ae) (0:Int) i (by omega)];simp only[ZrH,Pr.bind_assoc,Int.toNat_natCast,Ztd];refine ZbS (fun x a ha h=>?_) (fun o=>rfl);dsimp only;rw[e1];exact ih (i+1) f _ (by omega) (by omega) (by omega)
 have:=aH (wrL aK ae).length 0 ((((wrL aK ae).length:Int)-(0:Int)).toNat+2) l (by omega) (by omega) (by omega);rw[List.drop_zero]at this;exact this
def Zys(k dx:Int)(af:Bool):Nat->Pr Unit|0=>.no|n+1=>(ZjW ⟨k,0,0⟩).bind fun v=>(ZJF k v.fN (ZaA v.fN dx) af).bind fun b=>bif b then .ret ()else Zys k dx af n
theorem ZCv(k dx:Int)(af:Bool):∀(f:Nat)(l:List Zah),Zhc dx af f ⟨l⟩ ⟨k,0,0⟩=runT (Zys k dx af f) l:=by
 intro f;induction f with
 |zero=>intro l;rfl
 |succ f ih=>
  intro l;unfold Zhc;rw[Zme];refine ZbS (fun x a ha h=>?_) (fun o=>rfl);dsimp only;rw[ZIS];refine ZbS (fun b a ha h=>?_) (fun o=>rfl);dsimp only;cases b with
  |true=>rfl
  |false=>exact ih _
theorem ZDI(k dx:Int)(af:Bool)(l:List Zah):Zld ⟨l⟩ k dx af=runT (Zys k dx af 1000000) l:=by
 unfold Zld;exact ZCv k dx af 1000000 l
def ZzW:Nat->Nat->Pr Unit|_,0=>.ret ()|i,k+1=>(keyP 1 (2+(i:Int)) false).bind fun _=>ZzW (i+1) k
def ZqV(p:Int):Pr Unit:=ZzW 0 (ZaT p)
theorem ZKL{i:Nat}(h:i<=1000):ZaA 2 (i:Int)=2+(i:Int):=Zeo (by omega) (by omega)
theorem ZCw(p:Int)(l:List Zah):Zjh ⟨l⟩ p=runT (ZqV p) l:=by
 have h8:=(ZgD p).2;unfold Zjh;rw[ZtN,ZaK];have aH:∀(k i f:Nat)(l:List Zah),ZaT p-i=k->i<=ZaT p->k+1<=f->Zei f (ZaT p:Int) i ⟨l⟩=runT (ZzW i k) l:=by
  intro k;induction k with
  |zero=>
   intro i f l hk hi hf;obtain⟨f,rfl⟩ : ∃x,f=x+1:=⟨f-1,by omega⟩;unfold Zei;simp only[Zam];rw[if_neg (by omega)];rfl
  |succ k ih=>
   intro i f l hk hi hf;obtain⟨f,rfl⟩ : ∃x,f=x+1:=⟨f-1,by omega⟩;unfold Zei;simp only[Zam];have e1:ZaA (i:Int) 1=((i+1:Nat):Int):=add1 (n:=i+1) (by omega) (by simp only[maxLen];omega);rw[if_pos (by omega),ZKL (by omega),Ztf];refine ZbS (fun x a ha h=>?_) (fun o=>rfl);dsimp only;rw[e1];exact ih (i+1) f _ (by omega) (by omega) (by omega)
 exact aH (ZaT p) 0 _ l (by omega) (by omega) (by omega)
def Zxv(af:Bool)(m:Nat):Nat->Pr Unit|0=>.ret ()|n+1=>(keyP 3 (2+(n:Int)) (af&&decide (n+1=m))).bind fun _=>Zxv af m n
def Zux(p:Int)(af:Bool):Pr Unit:=Zxv af (ZaT p) (ZaT p)
theorem ZCx(p:Int)(af:Bool)(l:List Zah):Zji ⟨l⟩ p af=runT (Zux p af) l:=by
 have h8:=ZgD p;unfold Zji;rw[ZtN,ZaK];obtain⟨c,hc⟩ : ∃c:Nat,ZaT p=c+1:=⟨ZaT p-1,by omega⟩;have aH:∀(n f:Nat)(l:List Zah),n<=ZaT p->n+1<=f->Zdd p af f ((n:Int)-1) ⟨l⟩=runT (Zxv af (ZaT p) n) l:=by
  intro n;induction n with
  |zero=>
   intro f l hn hf;obtain⟨f,rfl⟩ : ∃x,f=x+1:=⟨f-1,by omega⟩;unfold Zdd;simp only[Zam];rw[if_neg (by omega)];rfl
  |succ n ih=>
   intro f l hn hf;obtain⟨f,rfl⟩ : ∃x,f=x+1:=⟨f-1,by omega⟩;unfold Zdd;simp only[Zam];have e0:(((n+1:Nat):Int)-1)=(n:Int):=by omega
   have e1:ZbT (n:Int) 1=((n:Int)-1):=by
    cases n with
    |zero=>exact sub0
    |succ n=>rw[ZFq (by omega)];omega
   rw[e0,if_pos (by omega),ZKL (by omega),ZtN];simp only[ZaK,e1];have hm:∀m:Bool,m=(af&&decide (n+1=ZaT p))->((Zdb ⟨l⟩ (2+(n:Int)) m).bind fun x3=>match x3 with
      | .ret x3v x3g=>Zdd p af f ((n:Int)-1) x3g
      | .pan x3o=>some (Tout.pan x3o)
      | .bad x3s=>some (Tout.bad x3s))=runT (Zxv af (ZaT p) (n+1)) l:=by
    rintro m rfl;rw[Zrd];refine ZbS (fun x a ha h=>?_) (fun o=>rfl);exact ih f _ (by omega) (by omega)
   cases af with
   |true=>
    simp only[cond_true];refine hm _ ?_;rw[hc,ZFq (by omega)];by_cases h:n=c
    .subst h;simp
    .have h2:((n:Int)==(c:Int))=false:=beq_false_of_ne (by omega);simp[h,h2]
   |false=>
    simp only[cond_false];exact hm _ rfl
 have e:ZbT (ZaT p:Int) 1=(ZaT p:Int)-1:=by rw[hc,ZFq (by omega)];omega
 rw[e];exact aH (ZaT p) _ l (Nat.le_refl _) (by omega)
def gv0(v:Zah):Prop:=v.ok/\v.fBans.length<=800/\v.fBook.length<=800
def mkd(o:ZaJ)(v:Zah):Nat:=if o.fMark=true/\(o.fKind≠7\/v.fN=1)then 1 else 0
inductive Ex {α:Type}:Pr α->ZaC->α->ZaC->Nat->Nat->Prop
 |ret (x:α) (m:ZaC) (s:Nat):Ex (.ret x) m x m s 0
 |ask {o:ZaJ} {k:Zah->Pr α} {m m':ZaC} {v:Zah} {x:α} {dw:ZaC} {s c:Nat} (h1:Zbd m (opN o)=some true) (h2:ZaS m (opN o) 0=some (m',v)) (h3:gv0 v) (h4:Ex (k v) m' x dw s c):Ex (.ask o k) m x dw (s+1) (mkd (opN o) v+c)
theorem Ex.more{α:Type}{p:Pr α}{m:ZaC}{x:α}{m':ZaC}{s c:Nat}(h:Ex p m x m' s c):∀{t:Nat},s<=t->Ex p m x m' t c:=by
 induction h with
 |ret x m s=>exact fun _=>.ret x m _
 |ask h1 h2 h3 h4 ih=>
  intro t ht;obtain⟨t,rfl⟩ : ∃u,t=u+1:=⟨t-1,by omega⟩;exact .ask h1 h2 h3 (ih (by omega))
theorem Ex.bind{α β:Type}{p:Pr α}{m:ZaC}{x:α}{m1:ZaC}{s1 c1:Nat}(h:Ex p m x m1 s1 c1){f:α->Pr β}{y:β}{m2:ZaC}{s2 c2:Nat}:Ex (f x) m1 y m2 s2 c2->Ex (p.bind f) m y m2 (s1+s2) (c1+c2):=by
 induction h with
 |ret x m s=>intro h2;rw[Nat.zero_add];exact h2.more (by omega)
 |ask h1 h2 h3 h4 ih=>
  rename_i o k m m' v x dw s c;intro hf;have h5:=Ex.ask (k:=fun v=>(k v).bind f) h1 h2 h3 (ih hf);have e1:s+1+s2=s+s2+1:=by omega
  have e2:mkd (opN o) v+c+c2=mkd (opN o) v+(c+c2):=by omega
  rw[e1,e2];exact h5
theorem Ex.seq{α β:Type}{p:Pr α}{m:ZaC}{x:α}{m1:ZaC}{s1 c1:Nat}(h:Ex p m x m1 s1 c1){f:α->Pr β}{y:β}{m2:ZaC}{s2 c2 s c:Nat}(h2:Ex (f x) m1 y m2 s2 c2)(hs:s1+s2<=s)(hc:c1+c2=c):Ex (p.bind f) m y m2 s c:=by
 subst hc;exact(h.bind h2).more hs
def Rs{α:Type}(p:Pr α)(aO:List Zah)(r:Pr α):Prop:=∀l,runT p (aO++l)=runT r l
theorem Rs.nil{α:Type}(p:Pr α):Rs p [] p:=fun _=>rfl
theorem Rs.step{α:Type}{p:Pr α}{aO:List Zah}{o:ZaJ}{k:Zah->Pr α}(h:Rs p aO (.ask o k))(v:Zah):Rs p (aO++[v]) (k v):=fun l=>by
 have:=h (v :: l)
 simpa[runT]using this
theorem ZIh{α:Type}{p:Pr α}{c0:Nat->Int->Int->List Zah->ZaC->Option Bool}{F:Int->α->ZaC->Option Bool}
  (ma:∀fu (mk i:Nat) aO m x g,i<400->aO.length<=400->(∀v∈aO,gv0 v)->runT p aO=some (.ret x g)->c0 (fu+1) (mk:Int) (i:Int) aO m=F (mk:Int) x m)
  (mc:∀fu (mk i:Nat) aO m q m' v,i<400->aO.length<=400->mk<=400->(∀v∈aO,gv0 v)->runT p aO=some (.pan q)->Zbd m q=some true->ZaS m q 0=some (m',v) ->
   c0 (fu+1) (mk:Int) (i:Int) aO m=c0 fu ((mk+mkd q v:Nat):Int) ((i+1:Nat):Int) (aO++[v]) m')
  {r:Pr α} {m:ZaC} {x:α} {m':ZaC} {s c:Nat} (h:Ex r m x m' s c):∀(fu mk i:Nat)(aO:List Zah),Rs p aO r->(∀v∈aO,gv0 v)->aO.length=i->mk<=i->i+s<400->s+1<=fu->c0 fu (mk:Int) (i:Int) aO m=F ((mk+c:Nat):Int) x m':=by
 induction h with
 |ret x m s=>
  intro fu mk i aO hr hg hl jk hi hf;obtain⟨fu,rfl⟩ : ∃u,fu=u+1:=⟨fu-1,by omega⟩;have h0:=hr [];rw[List.append_nil]at h0;exact ma fu mk i aO m x _ (by omega) (by omega) hg (by rw[h0];rfl)
 |ask h1 h2 h3 h4 ih=>
  rename_i o k m m' v x dw s c;intro fu mk i aO hr hg hl jk hi hf;obtain⟨fu,rfl⟩ : ∃u,fu=u+1:=⟨fu-1,by omega⟩;have h0:=hr [];rw[List.append_nil]at h0;rw[mc fu mk i aO m (opN o) m' v (by omega) (by omega) (by omega) hg (by rw[h0];rfl) h1 h2,<-Nat.add_assoc];have kD:mkd (opN o) v<=1:=by unfold mkd;split<;>omega
  exact ih fu _ (i+1) (aO++[v]) (hr.step v) (fun u hu=>by rcases List.mem_append.1 hu with hu|hu;exact hg u hu;rw[List.mem_singleton.1 hu];exact h3) (by simp;omega) (by omega) (by omega) (by omega)
def lks(n:Nat)(f:Nat->Zat):List Zat:=(List.range (n+2)).map f
def updL(f:Nat->Zat)(k:Nat)(l:Zat):Nat->Zat:=fun j=>if j=k then l else f j
theorem Zvn(n:Nat)(f:Nat->Zat):(lks n f).length=n+2:=by simp[lks]
theorem ZBE{n:Nat}(f:Nat->Zat){k:Nat}(hk:k<n+2):(lks n f).getD k Zat.d=f k:=by
 simp[lks,List.getD_eq_getElem?_getD,hk]
theorem ZKf{n:Nat}(f:Nat->Zat){k:Nat}(hk:k<n+2)(l:Zat):(lks n f).set k l=lks n (updL f k l):=by
 apply List.ext_getElem
 .simp[lks]
 .intro i h1 h2;simp only[lks,List.length_set,List.length_map,List.length_range]at h1;simp only[lks,List.getElem_set,List.getElem_map,List.getElem_range,updL];by_cases h:k=i
  .subst h;simp
  .rw[if_neg h,if_neg (fun e=>h e.symm)]
theorem ZFo(f:Nat->Zat)(k:Nat)(l:Zat):updL f k l k=l:=if_pos rfl
theorem ZxP(f:Nat->Zat){k j:Nat}(l:Zat)(h:j≠k):updL f k l j=f j:=if_neg h
theorem ZFp(f:Nat->Zat)(k:Nat)(a:Zat):updL (updL f k a) k (f k)=f:=by
 funext j;unfold updL;split
 .rename_i e;rw[e]
 .rfl
def memM(ah out:Int)(bans:List Zaf)(book:List Zaa)(sh:List Zad)(n:Nat)(f:Nat->Zat):ZaC:=⟨ah,out,bans,book,sh,lks n f⟩
def ZhK:Zat:=⟨0,[]⟩
def ZlY:Zat:=⟨1,[]⟩
section
variable {ah out:Int} {bans:List Zaf} {book:List Zaa} {sh:List Zad} {n:Nat} {f:Nat->Zat} (aS:1<=n) (aP:n<=8) (az:sh.length = n)
include aS aP az
omit aS aP az in
theorem Zpv{k:Nat}(hk:k<n+2)(m:ZaC)(hm:m.fLocks=lks n f):ZbA m (k:Int)=some (f k):=by
 unfold ZbA;rw[hm,Zvn,Zam,if_neg (by omega),Zam,if_neg (by omega),Zax (by omega),Int.toNat_natCast,ZBE f hk]
omit az in
theorem ZtS{k:Nat}(hk:k<n+2)(kd:Int)(dX:kd=1\/kd=3)(l:Zay)(a b:Int)(v:Zah)(af:Bool):Zbf ⟨kd,(k:Int),l,a,b,v,af⟩ (n:Int)=some true:=by
 have e:ZaA (n:Int) 1=(n:Int)+1:=Zeo (by omega) (by omega);unfold Zbf ZbN;rw[Zam,if_neg (by omega),Zam,if_neg (by omega),ZcM];dsimp only;rcases dX with rfl|rfl
 .rw[if_pos rfl,e];simp only[show ((1:Int)==1)=true from rfl,cond_true,Zam];rw[if_pos (by omega),decide_eq_true (by omega)]
 .rw[if_neg (by decide),e];simp only[show ((3:Int)==3)=true from rfl,cond_true,Zam];rw[if_pos (by omega),decide_eq_true (by omega)]
omit az in
theorem Zya(kd:Int)(dX:kd=2\/kd=4)(l:Zay)(a b:Int)(v:Zah)(af:Bool):Zbf ⟨kd,0,l,a,b,v,af⟩ (n:Int)=some true:=by
 unfold Zbf ZbN ZbX;rw[Zam,if_neg (by omega),Zam,if_neg (by omega),ZcM];dsimp only;rcases dX with rfl|rfl
 .rw[if_neg (by decide)];rfl
 .rw[if_neg (by decide)];rfl
theorem ZCW{kd:Int}(dX:kd=1){k:Nat}(hk:k<n+2)(hf:f k=ZhK)(af:Bool):Zbd (memM ah out bans book sh n f) ⟨kd,(k:Int),locZ,0,0,valZ,af⟩=some true:=by
 subst dX;have hl:(((memM ah out bans book sh n f).fShards.length:Nat):Int)=(n:Int):=by rw[show (memM ah out bans book sh n f).fShards=sh from rfl,az]
 unfold Zbd;rw[hl,ZtS aS aP hk 1 (.inl rfl),ZaK,Zpv hk _ rfl,ZaK,hf];rfl
theorem ZCX{kd:Int}(dX:kd=3){k:Nat}(hk:k<n+2)(af:Bool):Zbd (memM ah out bans book sh n f) ⟨kd,(k:Int),locZ,0,0,valZ,af⟩=some true:=by
 subst dX;have hl:(((memM ah out bans book sh n f).fShards.length:Nat):Int)=(n:Int):=by rw[show (memM ah out bans book sh n f).fShards=sh from rfl,az]
 unfold Zbd;rw[hl,ZtS aS aP hk 3 (.inr rfl),ZaK,Zpv hk _ rfl,ZaK];rfl
theorem Zsq{kd:Int}(dX:kd=2\/kd=4)(hf:kd=2->(f 0).fBy=0)(af:Bool):Zbd (memM ah out bans book sh n f) ⟨kd,0,locZ,0,0,valZ,af⟩=some true:=by
 have hl:(((memM ah out bans book sh n f).fShards.length:Nat):Int)=(n:Int):=by rw[show (memM ah out bans book sh n f).fShards=sh from rfl,az]
 have h0:ZbA (memM ah out bans book sh n f) 0=some (f 0):=Zpv (k:=0) (by omega) _ rfl;unfold Zbd;rw[hl,Zya aS aP kd dX,ZaK,h0,ZaK];rcases dX with rfl|rfl
 .rw[hf rfl];rfl
 .rfl
omit aS aP az in
theorem ZCA{k:Nat}(hk:k<n+2)(hn:n<=8)(m:ZaC)(hm:m.fLocks=lks n f)(l:Zat):Zcj m (k:Int) l=some { m with fLocks:=lks n (updL f k l) }:=by
 unfold Zcj;rw[List.nil_append,hm,Zvn,Zam,if_pos (by omega),Zam,if_pos (by omega),Zax ⟨by omega,by unfold maxLen;omega⟩,Zax (by omega),Int.toNat_natCast,ZKf f hk]
theorem ZKt{k:Nat}(hk:k<n+2)(hf:f k=ZhK)(af:Bool):ZaS (memM ah out bans book sh n f) ⟨1,(k:Int),locZ,0,0,valZ,af⟩ 0=some (memM ah out bans book sh n (updL f k ZlY),valZ):=by
 have e:ZaA (0:Int) 1=1:=rfl;unfold ZaS;rw[ZCW aS aP az rfl hk hf,ZaK,Bool.not_true,cond_false];dsimp only;rw[Zpv hk _ rfl,ZaK,ZcM,if_pos rfl,hf,e,ZCA hk aP _ rfl,ZaK];rfl
theorem ZKv{k:Nat}(hk:k<n+2)(sr:List Int)(hf:f k=⟨1,sr⟩)(af:Bool):ZaS (memM ah out bans book sh n f) ⟨3,(k:Int),locZ,0,0,valZ,af⟩ 0=some (memM ah out bans book sh n (updL f k ⟨0,sr⟩),valZ):=by
 have e:ZaA (0:Int) 1=1:=rfl;unfold ZaS;rw[ZCX aS aP az rfl hk,ZaK,Bool.not_true,cond_false];dsimp only;rw[Zpv hk _ rfl,ZaK,ZcM,if_neg (by decide),ZcM,if_neg (by decide),ZcM,if_pos rfl,hf,e];simp only[show ((1:Int)==1)=true from rfl,cond_true];rw[ZCA hk aP _ rfl,ZaK];rfl
theorem ZIz(hf:f 0=ZhK)(af:Bool):ZaS (memM ah out bans book sh n f) ⟨2,0,locZ,0,0,valZ,af⟩ 0=some (memM ah out bans book sh n (updL f 0 ⟨0,[0]⟩),valZ):=by
 have h0:ZbA (memM ah out bans book sh n f) 0=some (f 0):=Zpv (k:=0) (by omega) _ rfl;have hr:Zfu [] 0=some [0]:=by decide +kernel
 have hw:=ZCA (f:=f) (n:=n) (k:=0) (by omega) aP (memM ah out bans book sh n f) rfl ⟨0,[0]⟩;unfold ZaS;rw[Zsq aS aP az (.inl rfl) (fun _=>by rw[hf];rfl),ZaK,Bool.not_true,cond_false];dsimp only;rw[h0,ZaK,ZcM,if_neg (by decide),ZcM,if_pos rfl,hf];simp only[ZhK,hr,ZaK];have iN:Zcj (memM ah out bans book sh n f) 0 ⟨0,[0]⟩=some { memM ah out bans book sh n f with fLocks:=lks n (updL f 0 ⟨0,[0]⟩) }:=hw;rw[iN];rfl
theorem ZKw(hf:f 0=⟨0,[0]⟩)(af:Bool):ZaS (memM ah out bans book sh n f) ⟨4,0,locZ,0,0,valZ,af⟩ 0=some (memM ah out bans book sh n (updL f 0 ZhK),valZ):=by
 have h0:ZbA (memM ah out bans book sh n f) 0=some (f 0):=Zpv (k:=0) (by omega) _ rfl;have hr:ZeR [0] 0=some []:=by decide +kernel
 have hw:=ZCA (f:=f) (n:=n) (k:=0) (by omega) aP (memM ah out bans book sh n f) rfl ZhK;unfold ZaS;rw[Zsq aS aP az (.inr rfl) (fun h=>by cases h),ZaK,Bool.not_true,cond_false];dsimp only;rw[h0,ZaK,ZcM,if_neg (by decide),ZcM,if_neg (by decide),ZcM,if_neg (by decide),ZcM,if_pos rfl,hf];simp only[hr,ZaK];have iN:Zcj (memM ah out bans book sh n f) 0 ⟨0,[]⟩=some { memM ah out bans book sh n f with fLocks:=lks n (updL f 0 ZhK) }:=hw;rw[iN];rfl
end
theorem Zvg{n:Int}(h1 : -9223372036854775808<=n)(h2:n<=9223372036854775807):okI .i64 n:=by
 simp only[okI,Lit.wf,IntKind.min,IntKind.max,IntKind.bits,IntKind.signed];simp;omega
theorem okZ:okI .i64 0:=by rfl
theorem Zsz:gv0 valZ:=by
 refine⟨?_,by simp[valZ],by simp[valZ]⟩;refine⟨okZ,?_,⟨by simp[valZ,maxLen],by simp[valZ]⟩,⟨by simp[valZ,maxLen],by simp[valZ]⟩,trivial⟩;exact⟨⟨⟨trivial,rfl,rfl,trivial⟩,okZ,trivial⟩,trivial,okZ,⟨okZ,okZ,trivial⟩,okZ,okZ,trivial⟩
def bn(b:Bool):Nat:=if b=true then 1 else 0
theorem Zvl(kd k:Int)(dX:kd≠7)(af:Bool)(v:Zah):mkd ⟨kd,k,locZ,0,0,valZ,af⟩ v=bn af:=by
 unfold mkd bn;cases af<;>simp[dX]
section
variable {ah out:Int} {bans:List Zaf} {book:List Zaa} {sh:List Zad} {n:Nat} {f:Nat->Zat} (aS:1<=n) (aP:n<=8) (az:sh.length = n)
include aS aP az
theorem Zwr{k:Nat}(hk:k<n+2)(hf:f k=ZhK)(af:Bool):Ex (keyP 1 (k:Int) af) (memM ah out bans book sh n f) () (memM ah out bans book sh n (updL f k ZlY)) 1 (bn af):=by
 have:=Ex.ask (o:=⟨1,(k:Int),locZ,0,0,valZ,af⟩) (k:=fun _=>.ret ()) (ZCW (ah:=ah) (out:=out) (bans:=bans) (book:=book) aS aP az rfl hk hf af) (ZKt aS aP az hk hf af) Zsz (.ret () _ 0);rw[show opN ⟨1,(k:Int),locZ,0,0,valZ,af⟩=⟨1,(k:Int),locZ,0,0,valZ,af⟩from rfl,Zvl 1 _ (by decide)]at this;exact this
theorem ZHA{k:Nat}(hk:k<n+2)(sr:List Int)(hf:f k=⟨1,sr⟩)(af:Bool):Ex (keyP 3 (k:Int) af) (memM ah out bans book sh n f) () (memM ah out bans book sh n (updL f k ⟨0,sr⟩)) 1 (bn af):=by
 have:=Ex.ask (o:=⟨3,(k:Int),locZ,0,0,valZ,af⟩) (k:=fun _=>.ret ()) (ZCX (ah:=ah) (out:=out) (bans:=bans) (book:=book) (f:=f) aS aP az rfl hk af) (ZKv aS aP az hk sr hf af) Zsz (.ret () _ 0);rw[show opN ⟨3,(k:Int),locZ,0,0,valZ,af⟩=⟨3,(k:Int),locZ,0,0,valZ,af⟩from rfl,Zvl 3 _ (by decide)]at this;exact this
theorem ZDJ(hf:f 0=ZhK)(af:Bool):Ex (keyP 2 0 af) (memM ah out bans book sh n f) () (memM ah out bans book sh n (updL f 0 ⟨0,[0]⟩)) 1 (bn af):=by
 have:=Ex.ask (o:=⟨2,0,locZ,0,0,valZ,af⟩) (k:=fun _=>.ret ()) (Zsq (ah:=ah) (out:=out) (bans:=bans) (book:=book) (f:=f) aS aP az (.inl rfl) (fun _=>by rw[hf];rfl) af) (ZIz aS aP az hf af) Zsz (.ret () _ 0);rw[show opN ⟨2,0,locZ,0,0,valZ,af⟩=⟨2,0,locZ,0,0,valZ,af⟩from rfl,Zvl 2 _ (by decide)]at this;exact this
theorem ZHB(hf:f 0=⟨0,[0]⟩)(af:Bool):Ex (keyP 4 0 af) (memM ah out bans book sh n f) () (memM ah out bans book sh n (updL f 0 ZhK)) 1 (bn af):=by
 have:=Ex.ask (o:=⟨4,0,locZ,0,0,valZ,af⟩) (k:=fun _=>.ret ()) (Zsq (ah:=ah) (out:=out) (bans:=bans) (book:=book) (f:=f) aS aP az (.inr rfl) (fun h=>by cases h) af) (ZKw aS aP az hf af) Zsz (.ret () _ 0);rw[show opN ⟨4,0,locZ,0,0,valZ,af⟩=⟨4,0,locZ,0,0,valZ,af⟩from rfl,Zvl 4 _ (by decide)]at this;exact this
omit az in
theorem Zzv(k:Int)(af:Bool):Zbf ⟨8,k,locZ,0,0,valZ,af⟩ (n:Int)=some true:=by
 unfold Zbf ZbN ZbX;rw[Zam,if_neg (by omega),Zam,if_neg (by omega)];rfl
theorem ZKF(af:Bool):Ex (keyP 8 0 af) (memM ah out bans book sh n f) () (memM ah out bans book sh n f) 1 (bn af):=by
 have hl:(((memM ah out bans book sh n f).fShards.length:Nat):Int)=(n:Int):=by rw[show (memM ah out bans book sh n f).fShards=sh from rfl,az]
 have h0:ZbA (memM ah out bans book sh n f) 0=some (f 0):=Zpv (k:=0) (by omega) _ rfl;have hm:Zbd (memM ah out bans book sh n f) ⟨8,0,locZ,0,0,valZ,af⟩=some true:=by
  unfold Zbd;rw[hl,Zzv aS aP,ZaK,h0,ZaK];rfl
 have hd:ZaS (memM ah out bans book sh n f) ⟨8,0,locZ,0,0,valZ,af⟩ 0=some (memM ah out bans book sh n f,valZ):=by
  unfold ZaS;rw[hm,ZaK,Bool.not_true,cond_false];dsimp only;rw[h0,ZaK];rfl
 have:=Ex.ask (o:=⟨8,0,locZ,0,0,valZ,af⟩) (k:=fun _=>.ret ()) hm hd Zsz (.ret () _ 0);rw[show opN ⟨8,0,locZ,0,0,valZ,af⟩=⟨8,0,locZ,0,0,valZ,af⟩from rfl,Zvl 8 _ (by decide)]at this;exact this
end
theorem Ztm{n:Nat}(aS:1<=n)(aP:n<=8)(l:Zay)(h1:1<=l.fKind)(h6:l.fKind<=6)(hs:5<=l.fKind->0<=l.fShard/\l.fShard<(n:Int))(ht:6<=l.fKind->0<=l.fSlot):ZbD l (n:Int)=some true:=by
 unfold ZbD;rw[Zam,if_neg (by omega),Zam,if_neg (by omega),Zam,if_neg (by omega),Zam,if_neg (by omega),Zam];by_cases h5:l.fKind<5
 .rw[if_pos h5,Zam,if_pos (by omega)]
 .have:=hs (by omega);rw[if_neg h5,Zam,if_pos (by omega),Zam,if_pos (by omega),Zam];by_cases h6':l.fKind<6
  .rw[if_pos h6']
  .rw[if_neg h6',decide_eq_true (ht (by omega))]
theorem ZJk{n:Nat}(aS:1<=n)(aP:n<=8){i:Nat}(hi:i<n):ZbD ⟨5,(i:Int),0⟩ (n:Int)=some true:=
 Ztm aS aP _ (show (1:Int)<=5 by decide) (show (5:Int)<=6 by decide) (fun _=>⟨Int.natCast_nonneg _,by show (i:Int)<n;omega⟩) (fun h=>absurd h (show ¬(6:Int)<=5 by decide))
theorem ZJj{n:Nat}(aS:1<=n)(aP:n<=8){i:Nat}(hi:i<n)(j:Nat):ZbD ⟨6,(i:Int),(j:Int)⟩ (n:Int)=some true:=
 Ztm aS aP _ (show (1:Int)<=6 by decide) (show (6:Int)<=6 by decide) (fun _=>⟨Int.natCast_nonneg _,by show (i:Int)<n;omega⟩) (fun _=>Int.natCast_nonneg _)
section
variable {ah out:Int} {bans:List Zaf} {book:List Zaa} {sh:List Zad} {n:Nat} {f:Nat->Zat} (aS:1<=n) (aP:n<=8) (az:sh.length = n)
include aS aP az
theorem Zvm{o:ZaJ}(hr:Zbf o (n:Int)=some true)(h0:o.fLock=0)(h1:o.fKind≠1)(h2:o.fKind≠2):Zbd (memM ah out bans book sh n f) o=some true:=by
 have hl:(((memM ah out bans book sh n f).fShards.length:Nat):Int)=(n:Int):=by rw[show (memM ah out bans book sh n f).fShards=sh from rfl,az]
 have hk:ZbA (memM ah out bans book sh n f) 0=some (f 0):=Zpv (k:=0) (by omega) _ rfl;have e1:(o.fKind != 1)=true:=by rw[bne_iff_ne];exact h1
 have e2:(o.fKind != 2)=true:=by rw[bne_iff_ne];exact h2
 unfold Zbd;rw[hl,hr,ZaK,Bool.not_true,cond_false,h0,hk,ZaK,e1,cond_true,e2,cond_true]
theorem ZKu{l:Zay}(hp:ZbD l (n:Int)=some true){v:Zah}(hL:Zdy (memM ah out bans book sh n f) l=some v) :
  Zbd (memM ah out bans book sh n f) ⟨5,0,l,0,0,valZ,false⟩=some true/\ZaS (memM ah out bans book sh n f) ⟨5,0,l,0,0,valZ,false⟩ 0=some (memM ah out bans book sh n f,v):=by
 have hr:Zbf ⟨5,0,l,0,0,valZ,false⟩ (n:Int)=some true:=by
  unfold Zbf ZbN ZbX;rw[Zam,if_neg (by omega),Zam,if_neg (by omega)];show (ZbD l (n:Int)).bind (fun x1=>some x1)=some true;rw[hp];rfl
 have hm:=Zvm (ah:=ah) (out:=out) (bans:=bans) (book:=book) (f:=f) aS aP az hr rfl (by show (5:Int)≠1;decide) (by show (5:Int)≠2;decide);have hk:ZbA (memM ah out bans book sh n f) 0=some (f 0):=Zpv (k:=0) (by omega) _ rfl;refine⟨hm,?_⟩;unfold ZaS;rw[hm,ZaK,Bool.not_true,cond_false];dsimp only;rw[hk,ZaK];show ((Zdy (memM ah out bans book sh n f) l).bind fun lX=>some (memM ah out bans book sh n f,lX))=_;rw[hL];rfl
theorem Zwt{l:Zay}(hl:locN l=l)(hp:ZbD l (n:Int)=some true){v:Zah}(hL:Zdy (memM ah out bans book sh n f) l=some v)(hg:gv0 v):Ex (ZjW l) (memM ah out bans book sh n f) v (memM ah out bans book sh n f) 1 0:=by
 obtain⟨h1,h2⟩:=ZKu aS aP az hp hL;have e:opN ⟨5,0,l,0,0,valZ,false⟩=⟨5,0,l,0,0,valZ,false⟩:=by
  show (⟨5,0,locN l,0,0,valZ,false⟩ : ZaJ)=_;rw[hl]
 have:=Ex.ask (o:=⟨5,0,l,0,0,valZ,false⟩) (k:=.ret) (by rw[e];exact h1) (by rw[e];exact h2) hg (.ret v _ 0);have hm:mkd (opN ⟨5,0,l,0,0,valZ,false⟩) v=0:=by rw[e];simp[mkd]
 rw[hm]at this;exact this
theorem ZDM(k:Int)(hk:k=1\/k=2)(hi:okI .i64 (if k=1 then ah else out)):Ex (ZjW ⟨k,0,0⟩) (memM ah out bans book sh n f) ⟨if k=1 then ah else out,ZlO,[],[]⟩ (memM ah out bans book sh n f) 1 0:=by
 refine Zwt aS aP az (by rcases hk with rfl|rfl<;>rfl) (Ztm aS aP _ (by show 1<=k;omega) (by show k<=6;omega) (fun h=>by have:5<=k:=h;omega) (fun h=>by have:6<=k:=h;omega)) ?_ ⟨⟨hi,Zsz.1.2⟩,by simp,by simp⟩;rcases hk with rfl|rfl<;>rfl
theorem Zws(h1:bans.length<=800)(h2:∀b∈bans,b.ok):Ex (ZjW ⟨3,0,0⟩) (memM ah out bans book sh n f) ⟨0,ZlO,bans,[]⟩ (memM ah out bans book sh n f) 1 0:=by
 refine Zwt aS aP az rfl (Ztm aS aP _ (by decide) (by decide) (fun h=>absurd h (by decide)) (fun h=>absurd h (by decide))) rfl ⟨⟨okZ,Zsz.1.2.1,⟨by show bans.length<=maxLen;unfold maxLen;omega,h2⟩,Zsz.1.2.2.2⟩,h1,by simp⟩
theorem Zsa(h1:book.length<=800)(h2:∀b∈book,b.ok):Ex (ZjW ⟨4,0,0⟩) (memM ah out bans book sh n f) ⟨0,ZlO,[],book⟩ (memM ah out bans book sh n f) 1 0:=by
 refine Zwt aS aP az rfl (Ztm aS aP _ (by decide) (by decide) (fun h=>absurd h (by decide)) (fun h=>absurd h (by decide))) rfl ⟨⟨okZ,Zsz.1.2.1,Zsz.1.2.2.1,⟨by show book.length<=maxLen;unfold maxLen;omega,h2⟩,trivial⟩,by simp,h1⟩
theorem ZDK{i:Nat}(hi:i<n){l r:List Zab}(hs:sh.getD i Zad.d=⟨(l.length:Int),l++r⟩)(hok:∀p∈l,p.ok):∀(k j:Nat)(w:List Zab),j+k<=l.length ->
  Ex (Zqc (i:Int) k j w) (memM ah out bans book sh n f) (w++(l.drop j).take k) (memM ah out bans book sh n f) k 0
 | 0,j,w,h=>by
  have:w++(l.drop j).take 0=w:=by simp
  rw[this]
  exact .ret _ _ _
 |k+1,j,w,h=>by
  have hj:j<l.length:=by omega
  have hv:Ex (ZjW ⟨6,(i:Int),(j:Int)⟩) (memM ah out bans book sh n f) ⟨0,l.getD j Zab.d,[],[]⟩ (memM ah out bans book sh n f) 1 0:=by
   refine Zwt aS aP az rfl (ZJj aS aP hi j) ?_ ⟨⟨okZ,hok _ (Zeu l _ j hj),Zsz.1.2.2⟩,by simp,by simp⟩;unfold Zdy;show (need (0<=(i:Int)/\(i:Int)<(((memM ah out bans book sh n f).fShards.length:Nat):Int)) _)=_;rw[Zax ⟨Int.natCast_nonneg _,by show (i:Int)<((sh.length:Nat):Int);omega⟩];simp only[Int.toNat_natCast];rw[show (memM ah out bans book sh n f).fShards=sh from rfl];simp only[hs];have hlen:(l++r).length=l.length+r.length:=List.length_append;rw[Zam,if_pos (by omega),Zax ⟨Int.natCast_nonneg _,by omega⟩];have:(l++r).getD j Zab.d=l.getD j Zab.d:=by
    simp[List.getD_eq_getElem?_getD,List.getElem?_append_left hj]
   rw[this]
  have ih:=ZDK hi hs hok k (j+1) (w++[l.getD j Zab.d]) (by omega);have e:w++[l.getD j Zab.d]++(l.drop (j+1)).take k=w++(l.drop j).take (k+1):=by
   rw[ZdK l Zab.d j hj];simp
  rw[e]at ih;unfold Zqc;exact hv.seq ih (by omega) rfl
theorem ZHz{i:Nat}(hi:i<n){l r:List Zab}(hs:sh.getD i Zad.d=⟨(l.length:Int),l++r⟩)(hok:∀p∈l,p.ok)(hl:l.length<=800):Ex (ZtZ (i:Int)) (memM ah out bans book sh n f) l (memM ah out bans book sh n f) (l.length+1) 0:=by
 have hv:Ex (ZjW ⟨5,(i:Int),0⟩) (memM ah out bans book sh n f) ⟨(l.length:Int),ZlO,[],[]⟩ (memM ah out bans book sh n f) 1 0:=by
  refine Zwt aS aP az rfl (ZJk aS aP hi) ?_ ⟨⟨?_,Zsz.1.2⟩,by simp,by simp⟩
  .unfold Zdy;show (need (0<=(i:Int)/\(i:Int)<(((memM ah out bans book sh n f).fShards.length:Nat):Int)) _)=_;rw[Zax ⟨Int.natCast_nonneg _,by show (i:Int)<((sh.length:Nat):Int);omega⟩,Int.toNat_natCast,show (memM ah out bans book sh n f).fShards=sh from rfl,hs];rfl
  .show okI .i64 (l.length:Int);exact Zvg (by omega) (by omega)
 have h2:=ZDK (ah:=ah) (out:=out) (bans:=bans) (book:=book) (f:=f) aS aP az hi hs hok l.length 0 [] (by omega);rw[List.drop_zero,List.take_length,List.nil_append]at h2;unfold ZtZ;exact hv.seq (by simpa using h2) (by omega) rfl
theorem ZyZ{l:Zay}{v:Zah}(hl:locN l=l)(hv:valN l.fKind v=v)(hp:ZbD l (n:Int)=some true)(h2:2<l.fKind){m':ZaC}(hS:Zdk (memM ah out bans book sh n f) l v=some m')(af:Bool):Ex (Zpu l v af) (memM ah out bans book sh n f) () m' 1 (bn af):=by
 have e:opN ⟨6,0,l,0,0,v,af⟩=⟨6,0,l,0,0,v,af⟩:=by
  show (⟨6,0,locN l,0,0,valN l.fKind v,af⟩ : ZaJ)=_;rw[hl,hv]
 have hr:Zbf ⟨6,0,l,0,0,v,af⟩ (n:Int)=some true:=by
  unfold Zbf ZbN ZbX;rw[Zam,if_neg (by omega),Zam,if_neg (by omega)];show ((ZbD l (n:Int)).bind fun x2=>bif x2 then some (decide (l.fKind>2))else some false)=some true;rw[hp,ZaK,cond_true,decide_eq_true h2]
 have hm:=Zvm (ah:=ah) (out:=out) (bans:=bans) (book:=book) (f:=f) aS aP az hr rfl (by show (6:Int)≠1;decide) (by show (6:Int)≠2;decide);have hk:ZbA (memM ah out bans book sh n f) 0=some (f 0):=Zpv (k:=0) (by omega) _ rfl;have hd:ZaS (memM ah out bans book sh n f) ⟨6,0,l,0,0,v,af⟩ 0=some (m',valZ):=by
  unfold ZaS;rw[hm,ZaK,Bool.not_true,cond_false];dsimp only;rw[hk,ZaK];show ((Zdk (memM ah out bans book sh n f) l v).bind fun gS=>some (gS,valZ))=_;rw[hS];rfl
 have:=Ex.ask (o:=⟨6,0,l,0,0,v,af⟩) (k:=fun _=>.ret ()) (by rw[e];exact hm) (by rw[e];exact hd) Zsz (.ret () _ 0);have hm:mkd (opN ⟨6,0,l,0,0,v,af⟩) valZ=bn af:=by rw[e];cases af<;>simp[mkd,bn]
 rw[hm]at this;exact this
theorem ZnA(l:List Zaa)(af:Bool):Ex (Zpu ⟨4,0,0⟩ ⟨0,ZlO,[],l⟩ af) (memM ah out bans book sh n f) () (memM ah out bans l sh n f) 1 (bn af):=
 ZyZ aS aP az rfl rfl (Ztm aS aP _ (by decide) (by decide) (fun h=>absurd h (by decide)) (fun h=>absurd h (by decide))) (by decide) rfl af
omit aS in
theorem Zzk{i:Nat}(hi:i<n){sz:Int}{S:List Zab}(hs:sh.getD i Zad.d=⟨sz,S⟩)(hS:S.length<=10000)(j:Nat)(hj:j<=S.length)(p:Zab) :
  Zdk (memM ah out bans book sh n f) ⟨6,(i:Int),(j:Int)⟩ ⟨0,p,[],[]⟩=some (memM ah out bans book (sh.set i ⟨sz,if j<S.length then S.set j p else S++[p]⟩) n f):=by
 unfold Zdk;simp only[List.nil_append];show (need ((memM ah out bans book sh n f).fShards.length * 32<=140737488355328/\(memM ah out bans book sh n f).fShards.length<=maxLen) _)=_;rw[show (memM ah out bans book sh n f).fShards=sh from rfl];rw[Zax ⟨by omega,by unfold maxLen;omega⟩,Zax ⟨Int.natCast_nonneg _,by omega⟩];show (bif(decide ((j:Int)<_))then _ else _)=_;simp only[Int.toNat_natCast,hs];rw[Zam];by_cases h:j<S.length
 .rw[if_pos (by omega),if_pos h,Zax ⟨by omega,by unfold maxLen;omega⟩,Zax ⟨Int.natCast_nonneg _,by omega⟩];rfl
 .have e:j=S.length:=by omega
  subst e;rw[if_neg (by omega),if_neg h];simp only[beq_self_eq_true,cond_true];rw[Zax ⟨by omega,by unfold maxLen;omega⟩,Zax ⟨by simp;omega,by simp[maxLen];omega⟩];rfl
theorem ZBe{i:Nat}(hi:i<n){sz:Int}{S:List Zab}(hs:sh.getD i Zad.d=⟨sz,S⟩)(hS:S.length<=10000)(j:Nat)(hj:j<=S.length)(p:Zab)(af:Bool) :
  Ex (Zpu ⟨6,(i:Int),(j:Int)⟩ ⟨0,p,[],[]⟩ af) (memM ah out bans book sh n f) () (memM ah out bans book (sh.set i ⟨sz,if j<S.length then S.set j p else S++[p]⟩) n f) 1 (bn af):=
 ZyZ aS aP az rfl rfl (ZJj aS aP hi j) (show (2:Int)<6 by decide) (Zzk aP az hi hs hS j hj p) af
theorem ZBf{i:Nat}(hi:i<n){sz:Int}{S:List Zab}(hs:sh.getD i Zad.d=⟨sz,S⟩)(k:Int)(af:Bool) :
  Ex (Zpu ⟨5,(i:Int),0⟩ ⟨k,ZlO,[],[]⟩ af) (memM ah out bans book sh n f) () (memM ah out bans book (sh.set i ⟨k,S⟩) n f) 1 (bn af):=by
 refine ZyZ aS aP az rfl rfl (ZJk aS aP hi) (show (2:Int)<5 by decide) ?_ af;unfold Zdk;simp only[List.nil_append];show (need ((memM ah out bans book sh n f).fShards.length * 32<=140737488355328/\(memM ah out bans book sh n f).fShards.length<=maxLen) _)=_;rw[show (memM ah out bans book sh n f).fShards=sh from rfl];rw[Zax ⟨by omega,by unfold maxLen;omega⟩,Zax ⟨Int.natCast_nonneg _,by omega⟩];simp only[Int.toNat_natCast,hs];rfl
end
theorem ZxT{α:Type}(l:List α)(d:α){i:Nat}(hi:i<l.length)(x:α):(l.set i x).getD i d=x:=by simp[List.getD_eq_getElem?_getD,hi]
def ZkP(ae S0:List Zab)(j:Nat):List Zab:=ae.take j++S0.drop j
theorem ZwW{ae S0:List Zab}{j:Nat}(hj:j<=ae.length):(ZkP ae S0 j).length=j+(S0.length-j):=by simp[ZkP];omega
theorem ZBl{ae S0:List Zab}{j:Nat}(hj:j<ae.length):(if j<(ZkP ae S0 j).length then(ZkP ae S0 j).set j (ae.getD j Zab.d)else ZkP ae S0 j++[ae.getD j Zab.d])=ZkP ae S0 (j+1):=by
 have hl:=ZwW (S0:=S0) (Nat.le_of_lt hj);have ht:(ae.take j).length=j:=by simp;omega
 have e1:ae.take (j+1)=ae.take j++[ae.getD j Zab.d]:=by rw[List.take_succ_eq_append_getElem hj,Zdw ae _ j hj]
 by_cases h:j<S0.length
 .rw[if_pos (by omega)];unfold ZkP;rw[ZdK S0 Zab.d j h,e1,List.set_append_right _ _ (by omega),ht,Nat.sub_self];simp
 .rw[if_neg (by omega)];unfold ZkP;rw[e1,List.drop_eq_nil_of_le (by omega),List.drop_eq_nil_of_le (by omega)];simp
theorem ZBm{aK r ae:List Zab}{j:Nat}(hj:j<ae.length)(hb:wrB aK ae j=false):ZkP ae (aK++r) j=ZkP ae (aK++r) (j+1):=by
 unfold wrB at hb;simp only[Bool.or_eq_false_iff,decide_eq_false_iff_not,Bool.not_eq_false',decide_eq_true_eq]at hb;obtain⟨h1,h2⟩:=hb;have hw:j<aK.length:=by omega
 have hd:(aK++r).getD j Zab.d=aK.getD j Zab.d:=by simp[List.getD_eq_getElem?_getD,List.getElem?_append_left hw]
 have e1:ae.take (j+1)=ae.take j++[ae.getD j Zab.d]:=by rw[List.take_succ_eq_append_getElem hj,Zdw ae _ j hj]
 unfold ZkP;rw[ZdK (aK++r) Zab.d j (by simp;omega),e1,hd,h2];simp
section
variable {ah out:Int} {bans:List Zaf} {book:List Zaa} {n:Nat} {f:Nat->Zat} (aS:1<=n) (aP:n<=8)
include aS aP
theorem Zwq{i:Nat}(hi:i<n)(aK r ae:List Zab)(hlen:(aK++r).length<=5000)(gu:ae.length<=5000)(sz:Int):∀(k j:Nat)(sh:List Zad),j+k=ae.length->sh.length=n->sh.getD i Zad.d=⟨sz,ZkP ae (aK++r) j⟩ ->
  Ex (ZrH (i:Int) ae (((List.range' j k).filter (wrB aK ae)).map fun(i:Nat)=>(i:Int))) (memM ah out bans book sh n f) () (memM ah out bans book (sh.set i ⟨sz,ZkP ae (aK++r) ae.length⟩) n f) k 0
 | 0,j,sh,hj,az,hs=>by
  have e:j=ae.length:=by omega
  subst e
  have:sh.set i ⟨sz,ZkP ae (aK++r) ae.length⟩=sh:=by
   rw[<-hs];apply List.ext_getElem
   .simp
   .intro q h1 h2;rw[List.getElem_set];split
    .rename_i e;subst e;exact Zdw sh _ i h2
    .rfl
  rw[this];exact .ret _ _ _
 |k+1,j,sh,hj,az,hs=>by
  have kM:j<ae.length:=by omega
  rw[List.range'_succ];cases hb:wrB aK ae j with
  |true=>
   rw[List.filter_cons_of_pos hb,List.map_cons];unfold ZrH;have hS:=ZwW (S0:=aK++r) (Nat.le_of_lt kM);have h1:=ZBe (ah:=ah) (out:=out) (bans:=bans) (book:=book) (f:=f) aS aP az hi hs (by omega) j (by omega) (ae.getD j Zab.d) false;rw[ZBl kM]at h1;have h2:=Zwq hi aK r ae hlen gu sz k (j+1) (sh.set i ⟨sz,ZkP ae (aK++r) (j+1)⟩) (by omega) (by simpa using az) (ZxT sh _ (by omega) _);rw[List.set_set]at h2;have e:ae.getD ((j:Int)).toNat Zab.d=ae.getD j Zab.d:=by rw[Int.toNat_natCast]
   rw[e];exact h1.seq h2 (by omega) rfl
  |false=>
   rw[List.filter_cons_of_neg (by simp[hb])];rw[ZBm kM hb]at hs;exact(Zwq hi aK r ae hlen gu sz k (j+1) sh (by omega) az hs).more (by omega)
theorem ZIX{sh:List Zad}(az:sh.length=n){i:Nat}(hi:i<n)(aK r ae:List Zab)(hlen:(aK++r).length<=5000)(gu:ae.length<=5000)(hs:sh.getD i Zad.d=⟨(aK.length:Int),aK++r⟩) :
  Ex (ZwS (i:Int) aK ae) (memM ah out bans book sh n f) () (memM ah out bans book (sh.set i ⟨(ae.length:Int),ae++(aK++r).drop ae.length⟩) n f) (ae.length+1) 0:=by
 have h1:=Zwq (ah:=ah) (out:=out) (bans:=bans) (book:=book) (f:=f) aS aP hi aK r ae hlen gu (aK.length:Int) ae.length 0 sh (by omega) az (by rw[hs];simp[ZkP]);have e:ZkP ae (aK++r) ae.length=ae++(aK++r).drop ae.length:=by simp[ZkP]
 rw[e]at h1;unfold ZwS wrL;rw[List.range_eq_range'];by_cases h:aK.length=ae.length
 .rw[if_pos h];rw[h]at h1;exact h1.seq (.ret _ _ 0) (by omega) rfl
 .rw[if_neg h];have h2:=ZBf (ah:=ah) (out:=out) (bans:=bans) (book:=book) (f:=f) (sh:=sh.set i ⟨(aK.length:Int),ae++(aK++r).drop ae.length⟩) aS aP (by simpa using az) hi (ZxT sh _ (by omega) _) (ae.length:Int) false;rw[List.set_set]at h2;exact h1.seq h2 (by omega) rfl
theorem ZKE{sh:List Zad}(az:sh.length=n)(k:Int)(hk:k=1\/k=2)(ae:Int)(af:Bool):Ex (ZJF k (if k=1 then ah else out) ae af) (memM ah out bans book sh n f) true (memM (if k=1 then ae else ah) (if k=1 then out else ae) bans book sh n f) 1 (bn af):=by
 have hr:∀old,Zbf ⟨7,0,⟨k,0,0⟩,old,ae,valZ,af⟩ (n:Int)=some true:=fun old=>by
  unfold Zbf ZbN ZbX;rw[Zam,if_neg (by omega),Zam,if_neg (by omega)];rcases hk with rfl|rfl<;>rfl
 have hm:=fun old=>Zvm (ah:=ah) (out:=out) (bans:=bans) (book:=book) (f:=f) aS aP az (hr old) rfl (by show (7:Int)≠1;decide) (by show (7:Int)≠2;decide);have hl:ZbA (memM ah out bans book sh n f) 0=some (f 0):=Zpv (k:=0) (by omega) _ rfl;have hd:ZaS (memM ah out bans book sh n f) ⟨7,0,⟨k,0,0⟩,(if k=1 then ah else out),ae,valZ,af⟩ 0=some (memM (if k=1 then ae else ah) (if k=1 then out else ae) bans book sh n f,⟨1,ZlO,[],[]⟩):=by
  unfold ZaS;rw[hm,ZaK,Bool.not_true,cond_false];dsimp only;rw[hl,ZaK];rcases hk with rfl|rfl
  .show (bif(ah==ah)then _ else _)=_;rw[beq_self_eq_true,cond_true];rfl
  .show (bif(out==out)then _ else _)=_;rw[beq_self_eq_true,cond_true];rfl
 have e:∀old,opN ⟨7,0,⟨k,0,0⟩,old,ae,valZ,af⟩=⟨7,0,⟨k,0,0⟩,old,ae,valZ,af⟩:=fun old=>by rcases hk with rfl|rfl<;>rfl
 have hg1:gv0 ⟨1,ZlO,[],[]⟩:=⟨⟨rfl,Zsz.1.2⟩,Nat.zero_le _,Nat.zero_le _⟩;have:=Ex.ask (o:=⟨7,0,⟨k,0,0⟩,(if k=1 then ah else out),ae,valZ,af⟩) (k:=fun v=>.ret (v.fN==1)) (by rw[e];exact hm _) (by rw[e];exact hd) hg1 (.ret _ _ 0);rw[e]at this;have jk:mkd ⟨7,0,⟨k,0,0⟩,(if k=1 then ah else out),ae,valZ,af⟩ ⟨1,ZlO,[],[]⟩=bn af:=by cases af<;>simp[mkd,bn]
 rw[jk]at this;exact this
theorem ZKG{sh:List Zad}(az:sh.length=n)(k:Int)(hk:k=1\/k=2)(hi:okI .i64 (if k=1 then ah else out))(dx:Int)(af:Bool) :
  Ex (Zys k dx af 1000000) (memM ah out bans book sh n f) () (memM (if k=1 then ZaA ah dx else ah) (if k=1 then out else ZaA out dx) bans book sh n f) 2 (bn af):=by
 unfold Zys;refine(ZDM aS aP az k hk hi).seq (s2:=1) (c2:=bn af) ?_ (by omega) (by omega);dsimp only;have h:=ZKE (ah:=ah) (out:=out) (bans:=bans) (book:=book) (f:=f) aS aP az k hk (ZaA (if k=1 then ah else out) dx) af;have e1:memM (if k=1 then ZaA (if k=1 then ah else out) dx else ah) (if k=1 then out else ZaA (if k=1 then ah else out) dx) bans book sh n f=memM (if k=1 then ZaA ah dx else ah) (if k=1 then out else ZaA out dx) bans book sh n f:=by
  rcases hk with rfl|rfl<;>rfl
 rw[e1]at h;exact h.seq (.ret _ _ 0) (by omega) rfl
def updR(f:Nat->Zat)(i j:Nat)(l:Zat):Nat->Zat:=fun q=>if i<=q/\q<j then l else f q
theorem ZDL{sh:List Zad}(az:sh.length=n):∀(k i:Nat)(f:Nat->Zat),i+k=n->(∀q,2+i<=q->q<n+2->f q=ZhK)->Ex (ZzW i k) (memM ah out bans book sh n f) () (memM ah out bans book sh n (updR f (2+i) (n+2) ZlY)) k 0
 | 0,i,f,hk,hf=>by
  have:updR f (2+i) (n+2) ZlY=f:=by
   funext q;unfold updR;rw[if_neg (by omega)]
  rw[this];exact .ret _ _ _
 |k+1,i,f,hk,hf=>by
  have h1:=Zwr (ah:=ah) (out:=out) (bans:=bans) (book:=book) (f:=f) (k:=2+i) aS aP az (by omega) (hf _ (by omega) (by omega)) false;have h2:=ZDL az k (i+1) (updL f (2+i) ZlY) (by omega) (fun q h1 h2=>by rw[ZxP _ _ (by omega)];exact hf q (by omega) h2);have e:updR (updL f (2+i) ZlY) (2+(i+1)) (n+2) ZlY=updR f (2+i) (n+2) ZlY:=by
   funext q;unfold updR updL;by_cases h:q=2+i
   .rw[if_neg (by omega),if_pos h,if_pos (by omega)]
   .by_cases h2:2+i<=q/\q<n+2
    .rw[if_pos (by omega),if_pos h2]
    .rw[if_neg (by omega),if_neg h,if_neg h2]
  rw[e]at h2;have ek:(2+(i:Int))=((2+i:Nat):Int):=by omega
  unfold ZzW;rw[ek];exact h1.seq h2 (by omega) rfl
theorem ZFg{sh:List Zad}(az:sh.length=n)(p:Int)(hp:ZaT p=n)(hf:∀q,2<=q->q<n+2->f q=ZhK):Ex (ZqV p) (memM ah out bans book sh n f) () (memM ah out bans book sh n (updR f 2 (n+2) ZlY)) n 0:=by
 unfold ZqV;rw[hp];exact ZDL aS aP az n 0 f (by omega) hf
theorem ZDN{sh:List Zad}(az:sh.length=n)(af:Bool)(m:Nat):∀(k:Nat)(f:Nat->Zat),k<=n->(∀q,2<=q->q<k+2->f q=ZlY)->Ex (Zxv af m k) (memM ah out bans book sh n f) () (memM ah out bans book sh n (updR f 2 (k+2) ZhK)) k (if 0<m/\m<=k then bn af else 0)
 | 0,f,hk,hf=>by
  have:updR f 2 (0+2) ZhK=f:=by
   funext q;unfold updR;rw[if_neg (by omega)]
  rw[this,if_neg (by omega)];exact .ret _ _ _
 |k+1,f,hk,hf=>by
  have h1:=ZHA (ah:=ah) (out:=out) (bans:=bans) (book:=book) (f:=f) (k:=2+k) aS aP az (by omega) [] (hf _ (by omega) (by omega)) (af&&decide (k+1=m));have h2:=ZDN az af m k (updL f (2+k) ZhK) (by omega) (fun q h1 h2=>by rw[ZxP _ _ (by omega)];exact hf q h1 (by omega));have e:updR (updL f (2+k) ZhK) 2 (k+2) ZhK=updR f 2 (k+1+2) ZhK:=by
   funext q;unfold updR updL;by_cases h:q=2+k
   .rw[if_neg (by omega),if_pos h,if_pos (by omega)]
   .by_cases h2:2<=q/\q<k+2
    .rw[if_pos h2,if_pos (by omega)]
    .rw[if_neg h2,if_neg h,if_neg (by omega)]
  rw[e]at h2;have ek:(2+(k:Int))=((2+k:Nat):Int):=by omega
  unfold Zxv;rw[ek];refine h1.seq h2 (by omega) ?_;by_cases hm:k+1=m
  .subst hm;rw[if_neg (by omega),if_pos (by omega)];simp
  .rw[decide_eq_false hm,Bool.and_false];by_cases h3:0<m/\m<=k
   .rw[if_pos h3,if_pos (by omega)];simp[bn]
   .rw[if_neg h3,if_neg (by omega)];simp[bn]
theorem ZFh{sh:List Zad}(az:sh.length=n)(p:Int)(hp:ZaT p=n)(af:Bool)(hf:∀q,2<=q->q<n+2->f q=ZlY):Ex (Zux p af) (memM ah out bans book sh n f) () (memM ah out bans book sh n (updR f 2 (n+2) ZhK)) n (bn af):=by
 unfold Zux;rw[hp];have:=ZDN (ah:=ah) (out:=out) (bans:=bans) (book:=book) aS aP az af n n f (Nat.le_refl _) hf;rw[if_pos (by omega)]at this;exact this
end
theorem Zje{a:Int}(h:0<=a):∃n:Nat,a=n:=⟨a.toNat,by omega⟩
def Zda(a:Zai):Bool:=if a.fV6 then !(decide (a.fHi=0)&&decide (a.fLo / 4294967296=65535))else decide (a.fHi=0)&&decide (a.fLo<4294967296)
theorem ZKX(n:Nat)(h:n<=18446744073709551615):IntKind.u32.wrap (IntKind.u64.wrap (((BitVec.ofInt (IntKind.bits .u64) (n:Int)) &&& (BitVec.ofInt (IntKind.bits .u64) (4294967295:Int))).toNat:Int))=((n % 4294967296:Nat):Int):=by
 have:=ZCr n 4294967295 (by omega) (by omega);rw[show ((4294967295:Nat):Int)=(4294967295:Int)from rfl]at this;rw[this,show (4294967295:Nat)=2 ^ 32-1 from rfl,Nat.and_two_pow_sub_one_eq_mod];rw[show (2:Nat) ^ 32=4294967296 from rfl];have h1:n % 4294967296<4294967296:=Nat.mod_lt _ (by omega);rw[ZhJ (by omega) (by omega)];simp only[IntKind.wrap,IntKind.bits,IntKind.signed];simp
theorem ZKH(n:Nat)(h:n<4294967296):ZoA ((n:Nat):Int)=some ⟨false,0,n⟩:=by
 unfold ZoA;rw[ZhJ (by omega) (by omega)]
theorem ZjU(a:Zai)(h:a.ok):ZeN a=some (Zda a):=by
 obtain⟨v,hi,lo⟩:=a;obtain⟨_,h1,h2,_⟩:=h;have h1:=Zka h1;have h2:=Zka h2;simp only at h1 h2;obtain⟨n,rfl⟩:=Zje h2.1;have hm:=ZKX n (by omega);have hlt:n % 4294967296<4294967296:=Nat.mod_lt _ (by omega);have hd:Int.fdiv (n:Int) (2 ^ (min (32:Int).toNat (IntKind.bits .u64)))=(n:Int) / 4294967296:=by
  rw[show (2:Int) ^ (min (32:Int).toNat (IntKind.bits .u64))=4294967296 from rfl,Int.fdiv_eq_ediv_of_nonneg _ (by omega)]
 cases v with
 |true=>
  simp only[ZeN,ZsN,Zda,cond_true,hd,hm];have hb:∀(p q:Int),(p==q)=decide (p=q):=fun p q=>by rw[Bool.eq_iff_iff];simp
  have hv:=ZKH _ hlt;by_cases h3:hi=0
  .by_cases h4:(n:Int) / 4294967296=65535
   .rw[hb,hb,decide_eq_true h3,decide_eq_true h4,cond_true,cond_true,hv];simp
   .rw[hb,hb,decide_eq_true h3,decide_eq_false h4,cond_true,cond_false];simp
  .rw[hb,decide_eq_false h3,cond_false];simp
 |false=>
  simp only[ZeN,Zda,cond_false,hm,ZKH _ hlt,Option.bind_some];congr 1;rw[Bool.eq_iff_iff];simp;constructor
  .rintro ⟨h5,h6⟩;exact⟨h5.symm,by omega⟩
  .rintro ⟨h5,h6⟩;exact⟨h5.symm,by omega⟩
theorem ZjZ(a:Zai)(h:a.ok):Zbx a=some (Zda a):=by
 obtain⟨v,hi,lo⟩:=a;obtain⟨_,h1,h2,_⟩:=h;have h1:=Zka h1;have h2:=Zka h2;simp only at h1 h2;have hd:IntKind.u64.wrap (Int.tdiv lo 4294967296)=lo / 4294967296:=by
  rw[Int.tdiv_eq_ediv_of_nonneg h2.1];exact ZhJ (by omega) (by omega)
 cases v with
 |true=>
  simp only[Zbx,Zda,hd,Bool.not_true,cond_false,if_true];generalize lo / 4294967296=q;simp only[Bool.cond_eq_ite,beq_iff_eq,bne_iff_ne,ne_eq,decide_eq_true_eq,Bool.not_eq_true',Bool.not_eq_false',decide_eq_false_iff_not]
  repeat' split
  all_goals first|rfl | (rw[Option.some.injEq,Bool.eq_iff_iff];simp only[Bool.and_eq_true,Bool.not_eq_true',Bool.not_eq_false',Bool.and_eq_false_iff,decide_eq_true_eq,decide_eq_false_iff_not,beq_iff_eq,bne_iff_ne,ne_eq,iff_true,iff_false,true_iff,false_iff,Bool.false_eq_true,Bool.true_eq_false,not_true_eq_false,not_false_eq_true];omega)
 |false=>
  simp only[Zbx,Zda,Bool.not_false,cond_true,Bool.false_eq_true,if_false];simp only[Bool.cond_eq_ite,beq_iff_eq,bne_iff_ne,ne_eq,decide_eq_true_eq,Bool.not_eq_true',Bool.not_eq_false',decide_eq_false_iff_not]
  repeat' split
  all_goals first|rfl | (rw[Option.some.injEq,Bool.eq_iff_iff];simp only[Bool.and_eq_true,Bool.not_eq_true',Bool.not_eq_false',Bool.and_eq_false_iff,decide_eq_true_eq,decide_eq_false_iff_not,beq_iff_eq,bne_iff_ne,ne_eq,iff_true,iff_false,true_iff,false_iff,Bool.false_eq_true,Bool.true_eq_false,not_true_eq_false,not_false_eq_true];omega)
theorem ZCM(a b:Zai):ZdY a b=some (cmpA a b):=by
 obtain⟨v,hi,lo⟩:=a;obtain⟨v',cH,kO⟩:=b;simp only[ZdY,Zed,Zec,cmpA,famA,cmpI,orI,Zai.mk.injEq];simp only[Bool.cond_eq_ite,bne_iff_ne,ne_eq,ite_not,decide_eq_true_eq,Bool.not_eq_true',beq_eq_false_iff_ne];cases v<;>cases v'<;>simp only[true_and,Bool.false_eq_true,Bool.true_eq_false,false_and,not_true_eq_false,not_false_eq_true,if_true,if_false,ite_true,ite_false,Bool.not_true,Bool.not_false]
 all_goals (repeat' split)<;>first|rfl|omega | (congr 1;omega)|simp_all
theorem ZHR(a b:Zag):ZeV a b=some (cmpN a b):=by
 simp only[ZeV,ZCM,Option.bind_some,cmpN,orI,cmpI];simp only[Bool.cond_eq_ite,bne_iff_ne,ne_eq,ite_not,decide_eq_true_eq,beq_iff_eq];generalize cmpA a.fAddr b.fAddr=c
 (repeat' split)<;>first|rfl|omega | (congr 1;omega)|simp_all
def Zlu(a:Zan):Bool:=Zda a.fAddr&&decide (1<=a.fPort)&&decide (a.fPort<=65535)
theorem ZxE(a:Zan)(h:a.ok):Ziw a=some (Zlu a):=by
 simp only[Ziw,ZjU _ h.1,Zlu,Option.bind_some];generalize Zda a.fAddr=b;cases b<;>simp only[cond_true,cond_false,Bool.true_and,Bool.false_and];simp only[Bool.cond_eq_ite,beq_iff_eq,bne_iff_ne,ne_eq,decide_eq_true_eq,Bool.not_eq_true',Bool.not_eq_false',decide_eq_false_iff_not]
 repeat' split
 all_goals first|rfl | (rw[Option.some.injEq,Bool.eq_iff_iff];simp only[Bool.and_eq_true,Bool.not_eq_true',Bool.not_eq_false',Bool.and_eq_false_iff,decide_eq_true_eq,decide_eq_false_iff_not,beq_iff_eq,bne_iff_ne,ne_eq,iff_true,iff_false,true_iff,false_iff,Bool.false_eq_true,Bool.true_eq_false,not_true_eq_false,not_false_eq_true];omega)
theorem Zqa(a:Zan)(h:a.ok):ZdP a=some (Zlu a):=by
 simp only[ZdP,ZjZ _ h.1,Zlu,Option.bind_some];generalize Zda a.fAddr=b;cases b<;>simp only[cond_true,cond_false,Bool.true_and,Bool.false_and];simp only[Bool.cond_eq_ite,beq_iff_eq,bne_iff_ne,ne_eq,decide_eq_true_eq,Bool.not_eq_true',Bool.not_eq_false',decide_eq_false_iff_not]
 repeat' split
 all_goals first|rfl | (rw[Option.some.injEq,Bool.eq_iff_iff];simp only[Bool.and_eq_true,Bool.not_eq_true',Bool.not_eq_false',Bool.and_eq_false_iff,decide_eq_true_eq,decide_eq_false_iff_not,beq_iff_eq,bne_iff_ne,ne_eq,iff_true,iff_false,true_iff,false_iff,Bool.false_eq_true,Bool.true_eq_false,not_true_eq_false,not_false_eq_true];omega)
def Zjd(e:Zaa):Bool:=Zlu e.fEnd&&decide (1<=e.fState)&&decide (e.fState<=3)&&decide (0<=e.fFails)&&decide (e.fFails<=1000)&&decide (0<=e.fNext)&&decide (e.fNext<=1099511627776)
theorem ZLg(n:Int):(n==(if(1099511627776:Int)<(if(0:Int)>n then(0:Int)else n)then(1099511627776:Int)else(if(0:Int)>n then(0:Int)else n)))=(decide (0<=n)&&decide (n<=1099511627776)):=by
 rw[Bool.eq_iff_iff];simp only[beq_iff_eq,Bool.and_eq_true,decide_eq_true_eq];constructor
 .intro h;(repeat' split at h)<;>omega
 .intro h;(repeat' split)<;>omega
theorem ZrX(e:Zaa)(h:e.ok):ZhP e=some (Zjd e):=by
 simp only[ZhP,ZxE _ h.1,ZgL,ZLg,Zjd,Option.bind_some];generalize Zlu e.fEnd=b;cases b<;>simp only[cond_true,cond_false,Bool.true_and,Bool.false_and]
 all_goals
  simp only[Bool.cond_eq_ite,beq_iff_eq,bne_iff_ne,ne_eq,decide_eq_true_eq,Bool.not_eq_true',Bool.not_eq_false',decide_eq_false_iff_not]
  repeat' split
  all_goals first|rfl | (rw[Option.some.injEq,Bool.eq_iff_iff];simp only[Bool.and_eq_true,Bool.not_eq_true',Bool.not_eq_false',Bool.and_eq_false_iff,decide_eq_true_eq,decide_eq_false_iff_not,beq_iff_eq,bne_iff_ne,ne_eq,iff_true,iff_false,true_iff,false_iff,Bool.false_eq_true,Bool.true_eq_false,not_true_eq_false,not_false_eq_true];omega)
theorem Zli(e:Zaa)(h:e.ok):Zdo e=some (Zjd e):=by
 simp only[Zdo,Zqa _ h.1,Zjd,Option.bind_some];generalize Zlu e.fEnd=b;cases b<;>simp only[cond_true,cond_false,Bool.true_and,Bool.false_and];simp only[Bool.cond_eq_ite,beq_iff_eq,bne_iff_ne,ne_eq,decide_eq_true_eq,Bool.not_eq_true',Bool.not_eq_false',decide_eq_false_iff_not]
 repeat' split
 all_goals first|rfl | (rw[Option.some.injEq,Bool.eq_iff_iff];simp only[Bool.and_eq_true,Bool.not_eq_true',Bool.not_eq_false',Bool.and_eq_false_iff,decide_eq_true_eq,decide_eq_false_iff_not,beq_iff_eq,bne_iff_ne,ne_eq,iff_true,iff_false,true_iff,false_iff,Bool.false_eq_true,Bool.true_eq_false,not_true_eq_false,not_false_eq_true];omega)
def cmpE(a b:Zan):Int:=orI (cmpA a.fAddr b.fAddr) (cmpI a.fPort b.fPort)
theorem ZDs(a b:Zan):Zii a b=some (cmpE a b):=by
 simp only[Zii,ZDG,ZyR,or2,Option.bind_some,cmpE]
theorem Zsg(a b:Zan):Zcl a b=some (cmpE a b):=by
 simp only[Zcl,ZCM,Option.bind_some,cmpE,orI,cmpI];simp only[Bool.cond_eq_ite,bne_iff_ne,ne_eq,ite_not,decide_eq_true_eq,beq_iff_eq];generalize cmpA a.fAddr b.fAddr=c
 (repeat' split)<;>first|rfl|omega | (congr 1;omega)|simp_all
theorem ZHd{a b:Zan}:cmpE a b<0↔cmpA a.fAddr b.fAddr<0\/(a.fAddr=b.fAddr/\a.fPort<b.fPort):=by simp only[cmpE,ZzL,Zwb,ZoE]
theorem ZKz{a b:Zan}:0<cmpE a b↔0<cmpA a.fAddr b.fAddr\/(a.fAddr=b.fAddr/\b.fPort<a.fPort):=by simp only[cmpE,ZCQ,ZyS,ZoE]
theorem ZmQ{a b:Zan}:cmpE a b=0↔a=b:=by
 simp only[cmpE,Zuq,ZlM,ZoE];obtain⟨x,p⟩:=a;obtain⟨y,q⟩:=b;simp
theorem ZkM{a b:Zan}:0<cmpE a b↔cmpE b a<0:=by
 rw[ZKz,ZHd,ZAK];constructor<;>rintro (h|⟨h1,h2⟩)<;>first|exact .inl h|exact .inr ⟨h1.symm,h2⟩
theorem Zrb{a b c:Zan}(h1:cmpE a b<0)(h2:cmpE b c<0):cmpE a c<0:=by
 rw[ZHd]at *
 rcases h1 with h1|⟨h1,h3⟩<;>rcases h2 with h2|⟨h2,h4⟩
 .exact .inl (ZxH h1 h2)
 .exact .inl (h2 ▸ h1)
 .exact .inl (h1 ▸ h2)
 .exact .inr ⟨h1.trans h2,by omega⟩
def ZiO(l:List Zaa)(e:Zan):Int:=ixOf (fun x=>decide (x.fEnd=e)) l 0
def ZxK(l:List Zaa)(e:Zan):Int:=ixOf (fun x=>decide (0<cmpE x.fEnd e)) l 0
theorem Zta(l:List Zaa)(e:Zan)(hl:l.length<=maxLen):ZiC l e=some (ZiO l e):=by
 simp only[ZiC,Zch];rw[show ((0:Int))=((0:Nat):Int)from rfl];rw[Zts l Zaa.d (fun x=>decide (x.fEnd=e)) hl (fun fu i=>ZaP l e fu (l.length:Int) i) (fun i=>i) ?_ ?_ _ 0 (by omega) (by omega)]
 .rfl
 .intro fu i hi;simp only[ZaP,Zmc,Zam,Option.bind_some];rw[if_pos (by omega),Zax ⟨by omega,by omega⟩];simp
 .intro fu;simp only[ZaP,Zam];rw[if_neg (by omega)]
theorem Zsf(l:List Zaa)(e:Zan)(hl:l.length<=maxLen):ZcY l e=some (ZiO l e):=by
 simp only[ZcY];rw[show ((0:Int))=((0:Nat):Int)from rfl];rw[Zts l Zaa.d (fun x=>decide (x.fEnd=e)) hl (fun fu i=>ZcE l fu i e) (fun i=>i) ?_ ?_ _ 0 (by omega) (by omega)]
 .rfl
 .intro fu i hi;simp only[ZcE,Zam];rw[if_pos (by omega),Zax ⟨by omega,by omega⟩];simp
 .intro fu;simp only[ZcE,Zam];rw[if_neg (by omega)]
theorem ZEZ(l:List Zaa)(e:Zaa)(hl:l.length<=maxLen):ZbF l e=some (ZxK l e.fEnd):=by
 simp only[ZbF];rw[show ((0:Int))=((0:Nat):Int)from rfl];rw[Zts l Zaa.d (fun x=>decide (0<cmpE x.fEnd e.fEnd)) hl (fun fu i=>ZaQ l e fu (l.length:Int) i) (fun i=>i) ?_ ?_ _ 0 (by omega) (by omega)]
 .rfl
 .intro fu i hi;simp only[ZaQ,Znz,ZDs,Zam,Option.bind_some];rw[if_pos (by omega),Zax ⟨by omega,by omega⟩];simp
 .intro fu;simp only[ZaQ,Zam];rw[if_neg (by omega)]
def putS(l:List Zaa)(e:Zaa):List Zaa:=l.takeWhile (fun x=>!decide (0<cmpE x.fEnd e.fEnd))++[e]++l.dropWhile (fun x=>!decide (0<cmpE x.fEnd e.fEnd))
def addS(l:List Zaa)(e:Zaa)(bO:Int):List Zaa×Int:=if Zjd e then if 0<=ZiO l e.fEnd then([],7)else if(l.length:Int)>=bO then([],5)else(putS l e,0)else([],1)
theorem ZDz(l:List Zaa)(h:l.length<=10000):ZaU l=some l:=by
 unfold ZaU;rw[Zax ⟨by omega,Zlt (by omega)⟩]
theorem ZAc(l:List Zaa)(i:Int)(e:Zaa)(h:l.length<=10000)(h0:0<=i)(h1:i.toNat<=l.length):Zbh l i [e]=some (l.take i.toNat++[e]++l.drop i.toNat):=by
 unfold Zbh;rw[Zax ⟨h0,h1,by simp,by simp only[List.length_cons,List.length_nil];omega,Zlt (by simp only[List.length_cons,List.length_nil];omega)⟩]
theorem ZIK(l:List Zaa)(e:Zaa)(bO:Int)(h:l.length<=10000)(he:e.ok):Zoz l e bO=some (addS l e bO):=by
 have hm:l.length<=maxLen:=Zlt (by omega);have hs:=Zxt (fun x:Zaa=>decide (0<cmpE x.fEnd e.fEnd)) l 0;have hle:=Zyx (fun x:Zaa=>decide (0<cmpE x.fEnd e.fEnd)) l 0;simp only[Zoz,ZrX e he,Zta l _ hm,ZEZ l e hm,ZDz l h,Option.bind_some,addS];cases Zjd e
 .rfl
 .simp only[Bool.not_true,cond_false,if_true,Zam,ge_iff_le];by_cases h1:0<=ZiO l e.fEnd
  .simp only[h1,if_true]
  .simp only[h1,if_false];by_cases h2:bO<=(l.length:Int)
   .simp only[h2,if_true]
   .simp only[h2,if_false];by_cases h3:ZxK l e.fEnd<0
    .rw[if_pos h3,ZAc l _ e h (by omega) (by simp)];simp only[Option.bind_some];obtain⟨h4,h5⟩:=hs.1 h3;unfold putS;rw[h4,h5];simp
    .rw[if_neg h3];have iX:0<=ZxK l e.fEnd:=by omega
     unfold ZxK at iX;rw[ZAc l _ e h (by omega) (by unfold ZxK;omega)];simp only[Option.bind_some];obtain⟨_,h4,h5⟩:=hs.2 iX;unfold putS ZxK;rw[h4,h5];rfl
theorem ZJT(l:List Zaa)(e:Zaa)(h:l.length<=10000):∀fu (i:Nat),i<=l.length->l.length-i<fu ->
  ZdA l fu (i:Int) e=some (l.take i++putS (l.drop i) e,0):=by
 have hm:l.length<=maxLen:=Zlt (by omega);have bw:∀i:Nat,i<=l.length->(need (0<=(i:Int)/\(i:Int)<=((l.length:Nat):Int)) <|
   need ((([]:List Zaa)++(l.take (i:Int).toNat)).length * 56<=140737488355328/\(([]:List Zaa)++(l.take (i:Int).toNat)).length<=maxLen) <|
   need (((([]:List Zaa)++(l.take (i:Int).toNat))++([e]:List Zaa)).length * 56<=140737488355328/\((([]:List Zaa)++(l.take (i:Int).toNat))++([e]:List Zaa)).length<=maxLen) <|
   need ((((([]:List Zaa)++(l.take (i:Int).toNat))++([e]:List Zaa))++(l.drop (i:Int).toNat)).length * 56<=140737488355328/\(((([]:List Zaa)++(l.take (i:Int).toNat))++([e]:List Zaa))++(l.drop (i:Int).toNat)).length<=maxLen) <|
   some ((((([]:List Zaa)++(l.take (i:Int).toNat))++([e]:List Zaa))++(l.drop (i:Int).toNat)),(0:Int)))=some (l.take i++[e]++l.drop i,0):=by
  intro i hi;have b:∀n:Nat,n<=10001->n * 56<=140737488355328/\n<=maxLen:=fun n hn=>⟨by omega,Zlt (by omega)⟩;rw[Zax ⟨by omega,by omega⟩,Zax (b _ (by simp;omega)),Zax (b _ (by simp;omega)),Zax (b _ (by simp;omega))];simp
 intro fu;induction fu with
 |zero=>intro i _ h;omega
 |succ fu ih=>
  intro i hi hf;simp only[ZdA,Zsg,Option.bind_some,Zam];by_cases hlt:i<l.length
  .rw[if_pos (by omega),Zax ⟨by omega,by omega⟩];have hd:=ZdK l Zaa.d i hlt;by_cases hc:cmpE (l.getD i Zaa.d).fEnd e.fEnd<=0
   .rw[if_pos (by simpa using hc),add1 hlt hm,ih (i+1) (by omega) (by omega)];congr 2;unfold putS;rw[hd,List.takeWhile_cons,List.dropWhile_cons,if_pos (by simp;simpa using hc),if_pos (by simp;simpa using hc),List.take_succ_eq_append_getElem hlt];rw[Zdw l Zaa.d i hlt];simp only[List.append_assoc,List.cons_append,List.nil_append]
   .rw[if_neg (by simpa using hc),bw i hi];congr 2;unfold putS;rw[hd,List.takeWhile_cons,List.dropWhile_cons,if_neg (by simp;simpa using hc),if_neg (by simp;simpa using hc)];simp
  .rw[if_neg (by omega),bw i hi];have:l.drop i=[]:=List.drop_eq_nil_of_le (by omega);rw[this];simp[putS]
theorem ZJV(l:List Zaa)(e:Zaa)(bO:Int)(h:l.length<=10000)(he:e.ok):ZgT l e bO=some (addS l e bO):=by
 have hm:l.length<=maxLen:=Zlt (by omega);simp only[ZgT,Zli e he,Zsf l _ hm,Option.bind_some,addS];cases Zjd e
 .rfl
 .simp only[Bool.not_true,cond_false,if_true,Zam,ge_iff_le];by_cases h1:0<=ZiO l e.fEnd
  .simp only[h1,if_true]
  .simp only[h1,if_false];by_cases h2:bO<=(l.length:Int)
   .simp only[h2,if_true]
   .simp only[h2,if_false];have:=ZJT l e h ((((l.length:Nat):Int)-(0:Int)).toNat+2) 0 (by omega) (by omega);rw[show ((0:Nat):Int)=0 from rfl]at this;rw[this];rfl
def Zcz(l:List Zaa)(state:Int):Int:=((l.countP fun x=>decide (x.fState=state):Nat):Int)
theorem ZzB(l:List Zaa)(state:Int)(hl:l.length<=maxLen):ZeE l state=some (Zcz l state):=by
 simp only[ZeE];have:=Zxn l Zaa.d (fun x=>decide (x.fState=state)) hl (fun fu n i=>Zcc l state fu n i) (fun fu i n hi=>by
   simp only[Zcc,Zam];rw[if_pos (by omega),Zax ⟨by omega,by omega⟩];simp only[Bool.cond_eq_ite,beq_iff_eq,Int.toNat_natCast,decide_eq_true_eq]) (fun fu n=>by
   simp only[Zcc,Zam];rw[if_neg (by omega)]) ((((l.length:Nat):Int)-(0:Int)).toNat+2) 0 0 (by omega) (by omega) (by omega)
 simpa[Zcz]using this
def setS(l:List Zaa)(e:Zaa):List Zaa:=if 0<=ZiO l e.fEnd then l.set (ZiO l e.fEnd).toNat e else l
theorem ZrP(l:List Zaa)(e:Zan):ZiO l e<(l.length:Int):=by
 have:=Zyx (fun x:Zaa=>decide (x.fEnd=e)) l 0;simpa[ZiO]using this
theorem ZII(l:List Zaa)(e:Zaa)(h:l.length<=10000):Zmm l e=some (setS l e):=by
 have hm:l.length<=maxLen:=Zlt (by omega);have:=ZrP l e.fEnd;simp only[Zmm,ZDz l h,Zta l _ hm,Option.bind_some,Zam,setS,ge_iff_le];split
 .rename_i h1;rw[Zax ⟨h1,this⟩]
 .rfl
theorem ZuS(l:List Zaa)(e:Zaa)(h:l.length<=10000):Zdt l e=some (setS l e):=by
 have hm:l.length<=maxLen:=Zlt (by omega);have:=ZrP l e.fEnd;simp only[Zdt,Zsf l _ hm,Option.bind_some,Zam,setS,List.nil_append];split
 .rename_i h1;rw[if_neg (by omega)]
 .rename_i h1;rw[Zax ⟨by omega,hm⟩,Zax ⟨by omega,this⟩,if_pos (by omega)]
def ZDE:Option Zaa->Zaa->Bool|none,_=>true|some p,x=>decide (cmpE p.fEnd x.fEnd<0)
def ZuN:Option Zaa->List Zaa->Bool|_,[]=>true|p,x :: r=>Zjd x&&ZDE p x&&ZuN (some x) r
def Zxb(l:List Zaa):Bool:=ZuN none l
def Zzu:List Zaa->List Zaa->Bool|_,[]=>true|p,x :: r=>Zjd x&&p.all (fun y=>decide (cmpE y.fEnd x.fEnd<0))&&Zzu (p++[x]) r
theorem Zzt:∀(r p:List Zaa),p.Pairwise (fun a b=>cmpE a.fEnd b.fEnd<0)->Zzu p r=ZuN p.getLast? r
 | [],p,_=>rfl
 |x :: r,p,hp=>by
  simp only[Zzu,ZuN]
  have e:p.all (fun y=>decide (cmpE y.fEnd x.fEnd<0))=ZDE p.getLast? x:=by
   rcases List.eq_nil_or_concat p with rfl|⟨q,z,rfl⟩
   .rfl
   .rw[List.concat_eq_append]at hp ⊢;rw[List.getLast?_append,List.getLast?_singleton,Option.some_or,List.all_append];simp only[ZDE,List.all_cons,List.all_nil,Bool.and_true];by_cases hz:cmpE z.fEnd x.fEnd<0
    .rw[decide_eq_true hz,Bool.and_true,List.all_eq_true];intro y hy;have:=(List.pairwise_append.1 hp).2.2 y hy z (by simp);exact decide_eq_true (Zrb this hz)
    .rw[decide_eq_false hz,Bool.and_false]
  rw[e];cases ha:ZDE p.getLast? x
  .simp
  .rw[Zzt r (p++[x])]
   .simp
   .refine List.pairwise_append.2 ⟨hp,List.pairwise_singleton _ _,fun y hy z hz=>?_⟩;rw[List.mem_singleton.1 hz];rw[ha]at e;exact of_decide_eq_true (List.all_eq_true.1 e y hy)
theorem Zyf(l:List Zaa)(h:l.length<=maxLen)(hok:∀x∈l,x.ok):ZfS l=some (Zxb l):=by
 simp only[ZfS];have dE:∀(i:Nat)(K:Int->Option Bool),i<l.length->∀fu (j:Nat),j<=i->i-j<fu->ZcX l (i:Int) K fu (j:Int)=bif((l.take i).drop j).all (fun y=>decide (cmpE y.fEnd (l.getD i Zaa.d).fEnd<0))then K (ZaA (i:Int) 1)else some false:=by
  intro i K hi fu;induction fu with
  |zero=>intro j _ h;omega
  |succ fu ih=>
   intro j hj hf;simp only[ZcX,Zam,Zsg,Option.bind_some];by_cases hlt:j<i
   .rw[if_pos (by omega),Zax ⟨by omega,by omega⟩,Zax ⟨by omega,by omega⟩];simp only[Int.toNat_natCast];have hjt:j<(l.take i).length:=by rw[List.length_take];omega
    have hgt:(l.take i).getD j Zaa.d=l.getD j Zaa.d:=by
     simp only[List.getD_eq_getElem?_getD,List.getElem?_take,if_pos hlt]
    rw[ZdK (l.take i) Zaa.d j hjt,hgt];simp only[List.all_cons];by_cases hc:cmpE (l.getD j Zaa.d).fEnd (l.getD i Zaa.d).fEnd>=0
    .rw[if_pos hc,decide_eq_false (by omega)];rfl
    .rw[if_neg hc,decide_eq_true (by omega),add1 (show j<l.length by omega) h,ih (j+1) (by omega) (by omega)];rfl
   .have e:j=i:=by omega
    subst e;rw[if_neg (by omega),List.drop_eq_nil_of_le (by rw[List.length_take];omega)];rfl
 have key:∀fu (i:Nat),i<=l.length->l.length-i<fu->Zcb l fu (i:Int)=some (Zzu (l.take i) (l.drop i)):=by
  intro fu;induction fu with
  |zero=>intro i _ h;omega
  |succ fu ih=>
   intro i hi hf;simp only[Zcb,Zam];by_cases hlt:i<l.length
   .rw[if_pos (by omega),Zax ⟨by omega,by omega⟩,Zli _ (hok _ (by rw[Int.toNat_natCast];exact Zeu l _ i hlt))];simp only[Int.toNat_natCast,Option.bind_some];rw[ZdK l Zaa.d i hlt];simp only[Zzu];cases Zjd (l.getD i Zaa.d)
    .rfl
    .simp only[Bool.not_true,cond_false,Bool.true_and];have hin:=dE i (Zcb l fu) hlt (((i:Int)-(0:Int)).toNat+2) 0 (by omega) (by omega);rw[show ((0:Nat):Int)=0 from rfl,List.drop_zero]at hin;rw[hin];have hih:=ih (i+1) (by omega) (by omega);rw[List.take_succ_eq_append_getElem hlt,<-Zdw l Zaa.d i hlt]at hih;cases(l.take i).all (fun y=>decide (cmpE y.fEnd (l.getD i Zaa.d).fEnd<0))
     .rfl
     .rw[cond_true,add1 hlt h,hih];rfl
   .rw[if_neg (by omega),List.drop_eq_nil_of_le (by omega)];rfl
 have:=key ((((l.length:Nat):Int)-(0:Int)).toNat+2) 0 (by omega) (by omega);rw[show ((0:Nat):Int)=0 from rfl]at this;rw[this];congr 1;exact Zzt l [] .nil
theorem Zxa:∀(l:List Zaa)(p:Option Zaa),ZuN p l=true↔(∀x∈l,Zjd x=true)/\l.Pairwise (fun a b=>cmpE a.fEnd b.fEnd<0)/\∀q,p=some q->∀x∈l,cmpE q.fEnd x.fEnd<0
 | [],p=>by simp[ZuN]
 |x :: r,p=>by
  simp only[ZuN,Bool.and_eq_true,Zxa r (some x),List.mem_cons,forall_eq_or_imp,List.pairwise_cons,Option.some.injEq]
  constructor
  .rintro ⟨⟨h1,h2⟩,h3,h4,h5⟩
   have h6:=h5 x rfl
   refine⟨⟨h1,h3⟩,⟨h6,h4⟩,fun q hq=>?_⟩
   subst hq
   have h7:cmpE q.fEnd x.fEnd<0:=of_decide_eq_true h2
   exact⟨h7,fun y hy=>Zrb h7 (h6 y hy)⟩
  .rintro ⟨⟨h1,h3⟩,⟨h6,h4⟩,h5⟩
   refine⟨⟨h1,?_⟩,h3,h4,fun q hq=>by subst hq;exact h6⟩
   cases p with
   |none=>rfl
   |some q=>exact decide_eq_true (h5 q rfl).1
theorem ZEf(l:List Zaa):Zxb l=true↔(∀x∈l,Zjd x=true)/\l.Pairwise (fun a b=>cmpE a.fEnd b.fEnd<0):=by
 rw[Zxb,Zxa];exact⟨fun h=>⟨h.1,h.2.1⟩,fun h=>⟨h.1,h.2,fun q hq=>by cases hq⟩⟩
theorem ZHV(l:List Zaa)(e:Zaa):(putS l e).length=l.length+1:=by
 unfold putS;have:=congrArg List.length (List.takeWhile_append_dropWhile (p:=fun x:Zaa=>!decide (0<cmpE x.fEnd e.fEnd)) (l:=l));simp only[List.length_append,List.length_cons,List.length_nil]at this ⊢;omega
theorem ZIR(l:List Zaa)(e:Zaa)(bO:Int):(addS l e bO).1.length<=l.length+1:=by
 unfold addS
 repeat' split
 all_goals simp[ZHV]
theorem ZCF(l:List Zaa)(e:Zaa):(setS l e).length=l.length:=by
 unfold setS;split<;>simp
theorem ZAn{l:List Zaa}{e:Zan}:ZiO l e<0↔∀x∈l,x.fEnd≠e:=by
 unfold ZiO;rw[Zsw];simp
def fitI(n:Int):Int:=if n<0 then 0 else if n>1099511627776 then 1099511627776 else n
theorem ZnX(n:Int):ZgL n=some (fitI n):=by
 unfold ZgL fitI;congr 1
 repeat' split
 all_goals omega
theorem Zqb(n:Int):Zcx n=some (fitI n):=by
 unfold Zcx fitI;simp only[Zam]
 repeat' split
 all_goals first|rfl|omega
theorem ZtI(n:Int):0<=fitI n/\fitI n<=1099511627776:=by
 unfold fitI
 repeat' split
 all_goals omega
def ZkJ(l:List Zab)(e:Zan):Int:=ixOf (fun x=>decide (x.fEnd=e)) l 0
theorem ZDT(l:List Zab)(e:Zan)(hl:l.length<=maxLen):ZjO l e=some (ZkJ l e):=by
 simp only[ZjO,Zcp];have:=Zts l Zab.d (fun x=>decide (x.fEnd=e)) hl (fun fu i=>ZaR l e fu (l.length:Int) i) (fun i=>i) (fun fu i hi=>by
   simp only[ZaR,Zll,Zam,Option.bind_some];rw[if_pos (by omega),Zax ⟨by omega,by omega⟩];simp) (fun fu=>by
   simp only[ZaR,Zam];rw[if_neg (by omega)]) ((((l.length:Nat):Int)-(0:Int)).toNat+2) 0 (by omega) (by omega)
 simp only[Int.natCast_zero,List.drop_zero]at this;rw[this];rfl
theorem ZpZ(l:List Zab)(e:Zan)(hl:l.length<=maxLen):ZdN l e=some (ZkJ l e):=by
 simp only[ZdN];have:=Zts l Zab.d (fun x=>decide (x.fEnd=e)) hl (fun fu i=>Zcu l fu i e) (fun i=>i) (fun fu i hi=>by
   simp only[Zcu,Zam];rw[if_pos (by omega),Zax ⟨by omega,by omega⟩];simp) (fun fu=>by
   simp only[Zcu,Zam];rw[if_neg (by omega)]) ((((l.length:Nat):Int)-(0:Int)).toNat+2) 0 (by omega) (by omega)
 simp only[Int.natCast_zero,List.drop_zero]at this;rw[this];rfl
theorem ZIs(l:List Zab)(e:Zan):ZkJ l e<(l.length:Int):=by
 have:=Zyx (fun x:Zab=>decide (x.fEnd=e)) l 0;unfold ZkJ;omega
def wid(a:Zai):Nat:=if a.fV6 then 128 else 32
def num(a:Zai):Nat:=if a.fV6 then 2 ^ 64*a.fHi.toNat+a.fLo.toNat else a.fLo.toNat
def bitN(a:Zai)(i:Nat):Bool:=(num a).testBit (wid a-1-i)
structure Fits (a:Zai):Prop where
 hi0:0<=a.fHi
 hi1:a.fHi<=18446744073709551615
 lo0:0<=a.fLo
 lo1:a.fLo<=18446744073709551615
 v4:a.fV6=false->a.fHi=0/\a.fLo<4294967296
theorem Zpp{a:Zai}(h:a.ok)(hr:Zda a=true):Fits a:=by
 have h1:=Zka h.2.1;have h2:=Zka h.2.2.1;refine⟨h1.1,h1.2,h2.1,h2.2,fun hv=>?_⟩;unfold Zda at hr;rw[hv]at hr;simpa using hr
theorem Fits.ok{a:Zai}(h:Fits a):a.ok:=by
 refine⟨trivial,?_,?_,trivial⟩
 .have:=h.hi0;have:=h.hi1;simp only[okI,Lit.wf,IntKind.min,IntKind.max,IntKind.bits,IntKind.signed];simp;omega
 .have:=h.lo0;have:=h.lo1;simp only[okI,Lit.wf,IntKind.min,IntKind.max,IntKind.bits,IntKind.signed];simp;omega
theorem ZJm{a:Zai}(h:Fits a):num a<2 ^ wid a:=by
 have:=h.hi0;have:=h.hi1;have:=h.lo0;have:=h.lo1;unfold num wid;cases hv:a.fV6
 .have:=h.v4 hv;simp only[Bool.false_eq_true,if_false];omega
 .simp only[if_true];omega
theorem Ztc{a b:Zai}(ha:Fits a)(hb:Fits b)(hv:a.fV6=b.fV6)(h:∀i,i<wid a->bitN a i=bitN b i):a=b:=by
 have hn:num a=num b:=by
  apply Nat.eq_of_testBit_eq;intro j;have hw:wid a=wid b:=by unfold wid;rw[hv]
  by_cases hj:j<wid a
  .have:=h (wid a-1-j) (by omega);unfold bitN at this;rw[<-hw]at this;rw[show wid a-1-(wid a-1-j)=j by omega]at this;exact this
  .rw[Nat.testBit_lt_two_pow (Nat.lt_of_lt_of_le (ZJm ha) (Nat.pow_le_pow_right (by omega) (by omega))),Nat.testBit_lt_two_pow (Nat.lt_of_lt_of_le (ZJm hb) (Nat.pow_le_pow_right (by omega) (by omega)))]
 have:=ha.hi0;have:=ha.hi1;have:=ha.lo0;have:=ha.lo1;have:=hb.hi0;have:=hb.hi1;have:=hb.lo0;have:=hb.lo1;obtain⟨v,hi,lo⟩:=a;obtain⟨v',cH,kO⟩:=b;simp only at hv;subst hv;simp only[num]at hn;simp only[Zai.mk.injEq,true_and];cases v
 .have:=ha.v4 rfl;have:=hb.v4 rfl;simp only[Bool.false_eq_true,if_false]at *
  omega
 .simp only[if_true]at *
  omega
theorem ZyW(n k T:Nat)(hk:k<=T)(h:n<2 ^ T):n &&& (2 ^ T-2 ^ k)=n-n % 2 ^ k:=by
 have h1:n-n % 2 ^ k=2 ^ k*(n / 2 ^ k):=by have:=Nat.div_add_mod n (2 ^ k);omega
 rw[h1];apply Nat.eq_of_testBit_eq;intro i;have h2:2 ^ T-2 ^ k=2 ^ k*(2 ^ (T-k)-1):=by
  rw[Nat.mul_sub,<-Nat.pow_add,Nat.mul_one];congr 2;omega
 rw[Nat.testBit_and,h2,Nat.testBit_two_pow_mul,Nat.testBit_two_pow_mul,Nat.testBit_two_pow_sub_one,Nat.testBit_div_two_pow];by_cases hi:k<=i
 .by_cases h3:i<T
  .simp[hi,show i-k<T-k by omega,show i-k+k=i by omega]
  .have:n.testBit i=false:=Nat.testBit_lt_two_pow (Nat.lt_of_lt_of_le h (Nat.pow_le_pow_right (by omega) (by omega)));simp[hi,this,show i-k+k=i by omega]
 .simp[hi]
theorem ZCl(n k j:Nat):(n-n % 2 ^ k).testBit j=(decide (k<=j)&&n.testBit j):=by
 have h1:n-n % 2 ^ k=2 ^ k*(n / 2 ^ k):=by have:=Nat.div_add_mod n (2 ^ k);omega
 rw[h1,Nat.testBit_two_pow_mul,Nat.testBit_div_two_pow];by_cases h:k<=j
 .simp[h,show j-k+k=j by omega]
 .simp[h]
theorem Zrc(a b:Nat)(ha:a<2 ^ 64)(hb:b<2 ^ 64):IntKind.u64.wrap (((BitVec.ofInt (IntKind.bits .u64) (a:Int)) &&& (BitVec.ofInt (IntKind.bits .u64) (b:Int))).toNat:Int)=((a &&& b:Nat):Int):=by
 rw[ZCr a b ha hb];have:a &&& b<2 ^ 64:=Nat.and_lt_two_pow _ hb;exact ZhJ (by omega) (by omega)
theorem ZKJ:∀n:Fin 65,Zfi ((n.val:Nat):Int)=some (((2 ^ 64-2 ^ (64-n.val):Nat)):Int):=by decide +kernel
theorem Zzi(n:Nat)(h:n<=64):Zfi ((n:Nat):Int)=some (((2 ^ 64-2 ^ (64-n):Nat)):Int):=ZKJ ⟨n,by omega⟩
theorem Zzj(n:Int):Zfi n=Zfi (if(64:Int)<(if(0:Int)>n then(0:Int)else n)then(64:Int)else(if(0:Int)>n then(0:Int)else n)):=by
 unfold Zfi;have e:∀m:Int,0<=m->m<=64->(if(64:Int)<(if(0:Int)>m then(0:Int)else m)then(64:Int)else(if(0:Int)>m then(0:Int)else m))=m:=fun m h1 h2=>by
  repeat' split
  all_goals omega
 rw[e (if(64:Int)<(if(0:Int)>n then(0:Int)else n)then(64:Int)else(if(0:Int)>n then(0:Int)else n)) (by repeat' split<;>omega) (by repeat' split<;>omega)]
theorem ZJC(n:Int)(h:n<=0):Zfi n=some 0:=by
 rw[Zzj,show (if(64:Int)<(if(0:Int)>n then(0:Int)else n)then(64:Int)else(if(0:Int)>n then(0:Int)else n))=((0:Nat):Int)by repeat' split<;>omega,Zzi 0 (by omega)]
 rfl
theorem ZHE(n:Int)(h:64<=n):Zfi n=some 18446744073709551615:=by
 rw[Zzj,show (if(64:Int)<(if(0:Int)>n then(0:Int)else n)then(64:Int)else(if(0:Int)>n then(0:Int)else n))=((64:Nat):Int)by repeat' split<;>omega,Zzi 64 (by omega)]
 rfl
def ZjC(a:Zai)(n:Nat):Zai:=if a.fV6 then(if n<=64 then⟨true,((a.fHi.toNat-a.fHi.toNat % 2 ^ (64-n):Nat):Int),0⟩else⟨true,a.fHi,((a.fLo.toNat-a.fLo.toNat % 2 ^ (128-n):Nat):Int)⟩)else⟨false,a.fHi,((a.fLo.toNat-a.fLo.toNat % 2 ^ (32-n):Nat):Int)⟩
theorem ZGd{a:Zai}(h:a.ok)(hr:Zda a=true)(n:Nat)(hn:n<=wid a):ZhV a (n:Int)=some (ZjC a n):=by
 have hf:=Zpp h hr;have fF:=ZjU a h;have hA:=hf.hi0;have hB:=hf.hi1;have hC:=hf.lo0;have hD:=hf.lo1;obtain⟨v,hi,lo⟩:=a;obtain⟨p,hp⟩:=Zje hf.hi0;obtain⟨q,hq⟩:=Zje hf.lo0;simp only at hp hq hA hB hC hD;subst hp hq;cases v with
 |false=>
  have hv:=hf.v4 rfl;simp only at hv;have hn:n<=32:=hn;have cC:(if(32:Int)<(if(0:Int)>(n:Int)then(0:Int)else(n:Int))then(32:Int)else(if(0:Int)>(n:Int)then(0:Int)else(n:Int)))=(n:Int):=by repeat' split<;>omega
  simp only[ZhV,fF,hr,Option.bind_some,Bool.not_true,cond_false,ZdR,Bool.not_false,cond_true,cC,Zzi n (by omega)];have hp:(2:Nat) ^ (64-n)=2 ^ 32 * 2 ^ (32-n):=by rw[<-Nat.pow_add];congr 1;omega
  have a6:(2:Nat) ^ (32-n)<=2 ^ 32:=Nat.pow_le_pow_right (by omega) (by omega);have hp0:0<(2:Nat) ^ (32-n):=Nat.pow_pos (by omega);have hd:(2 ^ 64-2 ^ (64-n):Nat) / 4294967296=2 ^ 32-2 ^ (32-n):=by
   rw[hp];generalize (2:Nat) ^ (32-n)=z at *
   omega
  have e3:Int.fdiv ((2 ^ 64-2 ^ (64-n):Nat):Int) (2 ^ (min (32:Int).toNat (IntKind.bits .u64)))=((2 ^ 32-2 ^ (32-n):Nat):Int):=by
   rw[show (2:Int) ^ (min (32:Int).toNat (IntKind.bits .u64))=4294967296 from rfl,Int.fdiv_eq_ediv_of_nonneg _ (by omega),<-hd];rfl
  rw[e3,Zrc q _ (by omega) (by generalize (2:Nat) ^ (32-n)=z at *;omega),ZyW q (32-n) 32 (by omega) (by omega)];simp[ZjC]
 |true=>
  have hn:n<=128:=hn;have cC:(if(128:Int)<(if(0:Int)>(n:Int)then(0:Int)else(n:Int))then(128:Int)else(if(0:Int)>(n:Int)then(0:Int)else(n:Int)))=(n:Int):=by repeat' split<;>omega
  simp only[ZhV,fF,hr,Option.bind_some,Bool.not_true,cond_false,ZdR,cond_true,cC,ZkE];have hs:ZbT (n:Int) 64=(n:Int)-64:=Zil (by omega) (by omega);rw[hs];by_cases h64:n<=64
  .rw[Zzi n h64,ZJC _ (by omega)];simp only[Option.bind_some];rw[Zrc p _ (by omega) (by have:=Nat.pow_pos (a:=2) (n:=64-n) (by omega);omega),ZyW p (64-n) 64 (by omega) (by omega)];have:=Zrc q 0 (by omega) (by omega);rw[Nat.and_zero]at this;rw[show (0:Int)=((0:Nat):Int)from rfl,this];simp[ZjC,h64]
  .rw[ZHE _ (by omega),show (n:Int)-64=((n-64:Nat):Int)by omega,Zzi (n-64) (by omega)];simp only[Option.bind_some];have e1:=Zrc p 18446744073709551615 (by omega) (by omega);have e2:=ZyW p 0 64 (by omega) (by omega);rw[show (2:Nat) ^ 64-2 ^ 0=18446744073709551615 from rfl,Nat.pow_zero,Nat.mod_one,Nat.sub_zero]at e2;rw[e2]at e1;rw[show (18446744073709551615:Int)=((18446744073709551615:Nat):Int)from rfl,e1];rw[show 64-(n-64)=128-n by omega,Zrc q _ (by omega) (by have:=Nat.pow_pos (a:=2) (n:=128-n) (by omega);omega),ZyW q (128-n) 64 (by omega) (by omega)];simp[ZjC,h64]
theorem ZiI(a:Zai)(n:Nat):(ZjC a n).fV6=a.fV6:=by
 unfold ZjC;cases h:a.fV6
 .rfl
 .simp only[if_true];split<;>rfl
theorem ZjL{a:Zai}(h:Fits a)(n:Nat):Fits (ZjC a n):=by
 have:=h.hi0;have:=h.hi1;have:=h.lo0;have:=h.lo1;have l:∀x y:Nat,x-x % y<=x:=fun x y=>Nat.sub_le _ _;have l1:=l a.fHi.toNat (2 ^ (64-n));have l2:=l a.fLo.toNat (2 ^ (128-n));have l3:=l a.fLo.toNat (2 ^ (32-n));unfold ZjC;cases hv:a.fV6
 .have:=h.v4 hv;simp only[Bool.false_eq_true,if_false];exact⟨by simp only;omega,by simp only;omega,by simp only;omega,by simp only;omega,fun _=>⟨this.1,by simp only;omega⟩⟩
 .simp only[if_true];split
  .exact⟨by simp only;omega,by simp only;omega,by simp only;omega,by simp only;omega,fun h=>by simp at h⟩
  .exact⟨by simp only;omega,by simp only;omega,by simp only;omega,by simp only;omega,fun h=>by simp at h⟩
theorem ZoO{hi lo j:Nat}(hl:lo<2 ^ 64):(2 ^ 64*hi+lo).testBit j=if j<64 then lo.testBit j else hi.testBit (j-64):=Nat.testBit_two_pow_mul_add hi hl j
theorem Zlr{a:Zai}(h:Fits a)(n i:Nat)(hn:n<=wid a)(hi:i<wid a):bitN (ZjC a n) i=(decide (i<n)&&bitN a i):=by
 have h1:=h.hi0;have h2:=h.hi1;have h3:=h.lo0;have h4:=h.lo1;unfold bitN;have hw:wid (ZjC a n)=wid a:=by unfold wid;rw[ZiI]
 rw[hw];unfold wid at hn hi ⊢;unfold num ZjC;cases hv:a.fV6
 .simp only[hv,Bool.false_eq_true,if_false]at *
  rw[Int.toNat_natCast,ZCl];congr 1;rw[decide_eq_decide];omega
 .simp only[hv,if_true]at *
  have md:a.fLo.toNat<2 ^ 64:=by omega
  by_cases h64:n<=64
  .simp only[h64,if_true,Int.toNat_natCast];rw[ZoO (by simp),ZoO md];by_cases hj:128-1-i<64
   .simp only[hj,if_true];rw[show (decide (i<n))=false by rw[decide_eq_false_iff_not];omega];simp
   .simp only[hj,if_false];rw[ZCl];congr 1;rw[decide_eq_decide];omega
  .simp only[h64,if_false,if_true,Int.toNat_natCast];rw[ZoO (Nat.lt_of_le_of_lt (Nat.sub_le _ _) md),ZoO md];by_cases hj:128-1-i<64
   .simp only[hj,if_true];rw[ZCl];congr 1;rw[decide_eq_decide];omega
   .simp only[hj,if_false];rw[show (decide (i<n))=true by rw[decide_eq_true_eq];omega];simp
theorem ZEw{a:Zai}(h:Fits a)(hr:Zda a=true)(n:Nat):Zda (ZjC a n)=true:=by
 have h1:=h.hi0;have h2:=h.hi1;have h3:=h.lo0;have h4:=h.lo1;unfold ZjC;cases hv:a.fV6
 .have:=h.v4 hv;have l3:a.fLo.toNat-a.fLo.toNat % 2 ^ (32-n)<=a.fLo.toNat:=Nat.sub_le _ _;simp[Zda,this.1];omega
 .simp only[if_true];split
  .simp[Zda]
  .rename_i h64;unfold Zda at hr ⊢;rw[hv]at hr;simp only[if_true,Bool.not_eq_true',Bool.and_eq_false_iff,decide_eq_false_iff_not]at hr ⊢;rcases hr with hr|hr
   .exact .inl hr
   .refine .inr fun e=>hr ?_;have e':(a.fLo.toNat-a.fLo.toNat % 2 ^ (128-n)) / 4294967296=65535:=by omega
    have hx:a.fLo.toNat-a.fLo.toNat % 2 ^ (128-n)=2 ^ (128-n)*(a.fLo.toNat / 2 ^ (128-n)):=by have:=Nat.div_add_mod a.fLo.toNat (2 ^ (128-n));omega
    rw[hx]at e';by_cases hk:128-n<=32
    .have hp:(4294967296:Nat)=2 ^ (128-n) * 2 ^ (32-(128-n)):=by
      rw[<-Nat.pow_add,show 128-n+(32-(128-n))=32 by omega]
     rw[hp,Nat.mul_div_mul_left _ _ (Nat.pow_pos (by omega)),Nat.div_div_eq_div_mul,<-hp]at e';omega
    .have hp:(2:Nat) ^ (128-n)=4294967296*(2 * 2 ^ (128-n-33)):=by
      rw[show (4294967296:Nat)*(2 * 2 ^ (128-n-33))=2 ^ 33 * 2 ^ (128-n-33)by omega,<-Nat.pow_add];congr 1;omega
     rw[hp,Nat.mul_assoc,Nat.mul_div_cancel_left _ (by omega),Nat.mul_assoc]at e';omega
def ZhW(p:Zag):Bool:=Zda p.fAddr&&decide (0<=p.fBits)&&decide (p.fBits<=(wid p.fAddr:Int))&&decide (ZjC p.fAddr p.fBits.toNat=p.fAddr)
structure RN (p:Zag):Prop where
 ok:p.fAddr.ok
 right:Zda p.fAddr=true
 nn:0<=p.fBits
 le:p.fBits<=(wid p.fAddr:Int)
 cut:ZjC p.fAddr p.fBits.toNat=p.fAddr
theorem RN.fits{p:Zag}(h:RN p):Fits p.fAddr:=Zpp h.ok h.right
theorem ZwZ{p:Zag}(h:p.fAddr.ok):ZhW p=true↔RN p:=by
 unfold ZhW;simp only[Bool.and_eq_true,decide_eq_true_eq];exact⟨fun⟨⟨⟨a,b⟩,c⟩,d⟩=>⟨h,a,b,c,d⟩,fun⟨_,a,b,c,d⟩=>⟨⟨⟨a,b⟩,c⟩,d⟩⟩
theorem ZCq(a:Zai):ZdR a=some (wid a:Int):=by
 unfold ZdR wid;cases a.fV6<;>rfl
theorem ZBB(a:Zai)(h:a.ok)(n:Int):ZfH a n=some (if Zda a=true/\0<=n/\n<=(wid a:Int)then(⟨ZjC a n.toNat,n⟩,true)else(⟨⟨false,0,0⟩,0⟩,false)):=by
 simp only[ZfH,ZjU a h,ZCq,Option.bind_some,Zam];cases hr:Zda a
 .simp
 .simp only[Bool.not_true,cond_false,true_and];by_cases h0:n<0
  .rw[if_pos h0,if_neg (by omega)]
  .rw[if_neg h0];by_cases h1:n>(wid a:Int)
   .rw[if_pos h1,if_neg (by omega)]
   .rw[if_neg h1,if_pos (by omega)];have:=ZGd h hr n.toNat (by omega);rw[Int.toNat_of_nonneg (by omega)]at this;rw[this];rfl
theorem ZoF(p:Zag)(h:p.fAddr.ok):ZhG p=some (ZhW p):=by
 simp only[ZhG,ZBB _ h,Option.bind_some];unfold ZhW;split
 .rename_i hh;simp only[cond_true,hh.1,hh.2.1,hh.2.2,decide_true,Bool.true_and,Option.some.injEq];rw[decide_eq_decide];obtain⟨x,n⟩:=p;simp
 .rename_i hh;simp only[cond_false,Option.some.injEq];rw[eq_comm,Bool.eq_false_iff];intro hq;simp only[Bool.and_eq_true,decide_eq_true_eq]at hq;exact hh ⟨hq.1.1.1,hq.1.1.2,hq.1.2⟩
def bs(p:Zag):List Bool:=(List.range p.fBits.toNat).map (bitN p.fAddr)
theorem ZJv(p:Zag):(bs p).length=p.fBits.toNat:=by simp[bs]
theorem ZJw(p:Zag)(i:Nat)(h:i<p.fBits.toNat):(bs p)[i]?=some (bitN p.fAddr i):=by simp[bs,h]
theorem ZFE{p:Zag}(h:RN p)(i:Nat)(hi:i<wid p.fAddr)(hn:p.fBits.toNat<=i):bitN p.fAddr i=false:=by
 have h1:=Zlr h.fits p.fBits.toNat i (by have:=h.le;omega) hi;rw[h.cut]at h1;rw[h1];rw[show decide (i<p.fBits.toNat)=false by rw[decide_eq_false_iff_not];omega];rfl
theorem ZKO{p q:Zag}(hp:RN p)(hq:RN q)(hv:p.fAddr.fV6=q.fAddr.fV6)(hb:bs p=bs q):p=q:=by
 have hw:wid p.fAddr=wid q.fAddr:=by unfold wid;rw[hv]
 have hn:p.fBits=q.fBits:=by
  have:=congrArg List.length hb;rw[ZJv,ZJv]at this;have:=hp.nn;have:=hq.nn;omega
 have ha:p.fAddr=q.fAddr:=by
  refine Ztc hp.fits hq.fits hv fun i hi=>?_;by_cases h:i<p.fBits.toNat
  .have h1:=ZJw p i h;rw[hb,ZJw q i (by omega)]at h1;exact(Option.some.inj h1).symm
  .rw[ZFE hp i hi (by omega),ZFE hq i (by omega) (by omega)]
 obtain⟨x,n⟩:=p;obtain⟨y,m⟩:=q;simp only at hn ha;rw[hn,ha]
theorem ZJN{a:Zai}(h:a.ok)(hr:Zda a=true)(n:Nat)(hn:n<=wid a):RN ⟨ZjC a n,(n:Int)⟩/\bs ⟨ZjC a n,(n:Int)⟩=(List.range n).map (bitN a):=by
 have hf:=Zpp h hr;have hw:wid (ZjC a n)=wid a:=by unfold wid;rw[ZiI]
 refine⟨⟨(ZjL hf n).ok,ZEw hf hr n,by simp only;omega,by simp only;omega,?_⟩,?_⟩
 .simp only[Int.toNat_natCast];refine Ztc (ZjL (ZjL hf n) n) (ZjL hf n) (ZiI _ _) fun i hi=>?_;have hi:i<wid a:=by unfold wid at hi ⊢;rwa [ZiI,ZiI]at hi
  rw[Zlr (ZjL hf n) n i (by omega) (by omega),Zlr hf n i hn hi];cases decide (i<n)<;>simp
 .unfold bs;simp only[Int.toNat_natCast];apply List.map_congr_left;intro i hi;have hi:i<n:=by simpa using hi
  rw[Zlr hf n i hn (by omega),show decide (i<n)=true by rw[decide_eq_true_eq];exact hi];rfl
theorem ZLe(p:Zag)(a:Zai)(hp:RN p)(ha:a.ok):Zoy p a=some (Zda a&&decide (p.fAddr.fV6=a.fV6)&&decide (∀i,i<p.fBits.toNat->bitN a i=bitN p.fAddr i)):=by
 have hrc:=(ZwZ hp.ok).2 hp;simp only[Zoy,ZoF p hp.ok,hrc,ZjU a ha,Option.bind_some,cond_true];cases hr:Zda a
 .rfl
 .simp only[cond_true,Bool.true_and];by_cases hv:p.fAddr.fV6=a.fV6
  .have hw:wid p.fAddr=wid a:=by unfold wid;rw[hv]
   have hm:=ZGd ha hr p.fBits.toNat (by have:=hp.le;omega);rw[Int.toNat_of_nonneg hp.nn]at hm;have hf:=Zpp ha hr;rw[show (p.fAddr.fV6==a.fV6)=true by simp[hv],cond_true,hm,decide_eq_true hv];simp only[Option.bind_some,Bool.true_and,Option.some.injEq];rw[decide_eq_decide];have hle:p.fBits.toNat<=wid a:=by have:=hp.le;omega
   constructor
   .intro e i hi;have h1:=Zlr hf p.fBits.toNat i hle (by omega);rw[e,decide_eq_true hi]at h1;simpa using h1.symm
   .intro h;refine Ztc (ZjL hf _) hp.fits (by rw[ZiI];exact hv.symm) fun i hi=>?_;have hi:i<wid a:=by unfold wid at hi ⊢;rwa [ZiI]at hi
    rw[Zlr hf p.fBits.toNat i hle hi];by_cases hb:i<p.fBits.toNat
    .rw[decide_eq_true hb,h i hb];rfl
    .rw[decide_eq_false hb,ZFE hp i (by omega) (by omega)];rfl
  .rw[show (p.fAddr.fV6==a.fV6)=false by simp[hv],cond_false,decide_eq_false hv];rfl
theorem ZtO(n k:Nat)(hk:k<64)(hn:n<2 ^ 64):IntKind.i64.wrap (IntKind.u64.wrap (((BitVec.ofInt (IntKind.bits .u64) (Int.fdiv (n:Int) (2 ^ (min ((k:Nat):Int).toNat (IntKind.bits .u64))))) &&& (BitVec.ofInt (IntKind.bits .u64) (1:Int))).toNat:Int))=if n.testBit k then 1 else 0:=by
 rw[Int.toNat_natCast,show min k (IntKind.bits .u64)=k from Nat.min_eq_left (by simp[IntKind.bits];omega)];have e:Int.fdiv (n:Int) (2 ^ k)=((n / 2 ^ k:Nat):Int):=by
  rw[Int.fdiv_eq_ediv_of_nonneg _ (by have:(0:Int)<2 ^ k:=Int.pow_pos (by omega);omega)];simp
 have h1:n / 2 ^ k<2 ^ 64:=Nat.lt_of_le_of_lt (Nat.div_le_self _ _) hn;rw[e,show (1:Int)=((1:Nat):Int)from rfl,Zrc _ 1 h1 (by omega),Nat.and_one_is_mod,Nat.testBit_eq_decide_div_mod_eq];have h2:n / 2 ^ k % 2<2:=Nat.mod_lt _ (by omega);have h3:IntKind.i64.wrap ((n / 2 ^ k % 2:Nat):Int)=((n / 2 ^ k % 2:Nat):Int):=by
  simp only[IntKind.wrap,IntKind.bits,IntKind.signed];simp;omega
 rw[h3];simp only[decide_eq_true_eq];split<;>omega
theorem ZHq{a:Zai}(h:Fits a)(i:Nat)(hi:i<wid a):ZhF a (i:Int)=some (if bitN a i then 1 else 0):=by
 have h1:=h.hi0;have h2:=h.hi1;have h3:=h.lo0;have h4:=h.lo1;obtain⟨v,cH,lo⟩:=a;obtain⟨p,hp⟩:=Zje h.hi0;obtain⟨q,hq⟩:=Zje h.lo0;simp only at hp hq h1 h2 h3 h4;subst hp hq;cases v with
 |false=>
  have hi:i<32:=hi;have hv:=h.v4 rfl;simp only at hv;have e:ZbT (ZbT (32:Int) 1) (i:Int)=((31-i:Nat):Int):=by rw[show ZbT (32:Int) 1=31 from rfl,Zil (by omega) (by omega)];omega
  simp only[ZhF,ZdR,cond_false,Option.bind_some,Zam,e];rw[if_neg (by omega),if_neg (by omega),if_neg (by omega),Zax (by omega),ZtO q _ (by omega) (by omega)];rfl
 |true=>
  have hi:i<128:=hi;have e:ZbT (ZbT (128:Int) 1) (i:Int)=((127-i:Nat):Int):=by rw[show ZbT (128:Int) 1=127 from rfl,Zil (by omega) (by omega)];omega
  simp only[ZhF,ZdR,cond_true,Option.bind_some,Zam,e];rw[if_neg (by omega),if_neg (by omega)];have hb:bitN ⟨true,(p:Int),(q:Int)⟩ i=if 127-i<64 then q.testBit (127-i)else p.testBit (127-i-64):=by
   unfold bitN num wid;simp only[if_true,Int.toNat_natCast];rw[ZoO (by omega)]
  rw[hb];by_cases h64:i<64
  .have e2:ZbT ((127-i:Nat):Int) 64=((127-i-64:Nat):Int):=by rw[Zil (by omega) (by omega)];omega
   rw[if_pos (by omega),e2,Zax (by omega),ZtO p _ (by omega) (by omega),if_neg (show ¬127-i<64 by omega)]
  .rw[if_neg (by omega),Zax (by omega),ZtO q _ (by omega) (by omega),if_pos (show 127-i<64 by omega)]
theorem ZxR{p:Zag}(h:RN p)(i:Nat)(hi:i<wid p.fAddr):Zig p (i:Int)=some (if bitN p.fAddr i then 1 else 0):=by
 simp only[Zig,ZHq h.fits i hi,Option.bind_some]
def Len(z r:Nat):Prop:=z<2 ^ r/\(0<r->2 ^ (r-1)<=z)
theorem Zvr{z r:Nat}(k:Nat)(hz:2 ^ k<=z)(h:Len (z / 2 ^ k) r):Len z (r+k)/\0<r:=by
 have hk:0<2 ^ k:=Nat.pow_pos (by omega);have h1:1<=z / 2 ^ k:=(Nat.le_div_iff_mul_le hk).2 (by omega);have hr:0<r:=by
  rcases Nat.eq_zero_or_pos r with e|e
  .subst e;have:=h.1;simp at this;omega
  .exact e
 refine⟨⟨?_,fun _=>?_⟩,hr⟩
 .rw[Nat.pow_add];exact(Nat.div_lt_iff_lt_mul hk).1 h.1
 .have:=(Nat.le_div_iff_mul_le hk).1 (h.2 hr);rw[<-Nat.pow_add]at this;rwa [show r+k-1=r-1+k by omega]
set_option maxRecDepth 100000 in
theorem ZLb:∃T:ByteArray,T.size=256/\(∀i:Fin 256,i.val<2 ^ ZkX T i.val/\(0<ZkX T i.val->2 ^ (ZkX T i.val-1)<=i.val)/\ZkX T i.val<=8)/\∀v0 v2:Int,ZeB v0 v2 =
  bif(decide (v0>=(256:Int)))then
   need (0<=(IntKind.wrap .u8 (Int.fdiv v0 (2 ^ (min (8:Int).toNat (IntKind.bits .u64)))))/\(IntKind.wrap .u8 (Int.fdiv v0 (2 ^ (min (8:Int).toNat (IntKind.bits .u64)))))<((T.size:Nat):Int)) <|
   some (ZaA (ZaA v2 (8:Int)) (IntKind.wrap .i64 ((ZkX T (IntKind.wrap .u8 (Int.fdiv v0 (2 ^ (min (8:Int).toNat (IntKind.bits .u64))))).toNat:Nat):Int)))
  else
   need (0<=(IntKind.wrap .u8 v0)/\(IntKind.wrap .u8 v0)<((T.size:Nat):Int)) <|
   some (ZaA v2 (IntKind.wrap .i64 ((ZkX T (IntKind.wrap .u8 v0).toNat:Nat):Int))):=by
 refine⟨_,?_,?_,fun v0 v2=>rfl⟩
 .rfl
 .decide +kernel
theorem ZFk{a:Int}(h:0<=a)(h':a<256):IntKind.u8.wrap a=a:=by
 simp only[IntKind.wrap,IntKind.bits,IntKind.signed];simp;omega
theorem Zzc{a:Int}(h:0<=a)(h':a<256):IntKind.i64.wrap a=a:=by
 simp only[IntKind.wrap,IntKind.bits,IntKind.signed];simp;omega
theorem ZLd(z v:Nat)(hz:z<65536)(hv:v<=1000):∃r,Len z r/\r<=16/\ZeB (z:Int) (v:Int)=some ((v+r:Nat):Int):=by
 obtain⟨T,hT,hi,he⟩:=ZLb;rw[he,Zam,hT];by_cases h:256<=z
 .rw[if_pos (by omega)];have e:Int.fdiv (z:Int) (2 ^ (min (8:Int).toNat (IntKind.bits .u64)))=((z / 256:Nat):Int):=by
   rw[show (2:Int) ^ (min (8:Int).toNat (IntKind.bits .u64))=256 from rfl,Int.fdiv_eq_ediv_of_nonneg _ (by omega)];rfl
  obtain⟨h1,h2,h3⟩:=hi ⟨z / 256,by omega⟩;simp only at h1 h2 h3;rw[e,ZFk (by omega) (by omega),Zax (by omega),Int.toNat_natCast,Zzc (by omega) (by omega)];obtain⟨h4,h5⟩:=Zvr (z:=z) (r:=ZkX T (z / 256)) 8 (by omega) ⟨by rw[show (2:Nat) ^ 8=256 from rfl];exact h1,by rw[show (2:Nat) ^ 8=256 from rfl];exact h2⟩;refine⟨_,h4,by omega,?_⟩;rw[Zeo (a:=(v:Int)) (by omega) (by omega),Zeo (by omega) (by omega)];congr 1;omega
 .rw[if_neg (by omega)];obtain⟨h1,h2,h3⟩:=hi ⟨z,by omega⟩;simp only at h1 h2 h3;rw[ZFk (by omega) (by omega),Zax (by omega),Int.toNat_natCast,Zzc (by omega) (by omega)];refine⟨_,⟨h1,h2⟩,by omega,?_⟩;rw[Zeo (by omega) (by omega)];congr 1
theorem ZLc(z v:Nat)(hz:z<4294967296)(hv:v<=900):∃r,Len z r/\r<=32/\ZeC (z:Int) (v:Int)=some ((v+r:Nat):Int):=by
 simp only[ZeC,Zam];by_cases h:65536<=z
 .rw[if_pos (by omega)];have e:Int.fdiv (z:Int) (2 ^ (min (16:Int).toNat (IntKind.bits .u64)))=((z / 65536:Nat):Int):=by
   rw[show (2:Int) ^ (min (16:Int).toNat (IntKind.bits .u64))=65536 from rfl,Int.fdiv_eq_ediv_of_nonneg _ (by omega)];rfl
  rw[e,show ZaA (v:Int) 16=((v+16:Nat):Int)by rw[Zeo (by omega) (by omega)];omega];obtain⟨r,h1,h2,h3⟩:=ZLd (z / 65536) (v+16) (by omega) (by omega);obtain⟨h4,_⟩:=Zvr (z:=z) 16 (by omega) (by rw[show (2:Nat) ^ 16=65536 from rfl];exact h1);exact⟨r+16,h4,by omega,by rw[h3];congr 2;omega⟩
 .rw[if_neg (by omega)];obtain⟨r,h1,h2,h3⟩:=ZLd z v (by omega) (by omega);exact⟨r,h1,by omega,h3⟩
theorem len64(z:Nat)(hz:z<2 ^ 64):∃r,Len z r/\r<=64/\ZhC (z:Int)=some ((r:Nat):Int):=by
 simp only[ZhC,Zam];by_cases h:4294967296<=z
 .rw[if_pos (by omega)];have e:Int.fdiv (z:Int) (2 ^ (min (32:Int).toNat (IntKind.bits .u64)))=((z / 4294967296:Nat):Int):=by
   rw[show (2:Int) ^ (min (32:Int).toNat (IntKind.bits .u64))=4294967296 from rfl,Int.fdiv_eq_ediv_of_nonneg _ (by omega)];rfl
  rw[e];obtain⟨r,h1,h2,h3⟩:=ZLc (z / 4294967296) 32 (by omega) (by omega);obtain⟨h4,_⟩:=Zvr (z:=z) 32 (by omega) (by rw[show (2:Nat) ^ 32=4294967296 from rfl];exact h1);exact⟨r+32,h4,by omega,by rw[show (32:Int)=((32:Nat):Int)from rfl,h3];congr 2;omega⟩
 .rw[if_neg (by omega)];obtain⟨r,h1,h2,h3⟩:=ZLc z 0 (by omega) (by omega);exact⟨r,h1,by omega,by rw[show (0:Int)=((0:Nat):Int)from rfl,h3];congr 2;omega⟩
theorem ZFj(a b:Nat)(ha:a<2 ^ 64)(hb:b<2 ^ 64):IntKind.u64.wrap (((BitVec.ofInt (IntKind.bits .u64) (a:Int)) ^^^ (BitVec.ofInt (IntKind.bits .u64) (b:Int))).toNat:Int)=((a ^^^ b:Nat):Int):=by
 have h1:∀c:Nat,c<2 ^ 64->(BitVec.ofInt 64 (c:Int)).toNat=c:=fun c hc=>by
  rw[BitVec.ofInt_natCast,BitVec.toNat_ofNat];exact Nat.mod_eq_of_lt hc
 have h2:((BitVec.ofInt (IntKind.bits .u64) (a:Int)) ^^^ (BitVec.ofInt (IntKind.bits .u64) (b:Int))).toNat=a ^^^ b:=by
  show (BitVec.ofInt 64 (a:Int) ^^^ BitVec.ofInt 64 (b:Int)).toNat=a ^^^ b;rw[BitVec.toNat_xor,h1 a ha,h1 b hb]
 rw[h2];have:a ^^^ b<2 ^ 64:=Nat.xor_lt_two_pow ha hb;exact ZhJ (by omega) (by omega)
theorem lead(a b:Nat)(ha:a<2 ^ 64)(hb:b<2 ^ 64):∃k,k<=64/\ZcU ((a ^^^ b:Nat):Int)=some ((k:Nat):Int)/\(∀j,64-k<=j->a.testBit j=b.testBit j)/\(k<64->a.testBit (63-k)≠b.testBit (63-k))/\(k=64↔a ^^^ b=0):=by
 have hx:a ^^^ b<2 ^ 64:=Nat.xor_lt_two_pow ha hb;obtain⟨r,h1,h2,h3⟩:=len64 (a ^^^ b) hx;refine⟨64-r,by omega,?_,fun j hj=>?_,fun hk=>?_,?_⟩
 .simp only[ZcU,h3,Option.bind_some];rw[Zil (by omega) (by omega)];congr 1;omega
 .have h4:(a ^^^ b).testBit j=false:=Nat.testBit_lt_two_pow (Nat.lt_of_lt_of_le h1.1 (Nat.pow_le_pow_right (by omega) (by omega)));rw[Nat.testBit_xor]at h4
  revert h4
  cases a.testBit j<;>cases b.testBit j<;>simp
 .have h4:(a ^^^ b).testBit (r-1)=true:=by
   have h5:=h1.2 (by omega);have h6:a ^^^ b<2 ^ (r-1) * 2:=by rw[<-Nat.pow_succ,show (r-1).succ=r by omega];exact h1.1
   rw[Nat.testBit_eq_decide_div_mod_eq,decide_eq_true_eq];have h7:(a ^^^ b) / 2 ^ (r-1)=1:=by
    have hp:0<2 ^ (r-1):=Nat.pow_pos (by omega);have:=(Nat.le_div_iff_mul_le hp).2 (show 1 * 2 ^ (r-1)<=a ^^^ b by omega);have:=(Nat.div_lt_iff_lt_mul hp).2 (show a ^^^ b<2 * 2 ^ (r-1)by omega);omega
   rw[h7]
  rw[show 63-(64-r)=r-1 by omega];rw[Nat.testBit_xor]at h4
  revert h4
  cases a.testBit (r-1)<;>cases b.testBit (r-1)<;>simp
 .constructor
  .intro e;have:r=0:=by omega
   subst this;have:=h1.1;simpa using this
  .intro e;rw[e]at h1;rcases Nat.eq_zero_or_pos r with h|h
   .omega
   .have:=h1.2 h;have:0<2 ^ (r-1):=Nat.pow_pos (by omega);omega
theorem ZGZ{p q:Zag}(hp:RN p)(hq:RN q)(hv:p.fAddr.fV6=q.fAddr.fV6) :
  ∃k:Nat,Zkd p q=some (k:Int)/\k<=p.fBits.toNat/\k<=q.fBits.toNat/\(∀i,i<k->bitN p.fAddr i=bitN q.fAddr i)/\(k<p.fBits.toNat->k<q.fBits.toNat->bitN p.fAddr k≠bitN q.fAddr k):=by
 have fp:=hp.fits;have fq:=hq.fits;have a1:=fp.hi0;have a2:=fp.hi1;have a3:=fp.lo0;have a4:=fp.lo1;have b1:=fq.hi0;have b2:=fq.hi1;have b3:=fq.lo0;have b4:=fq.lo1;have n1:=hp.nn;have n2:=hq.nn;have l1:=hp.le;have l2:=hq.le;have me:=fp.v4;have mf:=fq.v4;clear hp hq fp fq;obtain⟨⟨v,hi,lo⟩,n⟩:=p;obtain⟨⟨v',cH,kO⟩,n'⟩:=q;simp only at hv a1 a2 a3 a4 b1 b2 b3 b4 n1 n2 me mf;subst hv;obtain⟨x,rfl⟩:=Zje a1;obtain⟨y,rfl⟩:=Zje a3;obtain⟨x',rfl⟩:=Zje b1;obtain⟨y',rfl⟩:=Zje b3;obtain⟨n,rfl⟩:=Zje n1;obtain⟨n',rfl⟩:=Zje n2;have cC:(if(n':Int)<(n:Int)then(n':Int)else(n:Int))=((min n n':Nat):Int):=by split<;>omega
 have mg:∀k:Nat,(if((min n n':Nat):Int)<(k:Int)then((min n n':Nat):Int)else(k:Int))=((min k (min n n'):Nat):Int):=fun k=>by split<;>omega
 obtain⟨k1,c1,c2,c3,c4,c5⟩:=lead x x' (by omega) (by omega);obtain⟨k2,d1,d2,d3,d4,d5⟩:=lead y y' (by omega) (by omega);simp only[Zkd,ZFj x x' (by omega) (by omega),ZFj y y' (by omega) (by omega),c2,d2,Option.bind_some,cC]
 -- what is to be shown of a number
 have bC:∀k:Nat,(∀i,i<k->i<wid ⟨v,x,y⟩->bitN ⟨v,x,y⟩ i=bitN ⟨v,x',y'⟩ i)->(k<wid ⟨v,x,y⟩->bitN ⟨v,x,y⟩ k≠bitN ⟨v,x',y'⟩ k) ->
   (min k (min n n'))<=n/\(min k (min n n'))<=n'/\(∀i,i<min k (min n n')->bitN ⟨v,x,y⟩ i=bitN ⟨v,x',y'⟩ i)/\((min k (min n n'))<n->(min k (min n n'))<n'->bitN ⟨v,x,y⟩ (min k (min n n'))≠bitN ⟨v,x',y'⟩ (min k (min n n'))):=by
  intro k h1 h2;simp only at l1 l2;refine⟨by omega,by omega,fun i hi=>h1 i (by omega) (by omega),fun h3 h4=>?_⟩;have e:min k (min n n')=k:=by omega
  rw[e];exact h2 (by omega)
 cases v with
 |false=>
  have e1:=(me rfl).1;have e2:=(mf rfl).1;have e3:=(me rfl).2;have e4:=(mf rfl).2;have eY:x ^^^ x'=0:=by rw[show x=x' by omega,Nat.xor_self]
  have hk2:32<=k2:=by
   rcases Nat.lt_or_ge k2 32 with h|h
   .exfalso;apply d4 (by omega);rw[Nat.testBit_lt_two_pow (Nat.lt_of_lt_of_le (show y<2 ^ 32 by omega) (Nat.pow_le_pow_right (by omega) (by omega))),Nat.testBit_lt_two_pow (Nat.lt_of_lt_of_le (show y'<2 ^ 32 by omega) (Nat.pow_le_pow_right (by omega) (by omega)))]
   .exact h
  rw[eY,show (((0:Nat):Int)==0)=true from rfl,cond_true];have e5:ZbT (ZaA 64 (k2:Int)) (ZbT 128 32)=((k2-32:Nat):Int):=by
   rw[Zeo (by omega) (by omega),show ZbT (128:Int) 32=96 from rfl,Zil (by omega) (by omega)];omega
  simp only[ZfG,Bool.not_false,cond_true,ZdR,cond_false,Option.bind_some,e5,mg];refine⟨_,rfl,?_⟩;refine bC (k2-32) (fun i h1 h2=>?_) (fun h=>?_)
  .have h2:i<32:=h2;show (y.testBit (32-1-i))=(y'.testBit (32-1-i));exact d3 _ (by omega)
  .have h:k2-32<32:=h;show (y.testBit (32-1-(k2-32)))≠(y'.testBit (32-1-(k2-32)));rw[show 32-1-(k2-32)=63-k2 by omega];exact d4 (by omega)
 |true=>
  have hb:∀(x y:Nat),y<2 ^ 64->∀i,bitN ⟨true,(x:Int),(y:Int)⟩ i=if 127-i<64 then y.testBit (127-i)else x.testBit (127-i-64):=fun x y hy i=>by
   unfold bitN num wid;simp only[if_true,Int.toNat_natCast];rw[ZoO (by omega)]
  by_cases hx:x ^^^ x'=0
  .rw[hx,show (((0:Nat):Int)==0)=true from rfl,cond_true];have hxx:x=x':=by
    apply Nat.eq_of_testBit_eq;intro j;exact c3 j (by have:=c5.2 hx;omega)
   have e5:ZaA 64 (k2:Int)=((64+k2:Nat):Int):=by rw[Zeo (by omega) (by omega)];omega
   simp only[ZfG,Bool.not_true,cond_false,e5,mg];refine⟨_,rfl,?_⟩;refine bC (64+k2) (fun i h1 h2=>?_) (fun h=>?_)
   .have h2:i<128:=h2;rw[hb x y (by omega),hb x' y' (by omega),hxx];split
    .exact d3 _ (by omega)
    .rfl
   .have h:64+k2<128:=h;rw[hb x y (by omega),hb x' y' (by omega),if_pos (by omega),if_pos (by omega)];rw[show 127-(64+k2)=63-k2 by omega];exact d4 (by omega)
  .have hk:k1<64:=by
    rcases Nat.lt_or_ge k1 64 with h|h
    .exact h
    .exact absurd (c5.1 (by omega)) hx
   have hne:(((x ^^^ x':Nat):Int)==0)=false:=by
    rw[beq_eq_false_iff_ne];intro e;exact hx (by omega)
   rw[hne,cond_false];simp only[ZfG,Bool.not_true,cond_false,mg];refine⟨_,rfl,?_⟩;refine bC k1 (fun i h1 h2=>?_) (fun h=>?_)
   .rw[hb x y (by omega),hb x' y' (by omega),if_neg (by omega),if_neg (by omega)];exact c3 _ (by omega)
   .rw[hb x y (by omega),hb x' y' (by omega),if_neg (by omega),if_neg (by omega)];rw[show 127-k1-64=63-k1 by omega];exact c4 hk
end Go.Proofs.YtdjfoojllbfcgaaGreat
