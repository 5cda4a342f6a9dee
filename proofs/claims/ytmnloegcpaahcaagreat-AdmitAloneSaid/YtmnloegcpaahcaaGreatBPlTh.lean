import Derived.Test.YtmnloegcpaahcaaGreatBPlXd
import Derived.Test.YtmnloegcpaahcaaGreatBPlTa
namespace Go.Proofs.YtmnloegcpaahcaaGreat
set_option linter.unusedVariables false
set_option linter.unusedSimpArgs false
set_option linter.unusedSectionVars false
def TotJ(K:Cx)(L:Ins):Prop:=∀x∈L,∀y∈L,x≠y->ltJ K x y=true\/ltJ K y x=true
theorem Zna{K:Cx}:∀(l:Ins)(b:Int),TotJ K (b :: l)->∀y∈b :: l,y≠bstJ K b l->ltJ K (bstJ K b l) y=true
 | [],b,_,y,hy,d=>by
  rw[List.mem_singleton.1 hy]at d
  exact absurd rfl d
 |x :: r,b,g,y,hy,d=>by
  have t1:TotJ K (x :: r):=fun p hp q j=>g p (List.mem_cons_of_mem _ hp) q (List.mem_cons_of_mem _ j)
  have t2:TotJ K (b :: r):=fun p hp q j=>g p (by rcases List.mem_cons.1 hp with h|h<;>simp[h]) q (by rcases List.mem_cons.1 j with h|h<;>simp[h])
  simp only[bstJ]at d ⊢
  by_cases h:ltJ K x b=true
  .rw[if_pos h]at d ⊢
   rcases List.mem_cons.1 hy with rfl|hy
   .by_cases hx:x=bstJ K x r
    .rw[<-hx];exact h
    .exact Zst (Zna r x t1 x (by simp) hx) h
   .exact Zna r x t1 y hy d
  .rw[if_neg h]at d ⊢
   have hb:∀z,ltJ K b z=true->ltJ K (bstJ K b r) z=true:=fun z o=>by
    by_cases hx:b=bstJ K b r
    .rw[<-hx];exact o
    .exact Zst (Zna r b t2 b (by simp) hx) o
   rcases List.mem_cons.1 hy with rfl|hy
   .exact Zna r y t2 y (by simp) d
   .rcases List.mem_cons.1 hy with rfl|hy
    .by_cases hx:y=b
     .subst hx;exact Zna r y t2 y (by simp) d
     .rcases g y (by simp) b (by simp) hx with h1|h1
      .exact absurd h1 h
      .exact hb y h1
    .exact Zna r b t2 y (List.mem_cons_of_mem _ hy) d
def rkJ(K:Cx)(L:Ins)(i:Int):Nat:=(L.filter fun j=>ltJ K j i).length
theorem ZxN{K:Cx}:∀(n:Nat)(L:Ins),L.Nodup->TotJ K L->∀i∈L,(i∈selN K n L↔rkJ K L i<n)
 | 0,L,_,_,i,_=>by simp[selN]
 |n+1,[],_,_,i,hi=>by cases hi
 |n+1,b :: l,hnd,d,i,hi=>by
  have g:=Zwj (K:=K) l b
  have hl:=Zna l b d
  obtain⟨m,hmd⟩ : ∃m,m=bstJ K b l:=⟨_,rfl⟩
  rw[selN,<-hmd]
  rw[<-hmd]at g hl
  have hp:(b :: l).Perm (m :: (b :: l).filter fun x=>x != m):=by
   rw[<-hnd.erase_eq_filter];exact List.perm_cons_erase g
  by_cases h:i=m
  .subst h;have:rkJ K (b :: l) i=0:=by
    unfold rkJ;rw[List.length_eq_zero_iff,List.filter_eq_nil_iff];intro j o;by_cases e:j=i
    .subst e;simp[ZBG]
    .rw[ZDp (hl j o e)];simp
   rw[this];simp
  .have bt:i∈(b :: l).filter fun x=>x != m:=List.mem_filter.2 ⟨hi,by rw[bne_iff_ne];exact h⟩;have ih:=ZxN n ((b :: l).filter fun x=>x != m) (hnd.sublist List.filter_sublist) (fun x hx y p=>d x (List.mem_filter.1 hx).1 y (List.mem_filter.1 p).1) i bt;have t:rkJ K (b :: l) i=rkJ K ((b :: l).filter fun x=>x != m) i+1:=by
    unfold rkJ;rw[(hp.filter _).length_eq,List.filter_cons,if_pos (hl i hi h),List.length_cons]
   rw[List.mem_cons,t,ih];constructor
   .rintro (h2|h2)
    .exact absurd h2 h
    .omega
   .intro h2;right;omega
def rkP(s b:Int)(P:List Zaa)(p:Zaa):Nat:=(P.filter fun q=>cntB b q&&decide (Zoi b s q p<0)).length
def stP(s b n:Int)(P:List Zaa)(p:Zaa):Bool:=!(cntB b p&&decide ((rkP s b P p:Int)<n))
def Zwt(s b n:Int)(P:List Zaa):List Zaa:=P.filter (stP s b n P)
def ZEP(q:Zax)(s:Int)(P:List Zaa):List Zaa:=Zwt s 4 q.fTime (Zwt s 3 q.fWork (Zwt s 2 q.fPing (Zwt s 1 q.fGroup P)))
theorem ZIf{a b:List Zaa}(h:a.Perm b)(s y:Int)(p:Zaa):rkP s y a p=rkP s y b p:=(h.filter _).length_eq
theorem ZqN{a b:List Zaa}(h:a.Perm b)(s y n:Int):(Zwt s y n a).Perm (Zwt s y n b):=by
 unfold Zwt;have e:stP s y n a=stP s y n b:=by
  funext p;unfold stP;rw[ZIf h]
 rw[e];exact h.filter _
theorem ZEO{a b:List Zaa}(h:a.Perm b)(q:Zax)(s:Int):(ZEP q s a).Perm (ZEP q s b):=ZqN (ZqN (ZqN (ZqN h _ _ _) _ _ _) _ _ _) _ _ _
def dEnd(l:List Zaa):Prop:=l.Pairwise fun p q=>p.fEnd≠q.fEnd
theorem dEnd.perm{a b:List Zaa}(h:dEnd a)(hp:a.Perm b):dEnd b:=(List.Perm.pairwise_iff (R:=fun p q:Zaa=>p.fEnd≠q.fEnd) (fun e=>Ne.symm e) hp).1 h
theorem dEnd.filter{l:List Zaa}(h:dEnd l)(p:Zaa->Bool):dEnd (l.filter p):=List.Pairwise.filter p h
theorem ZEV{b s:Int}{p q:Zaa}(h:p.fEnd≠q.fEnd):Zoi b s p q<0\/Zoi b s q p<0:=by
 by_cases g:Zoi b s p q<0
 .exact .inl g
 .right;rw[ZsO]at g ⊢;by_cases o:kv b s q<kv b s p
  .exact .inl o
  .have j:kv b s p=kv b s q:=by
    by_cases d:kv b s p<kv b s q
    .exact absurd (Or.inl d) g
    .omega
   refine .inr ⟨j.symm,?_⟩;have t:¬cmpE p.fEnd q.fEnd<0:=fun d=>g (.inr ⟨j,d⟩);have u:cmpE p.fEnd q.fEnd≠0:=fun d=>h (ZhM.1 d);exact ZiT.1 (by omega)
section
variable {l:List Zaa} (hd:dEnd l)
include hd
theorem at_ne{i j:Int}(hi:0<=i/\i<((l.length:Nat):Int))(b:0<=j/\j<((l.length:Nat):Int))(h:i≠j):(gP l i).fEnd≠(gP l j).fEnd:=by
 have hp:=List.pairwise_iff_getElem.1 hd;unfold gP;rw[ZbT l _ i.toNat (by omega),ZbT l _ j.toNat (by omega)];by_cases d:i<j
 .exact hp i.toNat j.toNat (by omega) (by omega) (by omega)
 .exact(hp j.toNat i.toNat (by omega) (by omega) (by omega)).symm
theorem ZKN{b s:Int}{at_:Ins}(d:inL l at_):TotJ ⟨l,b,s⟩ at_:=fun x hx y g h=>by
 rw[ZrM,ZrM]
 exact ZEV (at_ne hd (d x hx) (d y g) h)
theorem Zui{s b n:Int}{at_:Ins}(o:inL l at_)(p:at_.Nodup):(Znf l s b n at_).map (gP l)=Zwt s b n (at_.map (gP l)):=by
 unfold Znf Zwt;refine(ZyD (gP l) _ _ at_ fun i hi=>?_).symm;have d:(ZfU l b at_).Nodup:=p.sublist List.filter_sublist;have g:TotJ ⟨l,b,s⟩ (ZfU l b at_):=ZKN hd fun x hx=>o x (List.mem_filter.1 hx).1;have hrk:rkJ ⟨l,b,s⟩ (ZfU l b at_) i=rkP s b (at_.map (gP l)) (gP l i):=by
  unfold rkJ rkP ZfU;rw[List.filter_filter,List.filter_map,List.length_map];congr 1;refine List.filter_congr fun j _=>?_;simp only[Function.comp];rw[Bool.and_comm];rfl
 unfold stP;congr 1;rw[<-Zuk _ _ d];rw[Bool.eq_iff_iff,Bool.and_eq_true,decide_eq_true_eq,decide_eq_true_eq];constructor
 .rintro ⟨t,u⟩;have bt:i∈ZfU l b at_:=List.mem_filter.2 ⟨hi,t⟩;rw[ZxN _ _ d g i bt,hrk];omega
 .intro h;have bt:i∈ZfU l b at_:=by
   rw[Zuk _ _ d]at h;exact Zvv _ i (List.mem_of_mem_take h)
  rw[ZxN _ _ d g i bt,hrk]at h;exact⟨(List.mem_filter.1 bt).2,by omega⟩
theorem ZHV:(upto l.length).map (gP l)=l:=by
 apply List.ext_getElem
 .simp[upto]
 .intro i d b;simp only[upto,List.getElem_map,List.getElem_range,gP,Int.toNat_natCast];exact ZbT l _ i b
theorem ZII(q:Zax)(s:Int):(Zvu l q s).map (gP l)=ZEP q s l:=by
 have n0:=Zmq l.length;have i0:inL l (upto l.length):=fun i hi=>ZiW.1 hi;unfold Zvu ZEP;rw[Zui hd (Zjo (Zjo (Zjo i0))) (ZgP (ZgP (ZgP n0))),Zui hd (Zjo (Zjo i0)) (ZgP (ZgP n0)),Zui hd (Zjo i0) (ZgP n0),Zui hd i0 n0,ZHV hd]
end
theorem ZCu{l:List Zaa}(hd:dEnd l)(q:Zax)(s:Int):Zlh l q s=ZEP q s (Zjx l):=ZII (hd.filter _) q s
theorem ZxC{a b:List Zaa}(h:a.Perm b)(g:Zap):ZeR a g=ZeR b g:=(h.filter _).length_eq
def gtQ(l:List Zaa)(p q:Zaa):Prop:=ZeR l (grpP q)<ZeR l (grpP p)\/(ZeR l (grpP p)=ZeR l (grpP q)/\(q.fSince<p.fSince\/(p.fSince=q.fSince/\0<cmpE p.fEnd q.fEnd)))
theorem ZKr{l:List Zaa}{p q:Zaa}(b:¬gtQ l p q)(d:¬gtQ l q p):p.fEnd=q.fEnd:=by
 unfold gtQ at b d;have g:ZeR l (grpP p)=ZeR l (grpP q):=by omega
 have j:p.fSince=q.fSince:=by omega
 have t:¬0<cmpE p.fEnd q.fEnd:=fun h=>b (.inr ⟨g,.inr ⟨j,h⟩⟩);have o:¬0<cmpE q.fEnd p.fEnd:=fun h=>d (.inr ⟨g.symm,.inr ⟨j.symm,h⟩⟩);have u:¬cmpE p.fEnd q.fEnd<0:=fun h=>o (ZiT.2 h);exact ZhM.1 (by omega)
theorem ZFE{l:List Zaa}{n:Nat}(h:TopX l l.length n):l.getD n Zaa.d∈l/\∀q∈l,¬gtQ l q (l.getD n Zaa.d):=by
 have g:=h.lt;refine⟨ZeH l _ n g,fun q j o=>?_⟩;obtain⟨k,b,rfl⟩:=List.getElem_of_mem j;refine h.top k b ?_;rw[Ztp,ZbT l Zaa.d k b];exact o
theorem ZCt{l m:List Zaa}(hp:l.Perm m)(hd:dEnd l)(q:Zax)(s:Int)(hl:l.length<=800)(ho:okPs l):ZeC l q s=ZeC m q s:=by
 have jU:=hd.perm hp;have hl2:m.length<=800:=by rw[<-hp.length_eq];exact hl
 have cJ:okPs m:=fun p h=>ho p (hp.mem_iff.2 h);have gT:=Zwf l q s;have hc2:=Zwf m q s;have jV:(Zlh l q s).Perm (Zlh m q s):=by
  rw[ZCu hd,ZCu jU];exact ZEO (hp.filter _) q s
 have iC:dEnd (Zlh l q s):=by
  rw[ZCu hd];unfold ZEP Zwt;exact((((hd.filter _).filter _).filter _).filter _).filter _
 obtain⟨b1,bL,bU⟩:=Zra (Zlh l q s) (by omega) fun p h=>ho p (Zwe l q s p h).1;obtain⟨b2,bA,iX⟩:=Zra (Zlh m q s) (by omega) fun p h=>cJ p (Zwe m q s p h).1;have hlen:=jV.length_eq;unfold ZeC;rw[ZrU l q s hl ho,ZrU m q s hl2 cJ,ZaJ,ZaJ,bL,bA,ZaJ,ZaJ,Zai,Zai];rcases bU with⟨d,rfl⟩|⟨n1,rfl,t1⟩
 .rw[d,List.length_nil]at hlen;rcases iX with⟨b,rfl⟩|⟨n2,rfl,t2⟩
  .rw[if_pos (by omega),if_pos (by omega)]
  .have:=t2.lt;omega
 .have l1:=t1.lt;rcases iX with⟨b,rfl⟩|⟨n2,rfl,t2⟩
  .rw[b,List.length_nil]at hlen;omega
  .have l2:=t2.lt;obtain⟨m1,g⟩:=ZFE t1;obtain⟨m2,j⟩:=ZFE t2;have hgq:∀p q',gtQ (Zlh m q s) p q'↔gtQ (Zlh l q s) p q':=fun p q'=>by
    unfold gtQ;rw[ZxC jV,ZxC jV]
   have he:=ZKr (fun h=>j _ (jV.mem_iff.1 m1) ((hgq _ _).2 h)) (g _ (jV.mem_iff.2 m2));rw[if_neg (by omega),if_neg (by omega),Zar (by omega),Zar (by omega)];simp only[Int.toNat_natCast];rw[he]
inductive Pr (α:Type) where
 |ret (x:α)
 |ask (o:ZaK) (k:Zag->Pr α)
 |no
def Pr.bind{α β:Type}:Pr α->(α->Pr β)->Pr β | .ret x,f=>f x | .ask o k,f=>.ask o fun v=>(k v).bind f | .no,_=>.no
theorem Pr.bind_ret{α β:Type}(x:α)(f:α->Pr β):(Pr.ret x).bind f=f x:=rfl
theorem Pr.bind_ask{α β:Type}(o:ZaK)(k:Zag->Pr α)(f:α->Pr β):(Pr.ask o k).bind f=.ask o fun v=>(k v).bind f:=rfl
theorem Pr.bind_assoc{α β γ:Type}(p:Pr α)(f:α->Pr β)(g:β->Pr γ):(p.bind f).bind g=p.bind fun x=>(f x).bind g:=by
 induction p with
 |ret x=>rfl
 |ask o k ih=>simp only[Pr.bind_ask,ih]
 |no=>rfl
def runT{α:Type}:Pr α->List Zag->Option (Tout α) | .ret x,l=>some (.ret x ⟨l⟩) | .ask o _,[]=>some (.pan (opN o)) | .ask _ k,v :: l=>runT (k v) l | .no,_=>none
theorem ZIe{α:Type}(p:Pr α):∀(l:List Zag)(s:ByteArray),runT p l≠some (.bad s):=by
 induction p with
 |ret x=>intro l s h;simp[runT]at h
 |ask o k ih=>
  intro l s;cases l with
  |nil=>simp[runT]
  |cons v l=>exact ih v l s
 |no=>intro l s h;simp[runT]at h
theorem Zdl{α β:Type}{p:Pr α}{f:α->Pr β}{l:List Zag}{F:Tout α->Option (Tout β)}(b:∀x a,a<=l.length->runT p l=some (.ret x ⟨l.drop a⟩)->F (.ret x ⟨l.drop a⟩)=runT (f x) (l.drop a))(d:∀o,F (.pan o)=some (.pan o)) :
  (runT p l).bind F=runT (p.bind f) l:=by
 induction p generalizing l with
 |ret x=>
  have:=b x 0 (Nat.zero_le _) rfl;simpa[runT,Pr.bind]using this
 |ask o k ih=>
  cases l with
  |nil=>simp only[runT,Pr.bind,Option.bind_some,d]
  |cons v l=>
   simp only[runT,Pr.bind];refine ih v fun x a ha h=>?_;exact b x (a+1) (by simp only[List.length_cons];omega) h
 |no=>rfl
theorem ZFM{α:Type}{p:Pr α}{l:List Zag}{F:Tout α->Option (Tout α)}(b:∀x g,F (.ret x g)=some (.ret x g))(d:∀o,F (.pan o)=some (.pan o)):(runT p l).bind F=runT p l:=by
 cases h:runT p l with
 |none=>rfl
 |some t=>
  cases t with
  |ret x g=>exact b x g
  |pan o=>exact d o
  |bad s=>exact absurd h (ZIe p l s)
def Znh(l:Zay):Pr Zag:=.ask ⟨5,0,l,0,0,valZ,false⟩ .ret
def ZtK(l:Zay)(v:Zag)(ai:Bool):Pr Unit:=.ask ⟨6,0,l,0,0,v,ai⟩ fun _=>.ret ()
def keyP(k lK:Int)(ai:Bool):Pr Unit:=.ask ⟨k,lK,locZ,0,0,valZ,ai⟩ fun _=>.ret ()
def ZJO(k old al:Int)(ai:Bool):Pr Bool:=.ask ⟨7,0,⟨k,0,0⟩,old,al,valZ,ai⟩ fun v=>.ret (v.fN==1)
theorem ZqM{α:Type}(f:Zag->α)(o:ZaK)(l:List Zag):((Zcv ⟨l⟩ o).bind fun x=>match x with | .ret v g=>some (Tout.ret (f v) g) | .pan q=>some (.pan q) | .bad s=>some (.bad s))=runT (.ask o fun v=>.ret (f v)) l:=by
 cases l with
 |nil=>rw[ZKH];rfl
 |cons v r=>rw[ZJb];rfl
theorem ZuD(l:List Zag)(c:Zay):ZfS ⟨l⟩ c false=runT (Znh c) l:=ZqM id _ l
theorem ZAS(l:List Zag)(c:Zay)(v:Zag)(ai:Bool):ZhD ⟨l⟩ c v ai=runT (ZtK c v ai) l:=ZqM (fun _=>()) _ l
theorem ZJi(l:List Zag)(k old al:Int)(ai:Bool):ZjT ⟨l⟩ ⟨k,0,0⟩ old al ai=runT (ZJO k old al ai) l:=ZqM (fun v=>v.fN==1) _ l
theorem ZDW(l:List Zag)(k:Int)(ai:Bool):Zil ⟨l⟩ k ai=runT (keyP 1 k ai) l:=ZqM (fun _=>()) _ l
theorem ZHI(l:List Zag)(k:Int)(ai:Bool):Zja ⟨l⟩ k ai=runT (keyP 2 k ai) l:=ZqM (fun _=>()) _ l
theorem ZuE(l:List Zag)(k:Int)(ai:Bool):Zeq ⟨l⟩ k ai=runT (keyP 3 k ai) l:=ZqM (fun _=>()) _ l
theorem Zza(l:List Zag)(k:Int)(ai:Bool):ZgR ⟨l⟩ k ai=runT (keyP 4 k ai) l:=ZqM (fun _=>()) _ l
theorem ZJk(l:List Zag)(ai:Bool):ZjU ⟨l⟩ ai=runT (keyP 8 0 ai) l:=ZqM (fun _=>()) _ l
theorem Zys{c:Zay}{l:List Zag}{x:Zag}{g:Zaq}(h:runT (Znh c) l=some (.ret x g)):∃r,l=x :: r/\g=⟨r⟩:=by
 cases l with
 |nil=>simp[runT,Znh]at h
 |cons v r=>
  simp only[runT,Znh,Option.some.injEq,Tout.ret.injEq]at h;exact⟨r,by rw[h.1],h.2.symm⟩
def Zqk(part:Int):Nat->Nat->List Zaa->Pr (List Zaa)|0,_,w=>.ret w|k+1,i,w=>(Znh ⟨6,part,i⟩).bind fun v=>Zqk part k (i+1) (w++[v.fPeer])
def ZtR(part:Int):Pr (List Zaa):=(Znh ⟨5,part,0⟩).bind fun v=>Zqk part v.fN.toNat 0 []
theorem ZGe(part n:Int):∀(k:Nat)(w:List Zaa)(l:List Zag)(fu:Nat),(n-(w.length:Int)).toNat=k->w.length+l.length<=900000->k+1<=fu->Zgq part fu n (w.length:Int) w ⟨l⟩=runT (Zqk part k w.length w) l:=by
 intro k;induction k with
 |zero=>
  intro w l fu d hl g;obtain⟨fu,rfl⟩ : ∃x,fu=x+1:=⟨fu-1,by omega⟩;unfold Zgq;simp only[Zai];rw[if_neg (by omega)];rfl
 |succ k ih=>
  intro w l fu d hl g;obtain⟨fu,rfl⟩ : ∃x,fu=x+1:=⟨fu-1,by omega⟩;unfold Zgq;simp only[Zai];have e:Zll part (w.length:Int)=some ⟨6,part,(w.length:Int)⟩:=rfl;rw[if_pos (by omega),e,ZaJ,ZuD];refine Zdl (fun x a ha h=>?_) (fun o=>rfl);obtain⟨r,rfl,b⟩:=Zys h;simp only[Zaq.mk.injEq]at b;rw[b];simp only[List.length_cons]at hl;dsimp only;rw[Zar (by simp only[List.length_append,List.length_singleton,maxLen];omega)];have j:Zan (w.length:Int) 1=(((w++[x.fPeer]).length:Nat):Int):=by
   rw[add1 (n:=w.length+1) (by omega) (by simp only[maxLen];omega)];simp
  have p:w.length+1=(w++[x.fPeer]).length:=by simp
  rw[j,p];exact ih (w++[x.fPeer]) r fu (by simp only[List.length_append,List.length_singleton];omega) (by simp only[List.length_append,List.length_singleton];omega) (by omega)
theorem ZDV(part:Int)(l:List Zag)(hl:l.length<=900000):Zln ⟨l⟩ part=runT (ZtR part) l:=by
 unfold Zln;have e:Zlm part=some ⟨5,part,0⟩:=rfl;rw[e,ZaJ,ZuD];refine Zdl (fun x a ha h=>?_) (fun o=>rfl);obtain⟨r,rfl,b⟩:=Zys h;simp only[Zaq.mk.injEq]at b;rw[b];simp only[List.length_cons]at hl;dsimp only;have:=ZGe part (if(0:Int)>x.fN then 0 else x.fN) x.fN.toNat [] r ((((if(0:Int)>x.fN then 0 else x.fN))-(0:Int)).toNat+2) (by simp only[List.length_nil];split<;>omega) (by simp only[List.length_nil];omega) (by split<;>omega);exact this
theorem ZuU(part:Int):∀(k i:Nat)(w:List Zaa)(l:List Zag)(x:List Zaa)(g:Zaq),runT (Zqk part k i w) l=some (.ret x g)->x.length+g.fgot.length=w.length+l.length
 | 0,i,w,l,x,g,h=>by simp[Zqk,runT]at h;rw[<-h.1,<-h.2]
 |k+1,i,w,[],x,g,h=>by simp[Zqk,runT,Znh,Pr.bind]at h
 |k+1,i,w,v :: l,x,g,h=>by
  have:=ZuU part k (i+1) (w++[v.fPeer]) l x g h
  simp only[List.length_append,List.length_cons,List.length_nil]at this ⊢
  omega
theorem ZIt{part:Int}{l:List Zag}{x:List Zaa}{g:Zaq}(h:runT (ZtR part) l=some (.ret x g)):x.length<=l.length:=by
 cases l with
 |nil=>simp[ZtR,runT,Znh,Pr.bind]at h
 |cons v l=>
  have:=ZuU part _ _ _ l x g h;simp only[List.length_cons,List.length_nil]at this ⊢;omega
theorem ZzD(part:Int)(Q:Zaa->Prop):∀(k i:Nat)(w:List Zaa)(l:List Zag)(x:List Zaa)(g:Zaq),runT (Zqk part k i w) l=some (.ret x g)->(∀p∈w,Q p)->(∀v∈l,Q v.fPeer)->∀p∈x,Q p
 | 0,i,w,l,x,g,h,b,hl=>by simp[Zqk,runT]at h;rw[<-h.1];exact b
 |k+1,i,w,[],x,g,h,b,hl=>by simp[Zqk,runT,Znh,Pr.bind]at h
 |k+1,i,w,v :: l,x,g,h,b,hl=>by
  refine ZzD part Q k (i+1) (w++[v.fPeer]) l x g h (fun p hp=>?_) (fun v' d=>hl v' (List.mem_cons_of_mem _ d))
  rcases List.mem_append.1 hp with hp|hp
  .exact b p hp
  .rw[List.mem_singleton.1 hp];exact hl v (by simp)
theorem ZIs{part:Int}{Q:Zaa->Prop}{l:List Zag}{x:List Zaa}{g:Zaq}(h:runT (ZtR part) l=some (.ret x g))(hl:∀v∈l,Q v.fPeer):∀p∈x,Q p:=by
 cases l with
 |nil=>simp[ZtR,runT,Znh,Pr.bind]at h
 |cons v l=>exact ZzD part Q _ _ _ l x g h (by simp) fun v' b=>hl v' (List.mem_cons_of_mem _ b)
def wrB(aV al:List Zaa)(i:Nat):Bool:=decide (aV.length<=i) || !decide (aV.getD i Zaa.d=al.getD i Zaa.d)
def wrL(aV al:List Zaa):List Int:=((List.range al.length).filter (wrB aV al)).map fun(i:Nat)=>(i:Int)
theorem ZCB(aV al:List Zaa)(p:al.length<=1000000):ZjK aV al=some (wrL aV al):=by
 have aK:∀(k i f:Nat),al.length-i=k->i<=al.length->k+1<=f->Zdn aV f al (al.length:Int) i (((List.range i).filter (wrB aV al)).map fun(i:Nat)=>(i:Int))=some (wrL aV al):=by
  intro k;induction k with
  |zero=>
   intro i f j hi o;obtain⟨f,rfl⟩ : ∃x,f=x+1:=⟨f-1,by omega⟩;unfold Zdn;simp only[Zai];rw[if_neg (by omega)];have:i=al.length:=by omega
   rw[this];rfl
  |succ k ih=>
   intro i f j hi o;obtain⟨f,rfl⟩ : ∃x,f=x+1:=⟨f-1,by omega⟩;unfold Zdn;simp only[Zai];have g:Zan (i:Int) 1=((i+1:Nat):Int):=add1 (n:=i+1) (by omega) (by simp only[maxLen];omega);have hl:((List.range i).filter (wrB aV al)).length<=i:=by
    have:=List.length_filter_le (wrB aV al) (List.range i);rw[List.length_range]at this;exact this
   have hlen:((((List.range i).filter (wrB aV al)).map fun(i:Nat)=>(i:Int))++[(i:Int)]).length * 8<=140737488355328/\((((List.range i).filter (wrB aV al)).map fun(i:Nat)=>(i:Int))++[(i:Int)]).length<=maxLen:=by
    simp only[List.length_append,List.length_singleton,List.length_map,maxLen];omega
   have jW:wrB aV al i=true->(((List.range i).filter (wrB aV al)).map fun(i:Nat)=>(i:Int))++[(i:Int)]=((List.range (i+1)).filter (wrB aV al)).map fun(i:Nat)=>(i:Int):=fun h=>by
    rw[List.range_succ,List.filter_append,List.map_append,List.filter_cons_of_pos (by rw[h])];rfl
   have dJ:wrB aV al i=false->(((List.range i).filter (wrB aV al)).map fun(i:Nat)=>(i:Int))=((List.range (i+1)).filter (wrB aV al)).map fun(i:Nat)=>(i:Int):=fun h=>by
    rw[List.range_succ,List.filter_append,List.map_append,List.filter_cons_of_neg (by rw[h];decide)];simp
   have bv:=ih (i+1) f (by omega) (by omega) (by omega);rw[if_pos (by omega),Zar (by omega)];by_cases h:(i:Int)>=(aV.length:Int)
   .have hb:wrB aV al i=true:=by unfold wrB;rw[decide_eq_true (show aV.length<=i by omega)];rfl
    rw[if_pos h,Zar hlen,g,jW hb];exact bv
   .rw[if_neg h,Zar (show 0<=(i:Int)/\(i:Int)<(aV.length:Int)by omega)];have h0:decide (aV.length<=i)=false:=decide_eq_false (by omega);by_cases b:aV.getD ((i:Int)).toNat Zaa.d=al.getD ((i:Int)).toNat Zaa.d
    .have hb:wrB aV al i=false:=by
      unfold wrB;rw[h0,Bool.false_or];simp only[Int.toNat_natCast]at b;rw[decide_eq_true b];rfl
     simp only[b,decide_true,Bool.not_true,cond_false,g];rw[dJ hb];exact bv
    .have hb:wrB aV al i=true:=by
      unfold wrB;rw[h0,Bool.false_or];simp only[Int.toNat_natCast]at b;rw[decide_eq_false b];rfl
     simp only[b,decide_false,Bool.not_false,cond_true];rw[Zar hlen,g,jW hb];exact bv
 exact aK al.length 0 _ (by omega) (by omega) (by omega)
theorem ZJI{aV al:List Zaa}{x:Int}(h:x∈wrL aV al):0<=x/\x<(al.length:Int):=by
 unfold wrL at h;obtain⟨i,b,rfl⟩:=List.mem_map.1 h;have:=List.mem_range.1 (List.mem_filter.1 b).1;omega
theorem ZJJ(aV al:List Zaa):(wrL aV al).length<=al.length:=by
 unfold wrL;rw[List.length_map];have:=List.length_filter_le (wrB aV al) (List.range al.length);rw[List.length_range]at this;exact this
def ZrG(part:Int)(al:List Zaa):List Int->Pr Unit | []=>.ret ()|i :: r=>(ZtK ⟨6,part,i⟩ ⟨0,al.getD i.toNat Zaa.d,[],[]⟩ false).bind fun _=>ZrG part al r
def Zqf(part:Int)(aV al:List Zaa):Pr Unit:=(ZrG part al (wrL aV al)).bind fun _=>if aV.length=al.length then .ret ()else ZtK ⟨5,part,0⟩ ⟨(al.length:Int),ZoZ,[],[]⟩ false
theorem Ztd(part:Int)(aV al:List Zaa)(l:List Zag)(g:al.length<=1000000):ZhQ ⟨l⟩ part aV al=runT (Zqf part aV al) l:=by
 unfold ZhQ;rw[ZCB aV al g,ZaJ];have hlen:=ZJJ aV al;have aK:∀(k i f:Nat)(l:List Zag),(wrL aV al).length-i=k->i<=(wrL aV al).length->k+1<=f->ZfG part aV al f (wrL aV al) ((wrL aV al).length:Int) i ⟨l⟩=runT ((ZrG part al ((wrL aV al).drop i)).bind fun _=>if aV.length=al.length then .ret ()else ZtK ⟨5,part,0⟩ ⟨(al.length:Int),ZoZ,[],[]⟩ false) l:=by
  intro k;induction k with
  |zero=>
   intro i f l j hi t;obtain⟨f,rfl⟩ : ∃x,f=x+1:=⟨f-1,by omega⟩;unfold ZfG;simp only[Zai];rw[if_neg (by omega),List.drop_of_length_le (by omega)];have e:Zlm part=some ⟨5,part,0⟩:=rfl;simp only[e,Option.bind_some,ZrG,Pr.bind_ret];by_cases b:aV.length=al.length
   .have d:(((aV.length:Nat):Int) != ((al.length:Nat):Int))=false:=by simp[b]
    rw[if_pos b,d,cond_false];rfl
   .have d:(((aV.length:Nat):Int) != ((al.length:Nat):Int))=true:=by
     rw[bne_iff_ne];omega
    rw[if_neg b,d,cond_true,ZAS];exact ZFM (p:=ZtK ⟨5,part,0⟩ ⟨(al.length:Int),ZoZ,[],[]⟩ false) (fun _ _=>rfl) (fun _=>rfl)
  |succ k ih=>
   intro i f l j hi t;obtain⟨f,rfl⟩ : ∃x,f=x+1:=⟨f-1,by omega⟩;unfold ZfG;simp only[Zai];have u:Zan (i:Int) 1=((i+1:Nat):Int):=add1 (n:=i+1) (by omega) (by simp only[maxLen];omega);have v:=ZJI (ZeH (wrL aV al) (0:Int) i (by omega));have hm':0<=(wrL aV al).getD ((i:Int)).toNat (0:Int)/\(wrL aV al).getD ((i:Int)).toNat (0:Int)<(al.length:Int):=by simpa using v
   have e:∀x,Zll part x=some ⟨6,part,x⟩:=fun _=>rfl;rw[if_pos (by omega),Zar (by omega)];simp only[e,Option.bind_some];rw[Zar hm',ZeQ (wrL aV al) (0:Int) i (by omega)];simp only[ZrG,Pr.bind_assoc,Int.toNat_natCast,ZAS];refine Zdl (fun x a ha h=>?_) (fun o=>rfl);dsimp only;rw[u];exact ih (i+1) f _ (by omega) (by omega) (by omega)
 have:=aK (wrL aV al).length 0 ((((wrL aV al).length:Int)-(0:Int)).toNat+2) l (by omega) (by omega) (by omega);rw[List.drop_zero]at this;exact this
def Zlv(cd:Int)(ai:Bool):Nat->Pr Bool|0=>.no|n+1=>(Znh ⟨1,0,0⟩).bind fun v=>if v.fN>=cd then .ret false else(ZJO 1 v.fN (Zan v.fN 1) ai).bind fun b=>bif b then .ret true else Zlv cd ai n
theorem ZwO(cd:Int)(ai:Bool):∀(f:Nat)(l:List Zag),Zft cd ai f ⟨l⟩ ⟨1,0,0⟩=runT (Zlv cd ai f) l:=by
 intro f;induction f with
 |zero=>intro l;rfl
 |succ f ih=>
  intro l;unfold Zft;rw[ZuD];refine Zdl (fun x a ha h=>?_) (fun o=>rfl);dsimp only;rw[Zai];by_cases d:x.fN>=cd
  .rw[if_pos d,if_pos d];rfl
  .rw[if_neg d,if_neg d,ZJi];refine Zdl (fun b a ha h=>?_) (fun o=>rfl);dsimp only;cases b with
   |true=>rfl
   |false=>exact ih _
theorem Zwq(cd:Int)(ai:Bool)(l:List Zag):Ziq ⟨l⟩ cd ai=runT (Zlv cd ai 1000000) l:=by
 unfold Ziq;exact ZwO cd ai 1000000 l
def ZzV:Nat->Nat->Pr Unit|_,0=>.ret ()|i,k+1=>(keyP 1 (2+(i:Int)) false).bind fun _=>ZzV (i+1) k
def Zsv(p:Int):Pr Unit:=ZzV 0 (Zbk p)
theorem ZKQ{i:Nat}(h:i<=1000):Zan 2 (i:Int)=2+(i:Int):=Zcs (by omega) (by omega)
theorem ZCE(p:Int)(l:List Zag):ZjC ⟨l⟩ p=runT (Zsv p) l:=by
 have j:=(Zij p).2;unfold ZjC;rw[ZtG,ZaJ];have aK:∀(k i f:Nat)(l:List Zag),Zbk p-i=k->i<=Zbk p->k+1<=f->Zew f (Zbk p:Int) i ⟨l⟩=runT (ZzV i k) l:=by
  intro k;induction k with
  |zero=>
   intro i f l b hi d;obtain⟨f,rfl⟩ : ∃x,f=x+1:=⟨f-1,by omega⟩;unfold Zew;simp only[Zai];rw[if_neg (by omega)];rfl
  |succ k ih=>
   intro i f l b hi d;obtain⟨f,rfl⟩ : ∃x,f=x+1:=⟨f-1,by omega⟩;unfold Zew;simp only[Zai];have g:Zan (i:Int) 1=((i+1:Nat):Int):=add1 (n:=i+1) (by omega) (by simp only[maxLen];omega);rw[if_pos (by omega),ZKQ (by omega),ZDW];refine Zdl (fun x a ha h=>?_) (fun o=>rfl);dsimp only;rw[g];exact ih (i+1) f _ (by omega) (by omega) (by omega)
 exact aK (Zbk p) 0 _ l (by omega) (by omega) (by omega)
def Zxr(ai:Bool)(m:Nat):Nat->Pr Unit|0=>.ret ()|n+1=>(keyP 3 (2+(n:Int)) (ai&&decide (n+1=m))).bind fun _=>Zxr ai m n
def Zux(p:Int)(ai:Bool):Pr Unit:=Zxr ai (Zbk p) (Zbk p)
theorem ZCF(p:Int)(ai:Bool)(l:List Zag):ZjD ⟨l⟩ p ai=runT (Zux p ai) l:=by
 have y:=Zij p;unfold ZjD;rw[ZtG,ZaJ];obtain⟨c,b⟩ : ∃c:Nat,Zbk p=c+1:=⟨Zbk p-1,by omega⟩;have aK:∀(n f:Nat)(l:List Zag),n<=Zbk p->n+1<=f->Zdm p ai f ((n:Int)-1) ⟨l⟩=runT (Zxr ai (Zbk p) n) l:=by
  intro n;induction n with
  |zero=>
   intro f l g j;obtain⟨f,rfl⟩ : ∃x,f=x+1:=⟨f-1,by omega⟩;unfold Zdm;simp only[Zai];rw[if_neg (by omega)];rfl
  |succ n ih=>
   intro f l g j;obtain⟨f,rfl⟩ : ∃x,f=x+1:=⟨f-1,by omega⟩;unfold Zdm;simp only[Zai];have t:(((n+1:Nat):Int)-1)=(n:Int):=by omega
   have u:Zbd (n:Int) 1=((n:Int)-1):=by
    cases n with
    |zero=>exact sub0
    |succ n=>rw[ZJL (by omega)];omega
   rw[t,if_pos (by omega),ZKQ (by omega),ZtG];simp only[ZaJ,u];have d:∀m:Bool,m=(ai&&decide (n+1=Zbk p))->((Zeq ⟨l⟩ (2+(n:Int)) m).bind fun x3=>match x3 with
      | .ret x3v x3g=>Zdm p ai f ((n:Int)-1) x3g
      | .pan x3o=>some (Tout.pan x3o)
      | .bad x3s=>some (Tout.bad x3s))=runT (Zxr ai (Zbk p) (n+1)) l:=by
    rintro m rfl;rw[ZuE];refine Zdl (fun x a ha h=>?_) (fun o=>rfl);exact ih f _ (by omega) (by omega)
   cases ai with
   |true=>
    simp only[cond_true];refine d _ ?_;rw[b,ZJL (by omega)];by_cases h:n=c
    .subst h;simp
    .have v:((n:Int)==(c:Int))=false:=beq_false_of_ne (by omega);simp[h,v]
   |false=>
    simp only[cond_false];exact d _ rfl
 have e:Zbd (Zbk p:Int) 1=(Zbk p:Int)-1:=by rw[b,ZJL (by omega)];omega
 rw[e];exact aK (Zbk p) _ l (Nat.le_refl _) (by omega)
def gv0(v:Zag):Prop:=v.ok/\v.fBans.length<=800/\v.fBook.length<=800
def mkd(o:ZaK)(v:Zag):Nat:=if o.fMark=true/\(o.fKind≠7\/v.fN=1)then 1 else 0
inductive Ex {α:Type}:Pr α->ZaE->α->ZaE->Nat->Nat->Prop
 |ret (x:α) (m:ZaE) (s:Nat):Ex (.ret x) m x m s 0
 |ask {o:ZaK} {k:Zag->Pr α} {m m':ZaE} {v:Zag} {x:α} {dB:ZaE} {s c:Nat} (h1:Zbo m (opN o)=some true) (h2:Zbe m (opN o) 0=some (m',v)) (h3:gv0 v) (h4:Ex (k v) m' x dB s c):Ex (.ask o k) m x dB (s+1) (mkd (opN o) v+c)
theorem Ex.more{α:Type}{p:Pr α}{m:ZaE}{x:α}{m':ZaE}{s c:Nat}(h:Ex p m x m' s c):∀{t:Nat},s<=t->Ex p m x m' t c:=by
 induction h with
 |ret x m s=>exact fun _=>.ret x m _
 |ask b d g j ih=>
  intro t o;obtain⟨t,rfl⟩ : ∃u,t=u+1:=⟨t-1,by omega⟩;exact .ask b d g (ih (by omega))
theorem Ex.bind{α β:Type}{p:Pr α}{m:ZaE}{x:α}{m1:ZaE}{s1 d:Nat}(h:Ex p m x m1 s1 d){f:α->Pr β}{y:β}{m2:ZaE}{s2 c2:Nat}:Ex (f x) m1 y m2 s2 c2->Ex (p.bind f) m y m2 (s1+s2) (d+c2):=by
 induction h with
 |ret x m s=>intro b;rw[Nat.zero_add];exact b.more (by omega)
 |ask g b j B ih=>
  rename_i o k m m' v x dB s c;intro t;have u:=Ex.ask (k:=fun v=>(k v).bind f) g b j (ih t);have z:s+1+s2=s+s2+1:=by omega
  have A:mkd (opN o) v+c+c2=mkd (opN o) v+(c+c2):=by omega
  rw[z,A];exact u
theorem Ex.seq{α β:Type}{p:Pr α}{m:ZaE}{x:α}{m1:ZaE}{s1 b:Nat}(h:Ex p m x m1 s1 b){f:α->Pr β}{y:β}{m2:ZaE}{s2 c2 s c:Nat}(d:Ex (f x) m1 y m2 s2 c2)(hs:s1+s2<=s)(g:b+c2=c):Ex (p.bind f) m y m2 s c:=by
 subst g;exact(h.bind d).more hs
def Rs{α:Type}(p:Pr α)(aY:List Zag)(r:Pr α):Prop:=∀l,runT p (aY++l)=runT r l
theorem Rs.nil{α:Type}(p:Pr α):Rs p [] p:=fun _=>rfl
theorem Rs.step{α:Type}{p:Pr α}{aY:List Zag}{o:ZaK}{k:Zag->Pr α}(h:Rs p aY (.ask o k))(v:Zag):Rs p (aY++[v]) (k v):=fun l=>by
 have:=h (v :: l)
 simpa[runT]using this
theorem ZIF{α:Type}{p:Pr α}{c0:Nat->Int->Int->List Zag->ZaE->Option Bool}{F:Int->α->ZaE->Option Bool}
  (lL:∀fu (mk i:Nat) aY m x g,i<400->aY.length<=400->(∀v∈aY,gv0 v)->runT p aY=some (.ret x g)->c0 (fu+1) (mk:Int) (i:Int) aY m=F (mk:Int) x m)
  (lM:∀fu (mk i:Nat) aY m q m' v,i<400->aY.length<=400->mk<=400->(∀v∈aY,gv0 v)->runT p aY=some (.pan q)->Zbo m q=some true->Zbe m q 0=some (m',v) ->
   c0 (fu+1) (mk:Int) (i:Int) aY m=c0 fu ((mk+mkd q v:Nat):Int) ((i+1:Nat):Int) (aY++[v]) m')
  {r:Pr α} {m:ZaE} {x:α} {m':ZaE} {s c:Nat} (h:Ex r m x m' s c):∀(fu mk i:Nat)(aY:List Zag),Rs p aY r->(∀v∈aY,gv0 v)->aY.length=i->mk<=i->i+s<400->s+1<=fu->c0 fu (mk:Int) (i:Int) aY m=F ((mk+c:Nat):Int) x m':=by
 induction h with
 |ret x m s=>
  intro fu mk i aY b d hl i3 hi j;obtain⟨fu,rfl⟩ : ∃u,fu=u+1:=⟨fu-1,by omega⟩;have h0:=b [];rw[List.append_nil]at h0;exact lL fu mk i aY m x _ (by omega) (by omega) d (by rw[h0];rfl)
 |ask t y z A ih=>
  rename_i o k m m' v x dB s c;intro fu mk i aY b d hl i3 hi j;obtain⟨fu,rfl⟩ : ∃u,fu=u+1:=⟨fu-1,by omega⟩;have h0:=b [];rw[List.append_nil]at h0;rw[lM fu mk i aY m (opN o) m' v (by omega) (by omega) (by omega) d (by rw[h0];rfl) t y,<-Nat.add_assoc];have iS:mkd (opN o) v<=1:=by unfold mkd;split<;>omega
  exact ih fu _ (i+1) (aY++[v]) (b.step v) (fun u hu=>by rcases List.mem_append.1 hu with hu|hu;exact d u hu;rw[List.mem_singleton.1 hu];exact z) (by simp;omega) (by omega) (by omega) (by omega)
def lks(n:Nat)(f:Nat->Zat):List Zat:=(List.range (n+2)).map f
def updL(f:Nat->Zat)(k:Nat)(l:Zat):Nat->Zat:=fun j=>if j=k then l else f j
theorem Zvp(n:Nat)(f:Nat->Zat):(lks n f).length=n+2:=by simp[lks]
theorem ZBH{n:Nat}(f:Nat->Zat){k:Nat}(b:k<n+2):(lks n f).getD k Zat.d=f k:=by
 simp[lks,List.getD_eq_getElem?_getD,b]
theorem ZKm{n:Nat}(f:Nat->Zat){k:Nat}(d:k<n+2)(l:Zat):(lks n f).set k l=lks n (updL f k l):=by
 apply List.ext_getElem
 .simp[lks]
 .intro i b g;simp only[lks,List.length_set,List.length_map,List.length_range]at b;simp only[lks,List.getElem_set,List.getElem_map,List.getElem_range,updL];by_cases h:k=i
  .subst h;simp
  .rw[if_neg h,if_neg (fun e=>h e.symm)]
theorem ZFA(f:Nat->Zat)(k:Nat)(l:Zat):updL f k l k=l:=if_pos rfl
theorem ZAZ(f:Nat->Zat){k j:Nat}(l:Zat)(h:j≠k):updL f k l j=f j:=if_neg h
theorem ZFB(f:Nat->Zat)(k:Nat)(a:Zat):updL (updL f k a) k (f k)=f:=by
 funext j;unfold updL;split
 .rename_i e;rw[e]
 .rfl
def memM(ap out:Int)(ag:List Zae)(book:List Zac)(sh:List Zab)(n:Nat)(f:Nat->Zat):ZaE:=⟨ap,out,ag,book,sh,lks n f⟩
def Zhn:Zat:=⟨0,[]⟩
def Zpf:Zat:=⟨1,[]⟩
section
variable {ap out:Int} {ag:List Zae} {book:List Zac} {sh:List Zab} {n:Nat} {f:Nat->Zat} (a7:1<=n) (aZ:n<=8) (aQ:sh.length = n)
include a7 aZ aQ
omit a7 aZ aQ in
theorem ZpI{k:Nat}(b:k<n+2)(m:ZaE)(d:m.fLocks=lks n f):ZbO m (k:Int)=some (f k):=by
 unfold ZbO;rw[d,Zvp,Zai,if_neg (by omega),Zai,if_neg (by omega),Zar (by omega),Int.toNat_natCast,ZBH f b]
omit aQ in
theorem ZtL{k:Nat}(d:k<n+2)(kd:Int)(dY:kd=1\/kd=3)(l:Zay)(a b:Int)(v:Zag)(ai:Bool):Zbu ⟨kd,(k:Int),l,a,b,v,ai⟩ (n:Int)=some true:=by
 have e:Zan (n:Int) 1=(n:Int)+1:=Zcs (by omega) (by omega);unfold Zbu Zce;rw[Zai,if_neg (by omega),Zai,if_neg (by omega),ZfN];dsimp only;rcases dY with rfl|rfl
 .rw[if_pos rfl,e];simp only[show ((1:Int)==1)=true from rfl,cond_true,Zai];rw[if_pos (by omega),decide_eq_true (by omega)]
 .rw[if_neg (by decide),e];simp only[show ((3:Int)==3)=true from rfl,cond_true,Zai];rw[if_pos (by omega),decide_eq_true (by omega)]
omit aQ in
theorem ZxU(kd:Int)(dY:kd=2\/kd=4)(l:Zay)(a b:Int)(v:Zag)(ai:Bool):Zbu ⟨kd,0,l,a,b,v,ai⟩ (n:Int)=some true:=by
 unfold Zbu Zce Zck;rw[Zai,if_neg (by omega),Zai,if_neg (by omega),ZfN];dsimp only;rcases dY with rfl|rfl
 .rw[if_neg (by decide)];rfl
 .rw[if_neg (by decide)];rfl
theorem ZDk{kd:Int}(dY:kd=1){k:Nat}(b:k<n+2)(d:f k=Zhn)(ai:Bool):Zbo (memM ap out ag book sh n f) ⟨kd,(k:Int),locZ,0,0,valZ,ai⟩=some true:=by
 subst dY;have hl:(((memM ap out ag book sh n f).fShards.length:Nat):Int)=(n:Int):=by rw[show (memM ap out ag book sh n f).fShards=sh from rfl,aQ]
 unfold Zbo;rw[hl,ZtL a7 aZ b 1 (.inl rfl),ZaJ,ZpI b _ rfl,ZaJ,d];rfl
theorem ZDl{kd:Int}(dY:kd=3){k:Nat}(b:k<n+2)(ai:Bool):Zbo (memM ap out ag book sh n f) ⟨kd,(k:Int),locZ,0,0,valZ,ai⟩=some true:=by
 subst dY;have hl:(((memM ap out ag book sh n f).fShards.length:Nat):Int)=(n:Int):=by rw[show (memM ap out ag book sh n f).fShards=sh from rfl,aQ]
 unfold Zbo;rw[hl,ZtL a7 aZ b 3 (.inr rfl),ZaJ,ZpI b _ rfl,ZaJ];rfl
theorem Zss{kd:Int}(dY:kd=2\/kd=4)(b:kd=2->(f 0).fBy=0)(ai:Bool):Zbo (memM ap out ag book sh n f) ⟨kd,0,locZ,0,0,valZ,ai⟩=some true:=by
 have hl:(((memM ap out ag book sh n f).fShards.length:Nat):Int)=(n:Int):=by rw[show (memM ap out ag book sh n f).fShards=sh from rfl,aQ]
 have h0:ZbO (memM ap out ag book sh n f) 0=some (f 0):=ZpI (k:=0) (by omega) _ rfl;unfold Zbo;rw[hl,ZxU a7 aZ kd dY,ZaJ,h0,ZaJ];rcases dY with rfl|rfl
 .rw[b rfl];rfl
 .rfl
omit a7 aZ aQ in
theorem ZCI{k:Nat}(b:k<n+2)(g:n<=8)(m:ZaE)(d:m.fLocks=lks n f)(l:Zat):Zcx m (k:Int) l=some { m with fLocks:=lks n (updL f k l) }:=by
 unfold Zcx;rw[List.nil_append,d,Zvp,Zai,if_pos (by omega),Zai,if_pos (by omega),Zar ⟨by omega,by unfold maxLen;omega⟩,Zar (by omega),Int.toNat_natCast,ZKm f b]
theorem ZKy{k:Nat}(b:k<n+2)(d:f k=Zhn)(ai:Bool):Zbe (memM ap out ag book sh n f) ⟨1,(k:Int),locZ,0,0,valZ,ai⟩ 0=some (memM ap out ag book sh n (updL f k Zpf),valZ):=by
 have e:Zan (0:Int) 1=1:=rfl;unfold Zbe;rw[ZDk a7 aZ aQ rfl b d,ZaJ,Bool.not_true,cond_false];dsimp only;rw[ZpI b _ rfl,ZaJ,ZfN,if_pos rfl,d,e,ZCI b aZ _ rfl,ZaJ];rfl
theorem ZKA{k:Nat}(b:k<n+2)(sr:List Int)(d:f k=⟨1,sr⟩)(ai:Bool):Zbe (memM ap out ag book sh n f) ⟨3,(k:Int),locZ,0,0,valZ,ai⟩ 0=some (memM ap out ag book sh n (updL f k ⟨0,sr⟩),valZ):=by
 have e:Zan (0:Int) 1=1:=rfl;unfold Zbe;rw[ZDl a7 aZ aQ rfl b,ZaJ,Bool.not_true,cond_false];dsimp only;rw[ZpI b _ rfl,ZaJ,ZfN,if_neg (by decide),ZfN,if_neg (by decide),ZfN,if_pos rfl,d,e];simp only[show ((1:Int)==1)=true from rfl,cond_true];rw[ZCI b aZ _ rfl,ZaJ];rfl
theorem ZIU(b:f 0=Zhn)(ai:Bool):Zbe (memM ap out ag book sh n f) ⟨2,0,locZ,0,0,valZ,ai⟩ 0=some (memM ap out ag book sh n (updL f 0 ⟨0,[0]⟩),valZ):=by
 have h0:ZbO (memM ap out ag book sh n f) 0=some (f 0):=ZpI (k:=0) (by omega) _ rfl;have d:ZfH [] 0=some [0]:=by decide +kernel
 have g:=ZCI (f:=f) (n:=n) (k:=0) (by omega) aZ (memM ap out ag book sh n f) rfl ⟨0,[0]⟩;unfold Zbe;rw[Zss a7 aZ aQ (.inl rfl) (fun _=>by rw[b];rfl),ZaJ,Bool.not_true,cond_false];dsimp only;rw[h0,ZaJ,ZfN,if_neg (by decide),ZfN,if_pos rfl,b];simp only[Zhn,d,ZaJ];have iM:Zcx (memM ap out ag book sh n f) 0 ⟨0,[0]⟩=some { memM ap out ag book sh n f with fLocks:=lks n (updL f 0 ⟨0,[0]⟩) }:=g;rw[iM];rfl
theorem ZKB(b:f 0=⟨0,[0]⟩)(ai:Bool):Zbe (memM ap out ag book sh n f) ⟨4,0,locZ,0,0,valZ,ai⟩ 0=some (memM ap out ag book sh n (updL f 0 Zhn),valZ):=by
 have h0:ZbO (memM ap out ag book sh n f) 0=some (f 0):=ZpI (k:=0) (by omega) _ rfl;have d:Zfk [0] 0=some []:=by decide +kernel
 have g:=ZCI (f:=f) (n:=n) (k:=0) (by omega) aZ (memM ap out ag book sh n f) rfl Zhn;unfold Zbe;rw[Zss a7 aZ aQ (.inr rfl) (fun h=>by cases h),ZaJ,Bool.not_true,cond_false];dsimp only;rw[h0,ZaJ,ZfN,if_neg (by decide),ZfN,if_neg (by decide),ZfN,if_neg (by decide),ZfN,if_pos rfl,b];simp only[d,ZaJ];have iM:Zcx (memM ap out ag book sh n f) 0 ⟨0,[]⟩=some { memM ap out ag book sh n f with fLocks:=lks n (updL f 0 Zhn) }:=g;rw[iM];rfl
end
theorem Zvh{n:Int}(b : -9223372036854775808<=n)(d:n<=9223372036854775807):okI .i64 n:=by
 simp only[okI,Lit.wf,IntKind.min,IntKind.max,IntKind.bits,IntKind.signed];simp;omega
theorem okZ:okI .i64 0:=by rfl
theorem ZtU:gv0 valZ:=by
 refine⟨?_,by simp[valZ],by simp[valZ]⟩;refine⟨okZ,?_,⟨by simp[valZ,maxLen],by simp[valZ]⟩,⟨by simp[valZ,maxLen],by simp[valZ]⟩,trivial⟩;exact⟨⟨⟨trivial,rfl,rfl,trivial⟩,okZ,trivial⟩,trivial,okZ,⟨okZ,okZ,trivial⟩,okZ,okZ,trivial⟩
def bn(b:Bool):Nat:=if b=true then 1 else 0
theorem Zvn(kd k:Int)(dY:kd≠7)(ai:Bool)(v:Zag):mkd ⟨kd,k,locZ,0,0,valZ,ai⟩ v=bn ai:=by
 unfold mkd bn;cases ai<;>simp[dY]
section
variable {ap out:Int} {ag:List Zae} {book:List Zac} {sh:List Zab} {n:Nat} {f:Nat->Zat} (a7:1<=n) (aZ:n<=8) (aQ:sh.length = n)
include a7 aZ aQ
theorem ZHO{k:Nat}(b:k<n+2)(d:f k=Zhn)(ai:Bool):Ex (keyP 1 (k:Int) ai) (memM ap out ag book sh n f) () (memM ap out ag book sh n (updL f k Zpf)) 1 (bn ai):=by
 have:=Ex.ask (o:=⟨1,(k:Int),locZ,0,0,valZ,ai⟩) (k:=fun _=>.ret ()) (ZDk (ap:=ap) (out:=out) (ag:=ag) (book:=book) a7 aZ aQ rfl b d ai) (ZKy a7 aZ aQ b d ai) ZtU (.ret () _ 0);rw[show opN ⟨1,(k:Int),locZ,0,0,valZ,ai⟩=⟨1,(k:Int),locZ,0,0,valZ,ai⟩from rfl,Zvn 1 _ (by decide)]at this;exact this
theorem ZHS{k:Nat}(b:k<n+2)(sr:List Int)(d:f k=⟨1,sr⟩)(ai:Bool):Ex (keyP 3 (k:Int) ai) (memM ap out ag book sh n f) () (memM ap out ag book sh n (updL f k ⟨0,sr⟩)) 1 (bn ai):=by
 have:=Ex.ask (o:=⟨3,(k:Int),locZ,0,0,valZ,ai⟩) (k:=fun _=>.ret ()) (ZDl (ap:=ap) (out:=out) (ag:=ag) (book:=book) (f:=f) a7 aZ aQ rfl b ai) (ZKA a7 aZ aQ b sr d ai) ZtU (.ret () _ 0);rw[show opN ⟨3,(k:Int),locZ,0,0,valZ,ai⟩=⟨3,(k:Int),locZ,0,0,valZ,ai⟩from rfl,Zvn 3 _ (by decide)]at this;exact this
theorem ZyY(b:f 0=Zhn)(ai:Bool):Ex (keyP 2 0 ai) (memM ap out ag book sh n f) () (memM ap out ag book sh n (updL f 0 ⟨0,[0]⟩)) 1 (bn ai):=by
 have:=Ex.ask (o:=⟨2,0,locZ,0,0,valZ,ai⟩) (k:=fun _=>.ret ()) (Zss (ap:=ap) (out:=out) (ag:=ag) (book:=book) (f:=f) a7 aZ aQ (.inl rfl) (fun _=>by rw[b];rfl) ai) (ZIU a7 aZ aQ b ai) ZtU (.ret () _ 0);rw[show opN ⟨2,0,locZ,0,0,valZ,ai⟩=⟨2,0,locZ,0,0,valZ,ai⟩from rfl,Zvn 2 _ (by decide)]at this;exact this
theorem ZCG(b:f 0=⟨0,[0]⟩)(ai:Bool):Ex (keyP 4 0 ai) (memM ap out ag book sh n f) () (memM ap out ag book sh n (updL f 0 Zhn)) 1 (bn ai):=by
 have:=Ex.ask (o:=⟨4,0,locZ,0,0,valZ,ai⟩) (k:=fun _=>.ret ()) (Zss (ap:=ap) (out:=out) (ag:=ag) (book:=book) (f:=f) a7 aZ aQ (.inr rfl) (fun h=>by cases h) ai) (ZKB a7 aZ aQ b ai) ZtU (.ret () _ 0);rw[show opN ⟨4,0,locZ,0,0,valZ,ai⟩=⟨4,0,locZ,0,0,valZ,ai⟩from rfl,Zvn 4 _ (by decide)]at this;exact this
omit aQ in
theorem Zzv(k:Int)(ai:Bool):Zbu ⟨8,k,locZ,0,0,valZ,ai⟩ (n:Int)=some true:=by
 unfold Zbu Zce Zck;rw[Zai,if_neg (by omega),Zai,if_neg (by omega)];rfl
theorem ZKL(ai:Bool):Ex (keyP 8 0 ai) (memM ap out ag book sh n f) () (memM ap out ag book sh n f) 1 (bn ai):=by
 have hl:(((memM ap out ag book sh n f).fShards.length:Nat):Int)=(n:Int):=by rw[show (memM ap out ag book sh n f).fShards=sh from rfl,aQ]
 have h0:ZbO (memM ap out ag book sh n f) 0=some (f 0):=ZpI (k:=0) (by omega) _ rfl;have b:Zbo (memM ap out ag book sh n f) ⟨8,0,locZ,0,0,valZ,ai⟩=some true:=by
  unfold Zbo;rw[hl,Zzv a7 aZ,ZaJ,h0,ZaJ];rfl
 have hd:Zbe (memM ap out ag book sh n f) ⟨8,0,locZ,0,0,valZ,ai⟩ 0=some (memM ap out ag book sh n f,valZ):=by
  unfold Zbe;rw[b,ZaJ,Bool.not_true,cond_false];dsimp only;rw[h0,ZaJ];rfl
 have:=Ex.ask (o:=⟨8,0,locZ,0,0,valZ,ai⟩) (k:=fun _=>.ret ()) b hd ZtU (.ret () _ 0);rw[show opN ⟨8,0,locZ,0,0,valZ,ai⟩=⟨8,0,locZ,0,0,valZ,ai⟩from rfl,Zvn 8 _ (by decide)]at this;exact this
end
theorem Zyd{n:Nat}(a7:1<=n)(aZ:n<=8)(l:Zay)(g:1<=l.fKind)(h:l.fKind<=6)(hs:5<=l.fKind->0<=l.fShard/\l.fShard<(n:Int))(d:6<=l.fKind->0<=l.fSlot):ZbR l (n:Int)=some true:=by
 unfold ZbR;rw[Zai,if_neg (by omega),Zai,if_neg (by omega),Zai,if_neg (by omega),Zai,if_neg (by omega),Zai];by_cases b:l.fKind<5
 .rw[if_pos b,Zai,if_pos (by omega)]
 .have:=hs (by omega);rw[if_neg b,Zai,if_pos (by omega),Zai,if_pos (by omega),Zai];by_cases h6':l.fKind<6
  .rw[if_pos h6']
  .rw[if_neg h6',decide_eq_true (d (by omega))]
theorem ZJu{n:Nat}(a7:1<=n)(aZ:n<=8){i:Nat}(hi:i<n):ZbR ⟨5,(i:Int),0⟩ (n:Int)=some true:=
 Zyd a7 aZ _ (show (1:Int)<=5 by decide) (show (5:Int)<=6 by decide) (fun _=>⟨Int.natCast_nonneg _,by show (i:Int)<n;omega⟩) (fun h=>absurd h (show ¬(6:Int)<=5 by decide))
theorem ZJt{n:Nat}(a7:1<=n)(aZ:n<=8){i:Nat}(hi:i<n)(j:Nat):ZbR ⟨6,(i:Int),(j:Int)⟩ (n:Int)=some true:=
 Zyd a7 aZ _ (show (1:Int)<=6 by decide) (show (6:Int)<=6 by decide) (fun _=>⟨Int.natCast_nonneg _,by show (i:Int)<n;omega⟩) (fun _=>Int.natCast_nonneg _)
section
variable {ap out:Int} {ag:List Zae} {book:List Zac} {sh:List Zab} {n:Nat} {f:Nat->Zat} (a7:1<=n) (aZ:n<=8) (aQ:sh.length = n)
include a7 aZ aQ
theorem Zvo{o:ZaK}(b:Zbu o (n:Int)=some true)(h0:o.fLock=0)(d:o.fKind≠1)(g:o.fKind≠2):Zbo (memM ap out ag book sh n f) o=some true:=by
 have hl:(((memM ap out ag book sh n f).fShards.length:Nat):Int)=(n:Int):=by rw[show (memM ap out ag book sh n f).fShards=sh from rfl,aQ]
 have h:ZbO (memM ap out ag book sh n f) 0=some (f 0):=ZpI (k:=0) (by omega) _ rfl;have j:(o.fKind != 1)=true:=by rw[bne_iff_ne];exact d
 have p:(o.fKind != 2)=true:=by rw[bne_iff_ne];exact g
 unfold Zbo;rw[hl,b,ZaJ,Bool.not_true,cond_false,h0,h,ZaJ,j,cond_true,p,cond_true]
theorem ZKz{l:Zay}(hp:ZbR l (n:Int)=some true){v:Zag}(hL:ZdG (memM ap out ag book sh n f) l=some v) :
  Zbo (memM ap out ag book sh n f) ⟨5,0,l,0,0,valZ,false⟩=some true/\Zbe (memM ap out ag book sh n f) ⟨5,0,l,0,0,valZ,false⟩ 0=some (memM ap out ag book sh n f,v):=by
 have d:Zbu ⟨5,0,l,0,0,valZ,false⟩ (n:Int)=some true:=by
  unfold Zbu Zce Zck;rw[Zai,if_neg (by omega),Zai,if_neg (by omega)];show (ZbR l (n:Int)).bind (fun x1=>some x1)=some true;rw[hp];rfl
 have b:=Zvo (ap:=ap) (out:=out) (ag:=ag) (book:=book) (f:=f) a7 aZ aQ d rfl (by show (5:Int)≠1;decide) (by show (5:Int)≠2;decide);have g:ZbO (memM ap out ag book sh n f) 0=some (f 0):=ZpI (k:=0) (by omega) _ rfl;refine⟨b,?_⟩;unfold Zbe;rw[b,ZaJ,Bool.not_true,cond_false];dsimp only;rw[g,ZaJ];show ((ZdG (memM ap out ag book sh n f) l).bind fun x10=>some (memM ap out ag book sh n f,x10))=_;rw[hL];rfl
theorem ZyZ{l:Zay}(hl:locN l=l)(hp:ZbR l (n:Int)=some true){v:Zag}(hL:ZdG (memM ap out ag book sh n f) l=some v)(b:gv0 v):Ex (Znh l) (memM ap out ag book sh n f) v (memM ap out ag book sh n f) 1 0:=by
 obtain⟨d,g⟩:=ZKz a7 aZ aQ hp hL;have e:opN ⟨5,0,l,0,0,valZ,false⟩=⟨5,0,l,0,0,valZ,false⟩:=by
  show (⟨5,0,locN l,0,0,valZ,false⟩ : ZaK)=_;rw[hl]
 have:=Ex.ask (o:=⟨5,0,l,0,0,valZ,false⟩) (k:=.ret) (by rw[e];exact d) (by rw[e];exact g) b (.ret v _ 0);have h:mkd (opN ⟨5,0,l,0,0,valZ,false⟩) v=0:=by rw[e];simp[mkd]
 rw[h]at this;exact this
theorem ZEb(k:Int)(b:k=1\/k=2)(hi:okI .i64 (if k=1 then ap else out)):Ex (Znh ⟨k,0,0⟩) (memM ap out ag book sh n f) ⟨if k=1 then ap else out,ZoZ,[],[]⟩ (memM ap out ag book sh n f) 1 0:=by
 refine ZyZ a7 aZ aQ (by rcases b with rfl|rfl<;>rfl) (Zyd a7 aZ _ (by show 1<=k;omega) (by show k<=6;omega) (fun h=>by have:5<=k:=h;omega) (fun h=>by have:6<=k:=h;omega)) ?_ ⟨⟨hi,ZtU.1.2⟩,by simp,by simp⟩;rcases b with rfl|rfl<;>rfl
theorem Zsb(d:ag.length<=800)(g:∀b∈ag,b.ok):Ex (Znh ⟨3,0,0⟩) (memM ap out ag book sh n f) ⟨0,ZoZ,ag,[]⟩ (memM ap out ag book sh n f) 1 0:=by
 refine ZyZ a7 aZ aQ rfl (Zyd a7 aZ _ (by decide) (by decide) (fun h=>absurd h (by decide)) (fun h=>absurd h (by decide))) rfl ⟨⟨okZ,ZtU.1.2.1,⟨by show ag.length<=maxLen;unfold maxLen;omega,g⟩,ZtU.1.2.2.2⟩,d,by simp⟩
theorem ZDZ{i:Nat}(hi:i<n){l r:List Zaa}(hs:sh.getD i Zab.d=⟨(l.length:Int),l++r⟩)(aC:∀p∈l,p.ok):∀(k j:Nat)(w:List Zaa),j+k<=l.length ->
  Ex (Zqk (i:Int) k j w) (memM ap out ag book sh n f) (w++(l.drop j).take k) (memM ap out ag book sh n f) k 0
 | 0,j,w,h=>by
  have:w++(l.drop j).take 0=w:=by simp
  rw[this]
  exact .ret _ _ _
 |k+1,j,w,h=>by
  have b:j<l.length:=by omega
  have g:Ex (Znh ⟨6,(i:Int),(j:Int)⟩) (memM ap out ag book sh n f) ⟨0,l.getD j Zaa.d,[],[]⟩ (memM ap out ag book sh n f) 1 0:=by
   refine ZyZ a7 aZ aQ rfl (ZJt a7 aZ hi j) ?_ ⟨⟨okZ,aC _ (ZeH l _ j b),ZtU.1.2.2⟩,by simp,by simp⟩;unfold ZdG;show (need (0<=(i:Int)/\(i:Int)<(((memM ap out ag book sh n f).fShards.length:Nat):Int)) _)=_;rw[Zar ⟨Int.natCast_nonneg _,by show (i:Int)<((sh.length:Nat):Int);omega⟩];simp only[Int.toNat_natCast];rw[show (memM ap out ag book sh n f).fShards=sh from rfl];simp only[hs];have hlen:(l++r).length=l.length+r.length:=List.length_append;rw[Zai,if_pos (by omega),Zar ⟨Int.natCast_nonneg _,by omega⟩];have:(l++r).getD j Zaa.d=l.getD j Zaa.d:=by
    simp[List.getD_eq_getElem?_getD,List.getElem?_append_left b]
   rw[this]
  have ih:=ZDZ hi hs aC k (j+1) (w++[l.getD j Zaa.d]) (by omega);have e:w++[l.getD j Zaa.d]++(l.drop (j+1)).take k=w++(l.drop j).take (k+1):=by
   rw[ZeQ l Zaa.d j b];simp
  rw[e]at ih;unfold Zqk;exact g.seq ih (by omega) rfl
theorem ZHR{i:Nat}(hi:i<n){l r:List Zaa}(hs:sh.getD i Zab.d=⟨(l.length:Int),l++r⟩)(aC:∀p∈l,p.ok)(hl:l.length<=800):Ex (ZtR (i:Int)) (memM ap out ag book sh n f) l (memM ap out ag book sh n f) (l.length+1) 0:=by
 have g:Ex (Znh ⟨5,(i:Int),0⟩) (memM ap out ag book sh n f) ⟨(l.length:Int),ZoZ,[],[]⟩ (memM ap out ag book sh n f) 1 0:=by
  refine ZyZ a7 aZ aQ rfl (ZJu a7 aZ hi) ?_ ⟨⟨?_,ZtU.1.2⟩,by simp,by simp⟩
  .unfold ZdG;show (need (0<=(i:Int)/\(i:Int)<(((memM ap out ag book sh n f).fShards.length:Nat):Int)) _)=_;rw[Zar ⟨Int.natCast_nonneg _,by show (i:Int)<((sh.length:Nat):Int);omega⟩,Int.toNat_natCast,show (memM ap out ag book sh n f).fShards=sh from rfl,hs];rfl
  .show okI .i64 (l.length:Int);exact Zvh (by omega) (by omega)
 have b:=ZDZ (ap:=ap) (out:=out) (ag:=ag) (book:=book) (f:=f) a7 aZ aQ hi hs aC l.length 0 [] (by omega);rw[List.drop_zero,List.take_length,List.nil_append]at b;unfold ZtR;exact g.seq (by simpa using b) (by omega) rfl
theorem ZDX{l:Zay}{v:Zag}(hl:locN l=l)(d:valN l.fKind v=v)(hp:ZbR l (n:Int)=some true)(g:2<l.fKind){m':ZaE}(h:Zdt (memM ap out ag book sh n f) l v=some m')(ai:Bool):Ex (ZtK l v ai) (memM ap out ag book sh n f) () m' 1 (bn ai):=by
 have e:opN ⟨6,0,l,0,0,v,ai⟩=⟨6,0,l,0,0,v,ai⟩:=by
  show (⟨6,0,locN l,0,0,valN l.fKind v,ai⟩ : ZaK)=_;rw[hl,d]
 have j:Zbu ⟨6,0,l,0,0,v,ai⟩ (n:Int)=some true:=by
  unfold Zbu Zce Zck;rw[Zai,if_neg (by omega),Zai,if_neg (by omega)];show ((ZbR l (n:Int)).bind fun x2=>bif x2 then some (decide (l.fKind>2))else some false)=some true;rw[hp,ZaJ,cond_true,decide_eq_true g]
 have b:=Zvo (ap:=ap) (out:=out) (ag:=ag) (book:=book) (f:=f) a7 aZ aQ j rfl (by show (6:Int)≠1;decide) (by show (6:Int)≠2;decide);have p:ZbO (memM ap out ag book sh n f) 0=some (f 0):=ZpI (k:=0) (by omega) _ rfl;have hd:Zbe (memM ap out ag book sh n f) ⟨6,0,l,0,0,v,ai⟩ 0=some (m',valZ):=by
  unfold Zbe;rw[b,ZaJ,Bool.not_true,cond_false];dsimp only;rw[p,ZaJ];show ((Zdt (memM ap out ag book sh n f) l v).bind fun i4=>some (i4,valZ))=_;rw[h];rfl
 have:=Ex.ask (o:=⟨6,0,l,0,0,v,ai⟩) (k:=fun _=>.ret ()) (by rw[e];exact b) (by rw[e];exact hd) ZtU (.ret () _ 0);have b:mkd (opN ⟨6,0,l,0,0,v,ai⟩) valZ=bn ai:=by rw[e];cases ai<;>simp[mkd,bn]
 rw[b]at this;exact this
omit a7 in
theorem Zzk{i:Nat}(hi:i<n){sz:Int}{S:List Zaa}(hs:sh.getD i Zab.d=⟨sz,S⟩)(b:S.length<=10000)(j:Nat)(g:j<=S.length)(p:Zaa) :
  Zdt (memM ap out ag book sh n f) ⟨6,(i:Int),(j:Int)⟩ ⟨0,p,[],[]⟩=some (memM ap out ag book (sh.set i ⟨sz,if j<S.length then S.set j p else S++[p]⟩) n f):=by
 unfold Zdt;simp only[List.nil_append];show (need ((memM ap out ag book sh n f).fShards.length * 32<=140737488355328/\(memM ap out ag book sh n f).fShards.length<=maxLen) _)=_;rw[show (memM ap out ag book sh n f).fShards=sh from rfl];rw[Zar ⟨by omega,by unfold maxLen;omega⟩,Zar ⟨Int.natCast_nonneg _,by omega⟩];show (bif(decide ((j:Int)<_))then _ else _)=_;simp only[Int.toNat_natCast,hs];rw[Zai];by_cases h:j<S.length
 .rw[if_pos (by omega),if_pos h,Zar ⟨by omega,by unfold maxLen;omega⟩,Zar ⟨Int.natCast_nonneg _,by omega⟩];rfl
 .have e:j=S.length:=by omega
  subst e;rw[if_neg (by omega),if_neg h];simp only[beq_self_eq_true,cond_true];rw[Zar ⟨by omega,by unfold maxLen;omega⟩,Zar ⟨by simp;omega,by simp[maxLen];omega⟩];rfl
theorem ZAU{i:Nat}(hi:i<n){sz:Int}{S:List Zaa}(hs:sh.getD i Zab.d=⟨sz,S⟩)(b:S.length<=10000)(j:Nat)(g:j<=S.length)(p:Zaa)(ai:Bool) :
  Ex (ZtK ⟨6,(i:Int),(j:Int)⟩ ⟨0,p,[],[]⟩ ai) (memM ap out ag book sh n f) () (memM ap out ag book (sh.set i ⟨sz,if j<S.length then S.set j p else S++[p]⟩) n f) 1 (bn ai):=
 ZDX a7 aZ aQ rfl rfl (ZJt a7 aZ hi j) (show (2:Int)<6 by decide) (Zzk aZ aQ hi hs b j g p) ai
theorem ZAV{i:Nat}(hi:i<n){sz:Int}{S:List Zaa}(hs:sh.getD i Zab.d=⟨sz,S⟩)(k:Int)(ai:Bool) :
  Ex (ZtK ⟨5,(i:Int),0⟩ ⟨k,ZoZ,[],[]⟩ ai) (memM ap out ag book sh n f) () (memM ap out ag book (sh.set i ⟨k,S⟩) n f) 1 (bn ai):=by
 refine ZDX a7 aZ aQ rfl rfl (ZJu a7 aZ hi) (show (2:Int)<5 by decide) ?_ ai;unfold Zdt;simp only[List.nil_append];show (need ((memM ap out ag book sh n f).fShards.length * 32<=140737488355328/\(memM ap out ag book sh n f).fShards.length<=maxLen) _)=_;rw[show (memM ap out ag book sh n f).fShards=sh from rfl];rw[Zar ⟨by omega,by unfold maxLen;omega⟩,Zar ⟨Int.natCast_nonneg _,by omega⟩];simp only[Int.toNat_natCast,hs];rfl
end
theorem ZxM{α:Type}(l:List α)(d:α){i:Nat}(hi:i<l.length)(x:α):(l.set i x).getD i d=x:=by simp[List.getD_eq_getElem?_getD,hi]
def Zlb(al S0:List Zaa)(j:Nat):List Zaa:=al.take j++S0.drop j
theorem ZwT{al S0:List Zaa}{j:Nat}(b:j<=al.length):(Zlb al S0 j).length=j+(S0.length-j):=by simp[Zlb];omega
theorem ZBh{al S0:List Zaa}{j:Nat}(b:j<al.length):(if j<(Zlb al S0 j).length then(Zlb al S0 j).set j (al.getD j Zaa.d)else Zlb al S0 j++[al.getD j Zaa.d])=Zlb al S0 (j+1):=by
 have hl:=ZwT (S0:=S0) (Nat.le_of_lt b);have o:(al.take j).length=j:=by simp;omega
 have g:al.take (j+1)=al.take j++[al.getD j Zaa.d]:=by rw[List.take_succ_eq_append_getElem b,ZbT al _ j b]
 by_cases h:j<S0.length
 .rw[if_pos (by omega)];unfold Zlb;rw[ZeQ S0 Zaa.d j h,g,List.set_append_right _ _ (by omega),o,Nat.sub_self];simp
 .rw[if_neg (by omega)];unfold Zlb;rw[g,List.drop_eq_nil_of_le (by omega),List.drop_eq_nil_of_le (by omega)];simp
theorem ZBi{aV r al:List Zaa}{j:Nat}(b:j<al.length)(hb:wrB aV al j=false):Zlb al (aV++r) j=Zlb al (aV++r) (j+1):=by
 unfold wrB at hb;simp only[Bool.or_eq_false_iff,decide_eq_false_iff_not,Bool.not_eq_false',decide_eq_true_eq]at hb;obtain⟨p,g⟩:=hb;have h:j<aV.length:=by omega
 have hd:(aV++r).getD j Zaa.d=aV.getD j Zaa.d:=by simp[List.getD_eq_getElem?_getD,List.getElem?_append_left h]
 have o:al.take (j+1)=al.take j++[al.getD j Zaa.d]:=by rw[List.take_succ_eq_append_getElem b,ZbT al _ j b]
 unfold Zlb;rw[ZeQ (aV++r) Zaa.d j (by simp;omega),o,hd,g];simp
section
variable {ap out:Int} {ag:List Zae} {book:List Zac} {n:Nat} {f:Nat->Zat} (a7:1<=n) (aZ:n<=8)
include a7 aZ
theorem Zws{i:Nat}(hi:i<n)(aV r al:List Zaa)(hlen:(aV++r).length<=5000)(eN:al.length<=5000)(sz:Int):∀(k j:Nat)(sh:List Zab),j+k=al.length->sh.length=n->sh.getD i Zab.d=⟨sz,Zlb al (aV++r) j⟩ ->
  Ex (ZrG (i:Int) al (((List.range' j k).filter (wrB aV al)).map fun(i:Nat)=>(i:Int))) (memM ap out ag book sh n f) () (memM ap out ag book (sh.set i ⟨sz,Zlb al (aV++r) al.length⟩) n f) k 0
 | 0,j,sh,h,aQ,hs=>by
  have e:j=al.length:=by omega
  subst e
  have:sh.set i ⟨sz,Zlb al (aV++r) al.length⟩=sh:=by
   rw[<-hs];apply List.ext_getElem
   .simp
   .intro q g b;rw[List.getElem_set];split
    .rename_i e;subst e;exact ZbT sh _ i b
    .rfl
  rw[this];exact .ret _ _ _
 |k+1,j,sh,h,aQ,hs=>by
  have jX:j<al.length:=by omega
  rw[List.range'_succ];cases hb:wrB aV al j with
  |true=>
   rw[List.filter_cons_of_pos hb,List.map_cons];unfold ZrG;have o:=ZwT (S0:=aV++r) (Nat.le_of_lt jX);have g:=ZAU (ap:=ap) (out:=out) (ag:=ag) (book:=book) (f:=f) a7 aZ aQ hi hs (by omega) j (by omega) (al.getD j Zaa.d) false;rw[ZBh jX]at g;have b:=Zws hi aV r al hlen eN sz k (j+1) (sh.set i ⟨sz,Zlb al (aV++r) (j+1)⟩) (by omega) (by simpa using aQ) (ZxM sh _ (by omega) _);rw[List.set_set]at b;have e:al.getD ((j:Int)).toNat Zaa.d=al.getD j Zaa.d:=by rw[Int.toNat_natCast]
   rw[e];exact g.seq b (by omega) rfl
  |false=>
   rw[List.filter_cons_of_neg (by simp[hb])];rw[ZBi jX hb]at hs;exact(Zws hi aV r al hlen eN sz k (j+1) sh (by omega) aQ hs).more (by omega)
theorem ZJm{sh:List Zab}(aQ:sh.length=n){i:Nat}(hi:i<n)(aV r al:List Zaa)(hlen:(aV++r).length<=5000)(eN:al.length<=5000)(hs:sh.getD i Zab.d=⟨(aV.length:Int),aV++r⟩) :
  Ex (Zqf (i:Int) aV al) (memM ap out ag book sh n f) () (memM ap out ag book (sh.set i ⟨(al.length:Int),al++(aV++r).drop al.length⟩) n f) (al.length+1) 0:=by
 have b:=Zws (ap:=ap) (out:=out) (ag:=ag) (book:=book) (f:=f) a7 aZ hi aV r al hlen eN (aV.length:Int) al.length 0 sh (by omega) aQ (by rw[hs];simp[Zlb]);have e:Zlb al (aV++r) al.length=al++(aV++r).drop al.length:=by simp[Zlb]
 rw[e]at b;unfold Zqf wrL;rw[List.range_eq_range'];by_cases h:aV.length=al.length
 .rw[if_pos h];rw[h]at b;exact b.seq (.ret _ _ 0) (by omega) rfl
 .rw[if_neg h];have g:=ZAV (ap:=ap) (out:=out) (ag:=ag) (book:=book) (f:=f) (sh:=sh.set i ⟨(aV.length:Int),al++(aV++r).drop al.length⟩) a7 aZ (by simpa using aQ) hi (ZxM sh _ (by omega) _) (al.length:Int) false;rw[List.set_set]at g;exact b.seq g (by omega) rfl
theorem ZKK{sh:List Zab}(aQ:sh.length=n)(k:Int)(b:k=1\/k=2)(al:Int)(ai:Bool):Ex (ZJO k (if k=1 then ap else out) al ai) (memM ap out ag book sh n f) true (memM (if k=1 then al else ap) (if k=1 then out else al) ag book sh n f) 1 (bn ai):=by
 have g:∀old,Zbu ⟨7,0,⟨k,0,0⟩,old,al,valZ,ai⟩ (n:Int)=some true:=fun old=>by
  unfold Zbu Zce Zck;rw[Zai,if_neg (by omega),Zai,if_neg (by omega)];rcases b with rfl|rfl<;>rfl
 have d:=fun old=>Zvo (ap:=ap) (out:=out) (ag:=ag) (book:=book) (f:=f) a7 aZ aQ (g old) rfl (by show (7:Int)≠1;decide) (by show (7:Int)≠2;decide);have hl:ZbO (memM ap out ag book sh n f) 0=some (f 0):=ZpI (k:=0) (by omega) _ rfl;have hd:Zbe (memM ap out ag book sh n f) ⟨7,0,⟨k,0,0⟩,(if k=1 then ap else out),al,valZ,ai⟩ 0=some (memM (if k=1 then al else ap) (if k=1 then out else al) ag book sh n f,⟨1,ZoZ,[],[]⟩):=by
  unfold Zbe;rw[d,ZaJ,Bool.not_true,cond_false];dsimp only;rw[hl,ZaJ];rcases b with rfl|rfl
  .show (bif(ap==ap)then _ else _)=_;rw[beq_self_eq_true,cond_true];rfl
  .show (bif(out==out)then _ else _)=_;rw[beq_self_eq_true,cond_true];rfl
 have e:∀old,opN ⟨7,0,⟨k,0,0⟩,old,al,valZ,ai⟩=⟨7,0,⟨k,0,0⟩,old,al,valZ,ai⟩:=fun old=>by rcases b with rfl|rfl<;>rfl
 have hg1:gv0 ⟨1,ZoZ,[],[]⟩:=⟨⟨rfl,ZtU.1.2⟩,Nat.zero_le _,Nat.zero_le _⟩;have:=Ex.ask (o:=⟨7,0,⟨k,0,0⟩,(if k=1 then ap else out),al,valZ,ai⟩) (k:=fun v=>.ret (v.fN==1)) (by rw[e];exact d _) (by rw[e];exact hd) hg1 (.ret _ _ 0);rw[e]at this;have i3:mkd ⟨7,0,⟨k,0,0⟩,(if k=1 then ap else out),al,valZ,ai⟩ ⟨1,ZoZ,[],[]⟩=bn ai:=by cases ai<;>simp[mkd,bn]
 rw[i3]at this;exact this
def updR(f:Nat->Zat)(i j:Nat)(l:Zat):Nat->Zat:=fun q=>if i<=q/\q<j then l else f q
theorem ZEa{sh:List Zab}(aQ:sh.length=n):∀(k i:Nat)(f:Nat->Zat),i+k=n->(∀q,2+i<=q->q<n+2->f q=Zhn)->Ex (ZzV i k) (memM ap out ag book sh n f) () (memM ap out ag book sh n (updR f (2+i) (n+2) Zpf)) k 0
 | 0,i,f,j,d=>by
  have:updR f (2+i) (n+2) Zpf=f:=by
   funext q;unfold updR;rw[if_neg (by omega)]
  rw[this];exact .ret _ _ _
 |k+1,i,f,j,d=>by
  have g:=ZHO (ap:=ap) (out:=out) (ag:=ag) (book:=book) (f:=f) (k:=2+i) a7 aZ aQ (by omega) (d _ (by omega) (by omega)) false;have b:=ZEa aQ k (i+1) (updL f (2+i) Zpf) (by omega) (fun q g b=>by rw[ZAZ _ _ (by omega)];exact d q (by omega) b);have e:updR (updL f (2+i) Zpf) (2+(i+1)) (n+2) Zpf=updR f (2+i) (n+2) Zpf:=by
   funext q;unfold updR updL;by_cases h:q=2+i
   .rw[if_neg (by omega),if_pos h,if_pos (by omega)]
   .by_cases b:2+i<=q/\q<n+2
    .rw[if_pos (by omega),if_pos b]
    .rw[if_neg (by omega),if_neg h,if_neg b]
  rw[e]at b;have ek:(2+(i:Int))=((2+i:Nat):Int):=by omega
  unfold ZzV;rw[ek];exact g.seq b (by omega) rfl
theorem ZFr{sh:List Zab}(aQ:sh.length=n)(p:Int)(hp:Zbk p=n)(b:∀q,2<=q->q<n+2->f q=Zhn):Ex (Zsv p) (memM ap out ag book sh n f) () (memM ap out ag book sh n (updR f 2 (n+2) Zpf)) n 0:=by
 unfold Zsv;rw[hp];exact ZEa a7 aZ aQ n 0 f (by omega) b
theorem ZEc{sh:List Zab}(aQ:sh.length=n)(ai:Bool)(m:Nat):∀(k:Nat)(f:Nat->Zat),k<=n->(∀q,2<=q->q<k+2->f q=Zpf)->Ex (Zxr ai m k) (memM ap out ag book sh n f) () (memM ap out ag book sh n (updR f 2 (k+2) Zhn)) k (if 0<m/\m<=k then bn ai else 0)
 | 0,f,p,d=>by
  have:updR f 2 (0+2) Zhn=f:=by
   funext q;unfold updR;rw[if_neg (by omega)]
  rw[this,if_neg (by omega)];exact .ret _ _ _
 |k+1,f,p,d=>by
  have g:=ZHS (ap:=ap) (out:=out) (ag:=ag) (book:=book) (f:=f) (k:=2+k) a7 aZ aQ (by omega) [] (d _ (by omega) (by omega)) (ai&&decide (k+1=m));have b:=ZEc aQ ai m k (updL f (2+k) Zhn) (by omega) (fun q g b=>by rw[ZAZ _ _ (by omega)];exact d q g (by omega));have e:updR (updL f (2+k) Zhn) 2 (k+2) Zhn=updR f 2 (k+1+2) Zhn:=by
   funext q;unfold updR updL;by_cases h:q=2+k
   .rw[if_neg (by omega),if_pos h,if_pos (by omega)]
   .by_cases b:2<=q/\q<k+2
    .rw[if_pos b,if_pos (by omega)]
    .rw[if_neg b,if_neg h,if_neg (by omega)]
  rw[e]at b;have ek:(2+(k:Int))=((2+k:Nat):Int):=by omega
  unfold Zxr;rw[ek];refine g.seq b (by omega) ?_;by_cases j:k+1=m
  .subst j;rw[if_neg (by omega),if_pos (by omega)];simp
  .rw[decide_eq_false j,Bool.and_false];by_cases o:0<m/\m<=k
   .rw[if_pos o,if_pos (by omega)];simp[bn]
   .rw[if_neg o,if_neg (by omega)];simp[bn]
theorem ZFs{sh:List Zab}(aQ:sh.length=n)(p:Int)(hp:Zbk p=n)(ai:Bool)(b:∀q,2<=q->q<n+2->f q=Zpf):Ex (Zux p ai) (memM ap out ag book sh n f) () (memM ap out ag book sh n (updR f 2 (n+2) Zhn)) n (bn ai):=by
 unfold Zux;rw[hp];have:=ZEc (ap:=ap) (out:=out) (ag:=ag) (book:=book) a7 aZ aQ ai n n f (Nat.le_refl _) b;rw[if_pos (by omega)]at this;exact this
end
def cntP(l:List Zaa)(b:Bool):Int:=((l.countP fun p=>p.fIn==b:Nat):Int)
theorem Zmz(l:List Zaa)(b:Bool)(hl:l.length<=maxLen):ZcW l b=some (cntP l b):=by
 simp only[ZcW];have:=Zxm l Zaa.d (fun p=>p.fIn==b) hl (fun fu n i=>Zcn l b fu n i) (fun fu i n hi=>by
   simp only[Zcn,Zai];rw[if_pos (by omega),Zar ⟨by omega,by omega⟩];simp only[Int.toNat_natCast];cases((l.getD i Zaa.d).fIn==b)<;>rfl) (fun fu n=>by
   simp only[Zcn,Zai];rw[if_neg (by omega)]) ((((l.length:Nat):Int)-(0:Int)).toNat+2) 0 0 (by omega) (by omega) (by omega)
 simp only[Int.natCast_zero,List.drop_zero]at this;rw[this];unfold cntP;congr 2;omega
theorem Zwb(l:List Zaa)(b:Bool):0<=cntP l b/\cntP l b<=(l.length:Int):=by
 unfold cntP;have:=List.countP_le_length (p:=fun p:Zaa=>p.fIn==b) (l:=l);omega
abbrev Prs:=List Zaa
def ltP(x y:Zaa):Bool:=decide (cmpE x.fEnd y.fEnd<0)
theorem ZnS{x y:Zaa}:ltP x y=true↔cmpE x.fEnd y.fEnd<0:=by unfold ltP;simp
theorem ZDm{x y:Zaa}:ltP x y=false↔¬cmpE x.fEnd y.fEnd<0:=by unfold ltP;simp
theorem ZBE{x y z:Zaa}(d:ltP x y=false)(b:ltP y z=false):ltP x z=false:=by
 rw[ZDm]at *
 intro h;have e:cmpE x.fEnd y.fEnd=0\/0<cmpE x.fEnd y.fEnd:=by omega
 rcases e with e|e
 .rw[ZhM.1 e]at h;exact b h
 .exact b (ZoS (ZiT.1 e) h)
theorem ZKk{x y z:Zaa}(b:ltP z x=true)(d:ltP y x=false):ltP z y=true:=by
 cases h:ltP z y with
 |true=>rfl
 |false=>rw[ZBE h d]at b;cases b
def mrg:Prs->Prs->Prs | [],ys=>ys|x :: xs,[]=>x :: xs|x :: xs,y :: ys=>if ltP y x=true then y :: mrg (x :: xs) ys else x :: mrg xs (y :: ys)
termination_by xs ys=>xs.length+ys.length
theorem Zqo(xs:Prs):mrg xs []=xs:=by cases xs<;>simp[mrg]
theorem Zks(xs:Prs):mrg [] xs=xs:=by simp[mrg]
theorem Zvl{x y:Zaa}(xs ys:Prs)(h:ltP y x=true):mrg (x :: xs) (y :: ys)=y :: mrg (x :: xs) ys:=by rw[mrg,if_pos h]
theorem Zvm{x y:Zaa}(xs ys:Prs)(h:ltP y x=false):mrg (x :: xs) (y :: ys)=x :: mrg xs (y :: ys):=by rw[mrg,if_neg (by simp[h])]
theorem ZzQ:∀(n:Nat)(x1 x2 y1 y2:Prs),x1.length+y1.length<=n->(∀y∈y1,∀x∈x2,ltP y x=true)->(∀x∈x1,∀y∈y2,ltP y x=false)->mrg (x1++x2) (y1++y2)=mrg x1 y1++mrg x2 y2:=by
 intro n;induction n with
 |zero=>
  intro x1 x2 y1 y2 h _ _;obtain rfl:=List.eq_nil_of_length_eq_zero (show x1.length=0 by omega);obtain rfl:=List.eq_nil_of_length_eq_zero (show y1.length=0 by omega);simp[Zks]
 |succ n ih=>
  intro x1 x2 y1 y2 h b d;cases x1 with
  |nil=>
   cases y1 with
   |nil=>simp[Zks]
   |cons y y1=>
    cases x2 with
    |nil=>simp[Zks]
    |cons x x2=>
     simp only[List.length_cons,List.length_nil]at h;rw[List.nil_append,List.cons_append,Zvl _ _ (b y (by simp) x (by simp)),Zks];have:=ih [] (x :: x2) y1 y2 (by simp only[List.length_nil];omega) (fun y' f7=>b y' (by simp[f7])) (by simp);rw[List.nil_append,Zks]at this;rw[this];rfl
  |cons x x1=>
   cases y1 with
   |nil=>
    cases y2 with
    |nil=>simp[Zqo]
    |cons y y2=>
     simp only[List.length_cons,List.length_nil]at h;rw[List.nil_append,List.cons_append,Zvm _ _ (d x (by simp) y (by simp)),Zqo];have:=ih x1 x2 [] (y :: y2) (by simp only[List.length_nil];omega) (by simp) (fun x' ge=>d x' (by simp[ge]));rw[List.nil_append,Zqo]at this;rw[this];rfl
   |cons y y1=>
    simp only[List.length_cons]at h;rw[List.cons_append,List.cons_append];cases g:ltP y x with
    |true=>
     rw[Zvl _ _ g,Zvl _ _ g,<-List.cons_append,ih (x :: x1) x2 y1 y2 (by simp only[List.length_cons];omega) (fun y' f7=>b y' (by simp[f7])) d];rfl
    |false=>
     have:=ih x1 x2 (y :: y1) y2 (by simp only[List.length_cons];omega) b (fun x' ge=>d x' (by simp[ge]));rw[List.cons_append]at this;rw[Zvm _ _ g,Zvm _ _ g,this];rfl
theorem ZKh:∀(n:Nat)(a b:Prs),a.length+b.length<=n->(mrg a b).length=a.length+b.length:=by
 intro n;induction n with
 |zero=>
  intro a b h;obtain rfl:=List.eq_nil_of_length_eq_zero (show a.length=0 by omega);simp[Zks]
 |succ n ih=>
  intro a b h;cases a with
  |nil=>simp[Zks]
  |cons x a=>
   cases b with
   |nil=>simp[Zqo]
   |cons y b=>
    simp only[List.length_cons]at h ⊢;cases d:ltP y x with
    |true=>rw[Zvl _ _ d,List.length_cons,ih _ _ (by simp only[List.length_cons];omega)];simp only[List.length_cons];omega
    |false=>rw[Zvm _ _ d,List.length_cons,ih _ _ (by simp only[List.length_cons];omega)];simp only[List.length_cons];omega
theorem ZGu:∀(n:Nat)(a b:Prs),a.length+b.length<=n->∀z∈mrg a b,z∈a\/z∈b:=by
 intro n;induction n with
 |zero=>
  intro a b h z hz;obtain rfl:=List.eq_nil_of_length_eq_zero (show a.length=0 by omega);rw[Zks]at hz;exact .inr hz
 |succ n ih=>
  intro a b h z hz;cases a with
  |nil=>rw[Zks]at hz;exact .inr hz
  |cons x a=>
   cases b with
   |nil=>rw[Zqo]at hz;exact .inl hz
   |cons y b=>
    simp only[List.length_cons]at h;cases d:ltP y x with
    |true=>
     rw[Zvl _ _ d]at hz;rcases List.mem_cons.1 hz with hz|hz
     .exact .inr (by simp[hz])
     .rcases ih _ _ (by simp only[List.length_cons];omega) z hz with q|q
      .exact .inl q
      .exact .inr (by simp[q])
    |false=>
     rw[Zvm _ _ d]at hz;rcases List.mem_cons.1 hz with hz|hz
     .exact .inl (by simp[hz])
     .rcases ih _ _ (by simp only[List.length_cons];omega) z hz with q|q
      .exact .inl (by simp[q])
      .exact .inr q
def SrtP(l:Prs):Prop:=l.Pairwise fun x y=>ltP y x=false
theorem ZDn{x y:Zaa}(h:ltP x y=true):ltP y x=false:=by
 rw[ZnS]at h;rw[ZDm];intro b;have:=ZiT.2 b;omega
theorem ZGt:∀(n:Nat)(a b:Prs),a.length+b.length<=n->SrtP a->SrtP b->SrtP (mrg a b):=by
 intro n;induction n with
 |zero=>
  intro a b h ha hb;obtain rfl:=List.eq_nil_of_length_eq_zero (show a.length=0 by omega);rw[Zks];exact hb
 |succ n ih=>
  intro a b h ha hb;cases a with
  |nil=>rw[Zks];exact hb
  |cons x a=>
   cases b with
   |nil=>rw[Zqo];exact ha
   |cons y b=>
    simp only[List.length_cons]at h;have cy:=List.pairwise_cons.1 ha;have aL:=List.pairwise_cons.1 hb;cases d:ltP y x with
    |true=>
     rw[Zvl _ _ d];refine List.pairwise_cons.2 ⟨fun z g=>?_,ih _ _ (by simp only[List.length_cons];omega) ha aL.2⟩;rcases ZGu _ _ _ (Nat.le_refl _) z g with q|q
     .have:ltP x y=false:=ZDn d;rcases List.mem_cons.1 q with q|q
      .rw[q];exact this
      .exact ZBE (cy.1 z q) this
     .exact aL.1 z q
    |false=>
     rw[Zvm _ _ d];refine List.pairwise_cons.2 ⟨fun z g=>?_,ih _ _ (by simp only[List.length_cons];omega) cy.2 hb⟩;rcases ZGu _ _ _ (Nat.le_refl _) z g with q|q
     .exact cy.1 z q
     .rcases List.mem_cons.1 q with q|q
      .rw[q];exact d
      .exact ZBE (aL.1 z q) d
def ZpO(l:Prs):Prs:=l.foldl (fun o x=>mrg o [x]) []
theorem Zsy(l:Prs)(x:Zaa):ZpO (l++[x])=mrg (ZpO l) [x]:=by unfold ZpO;rw[List.foldl_append];rfl
theorem ZGA(l:Prs):(ZpO l).length=l.length:=by
 have:∀n,n<=l.length->(ZpO (l.take n)).length=n:=by
  intro n;induction n with
  |zero=>intro _;simp[ZpO]
  |succ n ih=>
   intro h;rw[List.take_succ_eq_append_getElem (show n<l.length by omega),Zsy,ZKh _ _ _ (Nat.le_refl _),ih (by omega)];rfl
 have h:=this l.length (Nat.le_refl _);rwa [List.take_length]at h
theorem ZAa(l:Prs):SrtP (ZpO l):=by
 have:∀n,n<=l.length->SrtP (ZpO (l.take n)):=by
  intro n;induction n with
  |zero=>intro _;simp[ZpO,SrtP]
  |succ n ih=>
   intro h;rw[List.take_succ_eq_append_getElem (show n<l.length by omega),Zsy];exact ZGt _ _ _ (Nat.le_refl _) (ih (by omega)) (by simp[SrtP])
 have h:=this l.length (Nat.le_refl _);rwa [List.take_length]at h
theorem ZKf{o1 o2:Prs}{x:Zaa}(h:∀y∈o1,ltP x y=false)(j:∀y∈o2,ltP x y=true):mrg (o1++o2) [x]=o1++x :: o2:=by
 have a:=ZzQ _ o1 o2 [x] [] (Nat.le_refl _) (fun y d z g=>by rw[List.mem_singleton.1 d];exact j z g) (by simp);have b:=ZzQ _ o1 [] [] [x] (Nat.le_refl _) (by simp) (fun z g y d=>by rw[List.mem_singleton.1 d];exact h z g);simp only[List.append_nil,List.nil_append,Zqo,Zks]at a b;rw[a,b];simp
theorem ZxZ(o:Prs)(x:Zaa)(hs:SrtP o)(hl:o.length<=900000):Zef o x=some (mrg o [x]):=by
 have j:o.length<=maxLen:=by unfold maxLen;omega
 have aK:∀(fu i:Nat),i<=o.length->o.length-i<fu->(∀y∈o.take i,ltP x y=false)->ZdH o fu (i:Int) x=some (mrg o [x]):=by
  intro fu;induction fu with
  |zero=>intro _ _ h;omega
  |succ fu ih=>
   intro i hi u bJ;unfold ZdH;have cj:(∀y∈o.drop i,ltP x y=true)->o.take i++[x]++o.drop i=mrg o [x]:=fun h=>by
    have:=ZKf bJ h;rw[List.take_append_drop]at this;rw[this];simp
   have lt:(o.take i).length=i:=by simp;omega
   have ld:(o.drop i).length=o.length-i:=by simp
   have n1:(o.take i).length * 80<=140737488355328/\(o.take i).length<=maxLen:=by rw[lt];unfold maxLen;omega
   have n2:(o.take i++[x]).length * 80<=140737488355328/\(o.take i++[x]).length<=maxLen:=by simp only[List.length_append,lt,List.length_singleton,maxLen];omega
   have n3:(o.take i++[x]++o.drop i).length * 80<=140737488355328/\(o.take i++[x]++o.drop i).length<=maxLen:=by simp only[List.length_append,lt,ld,List.length_singleton,maxLen];omega
   simp only[Zai,Int.toNat_natCast,List.nil_append,Zar n1,Zar n2,Zar n3];by_cases h:i<o.length
   .rw[if_pos (by omega),Zar ⟨by omega,by omega⟩,Zsj,ZaJ];have p:Zan (i:Int) 1=((i+1:Nat):Int):=add1 h j;have hd:=ZeQ o Zaa.d i h;by_cases g:cmpE (o.getD i Zaa.d).fEnd x.fEnd<=0
    .rw[if_pos g,p];refine ih (i+1) (by omega) (by omega) fun y b=>?_;rw[List.take_succ_eq_append_getElem h,<-ZbT o Zaa.d i h]at b;rcases List.mem_append.1 b with q|q
     .exact bJ y q
     .rw[List.mem_singleton.1 q,ZDm];intro t;have:=ZiT.2 t;omega
    .rw[if_neg g,Zar ⟨by omega,by omega⟩,cj];intro y b;have hx:ltP x (o.getD i Zaa.d)=true:=by rw[ZnS];exact ZiT.1 (by omega)
     rw[hd]at b;have hp:SrtP (o.drop i):=List.Pairwise.sublist (List.drop_sublist i o) hs;rw[hd]at hp;rcases List.mem_cons.1 b with q|q
     .rw[q];exact hx
     .exact ZKk hx ((List.pairwise_cons.1 hp).1 y q)
   .rw[if_neg (by omega),Zar ⟨by omega,by omega⟩,cj];intro y b;rw[List.drop_eq_nil_of_le (by omega)]at b;cases b
 unfold Zef;have:=aK ((((o.length:Nat):Int)-(0:Int)).toNat+2) 0 (by omega) (by omega) (by simp);exact this
theorem ZEv(l:Prs)(hl:l.length<=900000):ZfJ l=some (ZpO l):=by
 have b:l.length<=maxLen:=by unfold maxLen;omega
 have aK:∀(fu i:Nat),i<=l.length->l.length-i<fu->ZcY l fu (i:Int) (ZpO (l.take i))=some (ZpO l):=by
  intro fu;induction fu with
  |zero=>intro _ _ h;omega
  |succ fu ih=>
   intro i hi g;unfold ZcY;simp only[Zai,Int.toNat_natCast];by_cases h:i<l.length
   .have d:Zan (i:Int) 1=((i+1:Nat):Int):=add1 h b;rw[if_pos (by omega),Zar ⟨by omega,by omega⟩,ZxZ _ _ (ZAa _) (by rw[ZGA];simp;omega),ZaJ,d,<-Zsy,ZbT l _ i h,<-List.take_succ_eq_append_getElem h];exact ih (i+1) (by omega) (by omega)
   .rw[if_neg (by omega),List.take_of_length_le (by omega)]
 unfold ZfJ;have:=aK ((((l.length:Nat):Int)-(0:Int)).toNat+2) 0 (by omega) (by omega);exact this
def inI(n a b:Int):Bool:=decide (a<=n)&&decide (n<=b)
def nowB(x:ZaB):Bool:=inI x.fNow 0 1099511627776
def ZjQ(x:ZaB):Bool:=if x.fKind=1\/x.fKind=12\/x.fKind=13 then Zmf x.fEnd&&nowB x else if x.fKind=2 then Zmf x.fEnd else if x.fKind=3\/x.fKind=9 then nowB x else if x.fKind=4 then Zmf x.fEnd&&(nowB x&&inI x.fNum 0 1073741824)else if x.fKind=5 then Zmf x.fEnd&&(inI x.fNum 1 5&&nowB x)else if x.fKind=6 then Zii x.fNet&&(inI x.fNum 1 1099511627776&&nowB x)else if x.fKind=7 then Zii x.fNet else if x.fKind=8 then Zet x.fEnd.fAddr&&nowB x else if x.fKind=10 then true else if x.fKind=11 then Zmf x.fEnd&&inI x.fNum 1 1048576 else false
def ZBu(x:ZaB)(s:Int×Int)(p:Int):Bool:=if p=0 then Zmf x.fEnd else if p=1 then Zii x.fNet else if p=2 then Zet x.fEnd.fAddr else if p=3 then nowB x else if p=4 then inI x.fNum s.1 s.2 else true
theorem ZCw(x:ZaB)(hx:x.ok)(s:Int×Int)(hs:Zls x.fKind=some s)(p:Int):ZlR x p=some (ZBu x s p):=by
 have he:x.fEnd.ok:=hx.2.1;have b:x.fNet.ok:=hx.2.2.1;unfold ZlR ZBu;simp only[ZfN,ZFg _ he,ZoT _ b.1,Zlt _ he.1,hs,Option.bind_some,nowB,inI,Zai]
 repeat' split
 all_goals first|rfl | (simp_all;done) | (simp_all;omega)
theorem ZCx(x:ZaB)(hx:x.ok)(s:Int×Int)(hs:Zls x.fKind=some s)(l:List Int)(hl:l.length<=100):ZeP ((((l.length:Nat):Int)-(0:Int)).toNat+2) l (l.length:Int) 0 x=some (l.all (ZBu x s)):=by
 have hL:l.length<=maxLen:=by unfold maxLen;omega
 have aK:∀fu (i:Nat),i<=l.length->l.length-i<fu->ZeP fu l (l.length:Int) (i:Int) x=some ((l.drop i).all (ZBu x s)):=by
  intro fu;induction fu with
  |zero=>intro i _ h;omega
  |succ fu ih=>
   intro i hi b;unfold ZeP;simp only[Zai];by_cases h:i<l.length
   .rw[if_pos (by omega),Zar ⟨by omega,by omega⟩,ZCw x hx s hs,Option.bind_some,add1 h hL,ZeQ l (0:Int) i h,List.all_cons,Int.toNat_natCast];cases ZBu x s (l.getD i 0)with
    |true=>simp only[Bool.not_true,cond_false,Bool.true_and];exact ih (i+1) (by omega) (by omega)
    |false=>rfl
   .rw[if_neg (by omega),List.drop_of_length_le (by omega)];rfl
 exact aK _ 0 (by omega) (by omega)
theorem ZHn(k:Int):∃t,ZmT k=some t/\((t.toList==(⟨#[]⟩ : ByteArray).toList) = !(decide (1<=k)&&decide (k<=13))):=by
 unfold ZmT ZnN ZsI;simp only[Option.bind_some,Zai];by_cases h0:k<0
 .rw[if_pos h0];refine⟨_,rfl,?_⟩;rw[decide_eq_false (show ¬1<=k by omega)];simp
 .rw[if_neg h0];by_cases b:k>=14
  .have d:k>=(([(⟨#[]⟩ : ByteArray),(⟨#[97,99,99,101,112,116]⟩ : ByteArray),(⟨#[108,101,97,118,101]⟩ : ByteArray),(⟨#[100,105,97,108]⟩ : ByteArray),(⟨#[114,101,115,117,108,116]⟩ : ByteArray),(⟨#[98,108,97,109,101]⟩ : ByteArray),(⟨#[98,97,110]⟩ : ByteArray),(⟨#[117,110,98,97,110]⟩ : ByteArray),(⟨#[98,97,110,110,101,100]⟩ : ByteArray),(⟨#[116,105,99,107]⟩ : ByteArray),(⟨#[108,105,115,116]⟩ : ByteArray),(⟨#[112,111,110,103]⟩ : ByteArray),(⟨#[119,111,114,107]⟩ : ByteArray),(⟨#[108,101,97,114,110]⟩ : ByteArray)]:List ByteArray).length:Int):=b;rw[if_pos d];refine⟨_,rfl,?_⟩;rw[decide_eq_true (show 1<=k by omega),decide_eq_false (show ¬k<=13 by omega)];simp
  .obtain h|h|h|h|h|h|h|h|h|h|h|h|h|h:k=0\/k=1\/k=2\/k=3\/k=4\/k=5\/k=6\/k=7\/k=8\/k=9\/k=10\/k=11\/k=12\/k=13:=by omega
   all_goals subst h;exact⟨_,rfl,by decide +kernel⟩
theorem ZFk(x:ZaB)(hx:x.ok):ZlS x=some (ZjQ x):=by
 obtain⟨t,d,g⟩:=ZHn x.fKind;unfold ZlS;rw[d,Option.bind_some,g];by_cases b:1<=x.fKind/\x.fKind<=13
 .rw[decide_eq_true b.1,decide_eq_true b.2];simp only[Bool.and_self,Bool.not_true,cond_false];have key:∀(k:Int)(l:List Int)(s:Int×Int),x.fKind=k->Zkl k=some l->Zls k=some s->l.length<=100->l.all (ZBu x s)=ZjQ x->((Zkl x.fKind).bind fun x2=>ZeP ((((x2.length:Nat):Int)-(0:Int)).toNat+2) x2 ((x2.length:Nat):Int) (0:Int) x)=some (ZjQ x):=by
   intro k l s e j o p u;rw[e,j,Option.bind_some,ZCx x hx s (by rw[e];exact o) l p,u]
  obtain h|h|h|h|h|h|h|h|h|h|h|h|h:x.fKind=1\/x.fKind=2\/x.fKind=3\/x.fKind=4\/x.fKind=5\/x.fKind=6\/x.fKind=7\/x.fKind=8\/x.fKind=9\/x.fKind=10\/x.fKind=11\/x.fKind=12\/x.fKind=13:=by omega
  all_goals exact key _ _ _ h rfl rfl (by simp) (by simp[ZjQ,h,ZBu])
 .have v:(decide (1<=x.fKind)&&decide (x.fKind<=13))=false:=by
   rw[Bool.and_eq_false_iff,decide_eq_false_iff_not,decide_eq_false_iff_not];omega
  rw[v];simp only[Bool.not_false,cond_true];unfold ZjQ
  repeat' rw[if_neg (by omega)]
theorem ZEy(x:ZaB)(hx:x.ok)(a b:Int)(s:ByteArray)(L:List Int)(hL:L.length=s.size)(h:∀i:Nat,i<s.size->((Zli s i:Nat):Int)=L.getD i 0)(hs:s.size<=100) :
  Zbp a b x ((((s.size:Nat):Int)-(0:Int)).toNat+2) s 0=some (L.all fun c=>if c=101 then Zmf x.fEnd else if c=110 then Zii x.fNet else if c=97 then Zet x.fEnd.fAddr else if c=116 then nowB x else if c=107 then inI x.fNum a b else true):=by
 have he:x.fEnd.ok:=hx.2.1;have j:x.fNet.ok:=hx.2.2.1;have aK:∀fu (i:Nat),i<=s.size->s.size-i<fu->Zbp a b x fu s (i:Int)=some ((L.drop i).all fun c=>if c=101 then Zmf x.fEnd else if c=110 then Zii x.fNet else if c=97 then Zet x.fEnd.fAddr else if c=116 then nowB x else if c=107 then inI x.fNum a b else true):=by
  intro fu;induction fu with
  |zero=>intro i _ h;omega
  |succ fu ih=>
   intro i hi o;unfold Zbp;simp only[Zai,ZfN,Zqj _ he,Ztk _ j.1,Zmy _ he.1,Option.bind_some];by_cases hlt:i<s.size
   .rw[if_pos (by omega),Zar ⟨by omega,by omega⟩,add1 (n:=s.size) hlt (by unfold maxLen;omega),ZeQ L (0:Int) i (by omega),List.all_cons,Int.toNat_natCast,h i hlt,ih (i+1) (by omega) (by omega)];generalize hR:((L.drop (i+1)).all fun c=>if c=101 then Zmf x.fEnd else if c=110 then Zii x.fNet else if c=97 then Zet x.fEnd.fAddr else if c=116 then nowB x else if c=107 then inI x.fNum a b else true)=R;have ki:∀q:Bool,(bif !q then some false else some R)=some (q&&R):=fun q=>by cases q<;>rfl
    simp only[ki];have rng:∀n lo hi:Int,(if n<lo then some false else if n>hi then some false else some R)=some (inI n lo hi&&R):=fun n lo hi=>by
     unfold inI;by_cases d:n<lo
     .rw[if_pos d,decide_eq_false (by omega)];rfl
     .rw[if_neg d,decide_eq_true (show lo<=n by omega)];by_cases g:n>hi
      .rw[if_pos g,decide_eq_false (by omega)];rfl
      .rw[if_neg g,decide_eq_true (show n<=hi by omega)];rfl
    simp only[rng];unfold nowB
    repeat' split
    all_goals first|rfl|omega
   .rw[if_neg (by omega),List.drop_of_length_le (by omega)];rfl
 exact aK _ 0 (by omega) (by omega)
theorem ZuT(x:ZaB)(hx:x.ok):ZfZ x=some (ZjQ x):=by
 unfold ZfZ Zdh;simp only[Zai,ZfN];by_cases d:x.fKind<1
 .rw[if_pos d];unfold ZjQ
  repeat' rw[if_neg (by omega)]
 .rw[if_neg d];by_cases g:x.fKind>13
  .rw[if_pos g];unfold ZjQ
   repeat' rw[if_neg (by omega)]
  .rw[if_neg g];have key:∀(k a b:Int)(s:ByteArray)(L:List Int),x.fKind=k->ZfY k=some s->L.length=s.size->(∀i:Nat,i<s.size->((Zli s i:Nat):Int)=L.getD i 0)->s.size<=100 ->
     (L.all fun c=>if c=101 then Zmf x.fEnd else if c=110 then Zii x.fNet else if c=97 then Zet x.fEnd.fAddr else if c=116 then nowB x else if c=107 then inI x.fNum a b else true)=ZjQ x ->
     ((ZfY x.fKind).bind fun x1=>Zbp a b x ((((x1.size:Nat):Int)-(0:Int)).toNat+2) x1 (0:Int))=some (ZjQ x):=by
    intro k a b s L e j o p t u;rw[e,j,Option.bind_some,ZEy x hx a b s L o p t,u]
   obtain h|h|h|h|h|h|h|h|h|h|h|h|h:x.fKind=1\/x.fKind=2\/x.fKind=3\/x.fKind=4\/x.fKind=5\/x.fKind=6\/x.fKind=7\/x.fKind=8\/x.fKind=9\/x.fKind=10\/x.fKind=11\/x.fKind=12\/x.fKind=13:=by omega
   .rw[if_neg (by omega),if_neg (by omega),if_neg (by omega)];exact key 1 _ _ _ [101,116] h rfl rfl (by decide) (by decide) (by simp[ZjQ,h])
   .rw[if_neg (by omega),if_neg (by omega),if_neg (by omega)];exact key 2 _ _ _ [101] h rfl rfl (by decide) (by decide) (by simp[ZjQ,h])
   .rw[if_neg (by omega),if_neg (by omega),if_neg (by omega)];exact key 3 _ _ _ [116] h rfl rfl (by decide) (by decide) (by simp[ZjQ,h])
   .rw[if_neg (by omega),if_neg (by omega),if_neg (by omega)];exact key 4 _ _ _ [101,103,116,107] h rfl rfl (by decide) (by decide) (by simp[ZjQ,h])
   .rw[if_pos h];exact key 5 _ _ _ [101,107,116] h rfl rfl (by decide) (by decide) (by simp[ZjQ,h])
   .rw[if_neg (by omega),if_pos h];exact key 6 _ _ _ [110,107,116] h rfl rfl (by decide) (by decide) (by simp[ZjQ,h])
   .rw[if_neg (by omega),if_neg (by omega),if_neg (by omega)];exact key 7 _ _ _ [110] h rfl rfl (by decide) (by decide) (by simp[ZjQ,h])
   .rw[if_neg (by omega),if_neg (by omega),if_neg (by omega)];exact key 8 _ _ _ [97,116] h rfl rfl (by decide) (by decide) (by simp[ZjQ,h])
   .rw[if_neg (by omega),if_neg (by omega),if_neg (by omega)];exact key 9 _ _ _ [116] h rfl rfl (by decide) (by decide) (by simp[ZjQ,h])
   .rw[if_neg (by omega),if_neg (by omega),if_neg (by omega)];exact key 10 _ _ _ [] h rfl rfl (by decide) (by decide) (by simp[ZjQ,h])
   .rw[if_neg (by omega),if_neg (by omega),if_pos h];exact key 11 _ _ _ [101,107] h rfl rfl (by decide) (by decide) (by simp[ZjQ,h])
   .rw[if_neg (by omega),if_neg (by omega),if_neg (by omega)];exact key 12 _ _ _ [101,116] h rfl rfl (by decide) (by decide) (by simp[ZjQ,h])
   .rw[if_neg (by omega),if_neg (by omega),if_neg (by omega)];exact key 13 _ _ _ [101,116] h rfl rfl (by decide) (by decide) (by simp[ZjQ,h])
def gv(v:Zag):Prop:=v.ok/\v.fBans.length<=5000/\v.fBook.length<=5000
structure Gd (l:List Zag):Prop where
 len:l.length<=400000
 val:∀v∈l,gv v
theorem Gd.drop{l:List Zag}(h:Gd l)(a:Nat):Gd (l.drop a):=⟨by have:=h.len;simp;omega,fun v b=>h.val v (List.mem_of_mem_drop b)⟩
def Ziw(k:Int):Zau:=⟨k,endZ,0,0,[]⟩
def pt(c:ZaA)(x:ZaB):Int:=Zmj x.fEnd.fAddr c.fSecret c.fShards
section
variable {c:ZaA} {x:ZaB} (hx:x.ok)
include hx
theorem pt_le:0<=pt c x/\pt c x<=7:=by
 obtain⟨_,_,b,d⟩:=Zsf x.fEnd.fAddr hx.2.1.1 c.fSecret c.fShards;have:ZmB c.fShards<=8:=by
  unfold ZmB
  repeat' split
  all_goals omega
 unfold pt;omega
theorem ZKY:Zan 2 (pt c x)=2+pt c x:=by
 have:=pt_le (c:=c) hx;exact Zcs (by omega) (by omega)
end
def ZFw:Pr Zau:=(keyP 8 0 true).bind fun _=>.ret (Ziw 1)
section
variable {c:ZaA} {x:ZaB} (hx:x.ok) {l:List Zag} (hl:Gd l)
include hx hl
end
section
variable {c:ZaA} {x:ZaB} (hx:x.ok) {l:List Zag} (hl:Gd l)
include hx hl
end
def StrP(l:Prs):Prop:=l.Pairwise fun x y=>ltP x y=true
theorem Zup:∀(n:Nat)(a b:Prs),a.length+b.length<=n->(mrg a b).Perm (a++b)
 | 0,a,b,h=>by
  obtain rfl:=List.eq_nil_of_length_eq_zero (show a.length=0 by omega)
  rw[Zks];exact List.Perm.refl _
 |n+1,[],b,h=>by rw[Zks];exact List.Perm.refl _
 |n+1,x :: a,[],h=>by rw[Zqo,List.append_nil]
 |n+1,x :: a,y :: b,h=>by
  simp only[List.length_cons]at h
  cases d:ltP y x with
  |true=>
   rw[Zvl _ _ d]
   refine((Zup n (x :: a) b (by simp only[List.length_cons];omega)).cons y).trans ?_
   exact List.perm_middle.symm
  |false=>
   rw[Zvm _ _ d]
   exact(Zup n a (y :: b) (by simp only[List.length_cons];omega)).cons x
theorem ZEQ(l:Prs):(ZpO l).Perm l:=by
 have:∀n,n<=l.length->(ZpO (l.take n)).Perm (l.take n):=by
  intro n;induction n with
  |zero=>intro _;simp[ZpO]
  |succ n ih=>
   intro h;rw[List.take_succ_eq_append_getElem (show n<l.length by omega),Zsy];exact(Zup _ _ _ (Nat.le_refl _)).trans ((ih (by omega)).append_right _)
 have h:=this l.length (Nat.le_refl _);rwa [List.take_length]at h
theorem ZwR:∀(m l:Prs),SrtP l->StrP m->l.Perm m->l=m
 | [],l,_,_,h=>List.perm_nil.1 h
 |y :: m,l,hl,d,h=>by
  cases l with
  |nil=>exact absurd h.length_eq (by simp)
  |cons x l=>
   have gU:=List.pairwise_cons.1 hl
   have hm':=List.pairwise_cons.1 d
   by_cases e:x=y
   .subst e
    rw[ZwR m l gU.2 hm'.2 h.cons_inv]
   .have h1:y∈x :: l:=h.symm.subset (by simp)
    have h2:x∈y :: m:=h.subset (by simp)
    rcases List.mem_cons.1 h1 with h1|h1
    .exact absurd h1.symm e
    .rcases List.mem_cons.1 h2 with h2|h2
     .exact absurd h2 e
     .have g:=gU.1 y h1
      have b:=hm'.1 x h2
      rw[g]at b;cases b
theorem ZzZ{xs l:Prs}(hl:StrP l)(h:xs.Perm l):ZpO xs=l:=ZwR l _ (ZAa xs) hl ((ZEQ xs).trans h)
theorem StrP.filter{l:Prs}(h:StrP l)(p:Zaa->Bool):StrP (l.filter p):=List.Pairwise.filter p h
theorem StrP.inj{l:Prs}(h:StrP l){x y:Zaa}(hx:x∈l)(d:y∈l)(e:x.fEnd=y.fEnd):x=y:=by
 induction l with
 |nil=>cases hx
 |cons z l ih=>
  have b:=List.pairwise_cons.1 h;have key:∀{w},w∈l->w.fEnd≠z.fEnd:=fun{w} g ew=>by
   have:=ZnS.1 (b.1 w g);rw[ZhM.2 ew.symm]at this;omega
  rcases List.mem_cons.1 hx with h1|h1<;>rcases List.mem_cons.1 d with h2|h2
  .rw[h1,h2]
  .exact absurd (by rw[<-e,h1]) (key h2)
  .exact absurd (by rw[e,h2]) (key h1)
  .exact ih b.2 h1 h2
theorem ZCZ{a:Zaf}(h:a.ok)(s n:Int):0<=Zmj a s n/\Zmj a s n<(Zbk n:Int):=by
 obtain⟨_,_,b,d⟩:=Zsf a h s n;have:ZmB n=(Zbk n:Int):=by
  unfold ZmB Zbk
  repeat' split
  all_goals omega
 omega
def ZpK(sec nsh:Int)(k:Nat)(p:Zaa):Bool:=decide (Zmj p.fEnd.fAddr sec nsh=(k:Int))
def ZhN(l:Prs)(sec nsh:Int)(k:Nat):Prs:=l.filter (ZpK sec nsh k)
def shF(a b:Prs):Zab:=⟨(a.length:Int),a++b⟩
abbrev PPs:=List (Prs×Prs)
def shP(ps:PPs):List Zab:=ps.map fun x=>shF x.1 x.2
theorem ZlX(ps:PPs):(shP ps).length=ps.length:=by simp[shP]
theorem ZxL(ps:PPs){i:Nat}(hi:i<ps.length):(shP ps).getD i Zab.d=shF (ps.getD i ([],[])).1 (ps.getD i ([],[])).2:=by
 simp[shP,List.getD_eq_getElem?_getD,hi]
theorem ZJS(ps:PPs)(i:Nat)(a b:Prs):(shP ps).set i (shF a b)=shP (ps.set i (a,b)):=by
 simp[shP,List.map_set]
def ps0(l:Prs)(sec nsh:Int)(n:Nat):PPs:=(List.range n).map fun k=>(ZhN l sec nsh k,[])
theorem ZuZ(l:Prs)(sec nsh:Int)(n:Nat):(ps0 l sec nsh n).length=n:=by simp[ps0]
theorem ZBr(l:Prs)(sec nsh:Int){n i:Nat}(hi:i<n):(ps0 l sec nsh n).getD i ([],[])=(ZhN l sec nsh i,[]):=by
 simp[ps0,List.getD_eq_getElem?_getD,hi]
theorem ZAk{α:Type}(p q:α->Bool):∀(l:List α),(∀x∈l,p x=true->q x=false)->(l.filter p++l.filter q).Perm (l.filter fun x=>p x||q x)
 | [],_=>by simp
 |x :: l,h=>by
  have ih:=ZAk p q l fun y d=>h y (List.mem_cons_of_mem _ d)
  have hx:=h x (by simp)
  cases hp:p x with
  |true=>
   rw[List.filter_cons_of_pos hp,List.filter_cons_of_neg (by simp[hx hp]),List.filter_cons_of_pos (by simp[hp])]
   exact ih.cons x
  |false=>
   rw[List.filter_cons_of_neg (by simp[hp])]
   cases b:q x with
   |true=>
    rw[List.filter_cons_of_pos b,List.filter_cons_of_pos (by simp[b])]
    exact List.perm_middle.trans (ih.cons x)
   |false=>
    rw[List.filter_cons_of_neg (by simp[b]),List.filter_cons_of_neg (by simp[hp,b])]
    exact ih
theorem Zxd(l:Prs)(sec nsh:Int):∀(n:Nat),(((List.range n).map (ZhN l sec nsh)).flatten).Perm (l.filter fun p=>decide (0<=Zmj p.fEnd.fAddr sec nsh/\Zmj p.fEnd.fAddr sec nsh<(n:Int)))
 | 0=>by
  have:(l.filter fun p=>decide (0<=Zmj p.fEnd.fAddr sec nsh/\Zmj p.fEnd.fAddr sec nsh<((0:Nat):Int)))=[]:=by
   rw[List.filter_eq_nil_iff];intro p _;simp only[decide_eq_true_eq];omega
  rw[this];simp
 |n+1=>by
  rw[List.range_succ,List.map_append,List.flatten_append];simp only[List.map_cons,List.map_nil,List.flatten_cons,List.flatten_nil,List.append_nil];refine((Zxd l sec nsh n).append_right _).trans ?_;unfold ZhN;refine(ZAk _ _ l fun p _ h=>?_).trans ?_
  .simp only[ZpK,decide_eq_true_eq,decide_eq_false_iff_not]at h ⊢;omega
  .have:(l.filter fun x=>(decide (0<=Zmj x.fEnd.fAddr sec nsh/\Zmj x.fEnd.fAddr sec nsh<(n:Int))||ZpK sec nsh n x))=l.filter fun p=>decide (0<=Zmj p.fEnd.fAddr sec nsh/\Zmj p.fEnd.fAddr sec nsh<((n+1:Nat):Int)):=by
    apply List.filter_congr;intro p _;unfold ZpK;rw[Bool.eq_iff_iff];simp only[Bool.or_eq_true,decide_eq_true_eq];omega
   rw[this]
theorem Zyc{l:Prs}(aC:∀p∈l,p.ok)(sec nsh:Int):((ps0 l sec nsh (Zbk nsh)).map (·.1)).flatten.Perm l:=by
 have h:=Zxd l sec nsh (Zbk nsh);have e:(l.filter fun p=>decide (0<=Zmj p.fEnd.fAddr sec nsh/\Zmj p.fEnd.fAddr sec nsh<(Zbk nsh:Int)))=l:=by
  rw[List.filter_eq_self];intro p hp;simp only[decide_eq_true_eq];exact ZCZ (aC p hp).1.1 sec nsh
 rw[e]at h;have b:(ps0 l sec nsh (Zbk nsh)).map (·.1)=(List.range (Zbk nsh)).map (ZhN l sec nsh):=by simp[ps0]
 rw[b];exact h
def ZnI(L:List Prs)(i:Nat):Prs:=(L.take i).flatten++(L.drop (i+1)).flatten
theorem ZBN(L:List Prs){i:Nat}(hi:i<L.length):L.flatten.Perm (L.getD i []++ZnI L i):=by
 have e:L=L.take i++L.getD i [] :: L.drop (i+1):=by rw[<-ZeQ L [] i hi,List.take_append_drop]
 conv=>lhs;rw[e]
 rw[List.flatten_append,List.flatten_cons];unfold ZnI;rw[<-List.append_assoc,<-List.append_assoc];exact(List.perm_append_comm).append_right _
theorem ZEF(L:List Prs)(i:Nat)(x:Prs):ZnI (L.set i x) i=ZnI L i:=by
 unfold ZnI;rw[List.take_set_of_le (Nat.le_refl i),List.drop_set_of_lt (by omega)]
theorem ZDA(L:List Prs){i:Nat}(hi:i<L.length)(x:Prs):(L.set i x).flatten.Perm (x++ZnI L i):=by
 have h:=ZBN (L.set i x) (i:=i) (by simpa using hi);rw[ZxM L _ hi,ZEF]at h;exact h
theorem ZEp(l:Prs)(sec nsh:Int)(hl:l.length<=1000)(aC:∀p∈l,p.ok):Zga l sec nsh=some (shP (ps0 l sec nsh (Zbk nsh))):=by
 have y:=Zij nsh;have bY:∀(v8:Nat)(w7:List Zab)(kg:Int->List Zab->Option (List Zab)),w7.length<=100->v8<=100->∀(k i fu:Nat),l.length-i=k->i<=l.length->k+1<=fu ->
   Zcm l sec nsh (v8:Int) kg fu (i:Int) w7 (((ZhN (l.take i) sec nsh v8).length:Nat):Int) (ZhN (l.take i) sec nsh v8)=kg ((v8+1:Nat):Int) (w7++[shF (ZhN l sec nsh v8) []]):=by
  intro v8 w7 kg z A k;induction k with
  |zero=>
   intro i fu j hi o;obtain⟨fu,rfl⟩ : ∃x,fu=x+1:=⟨fu-1,by omega⟩;have g:Zan (v8:Int) 1=((v8+1:Nat):Int):=add1 (n:=v8+1) (by omega) (by simp only[maxLen];omega);unfold Zcm;rw[Zai,if_neg (by omega),List.take_of_length_le (by omega),Zar ⟨by simp;omega,by simp[maxLen];omega⟩,g];unfold shF;rw[List.append_nil]
  |succ k ih=>
   intro i fu j hi o;obtain⟨fu,rfl⟩ : ∃x,fu=x+1:=⟨fu-1,by omega⟩;have de:i<l.length:=by omega
   have g:Zan (i:Int) 1=((i+1:Nat):Int):=add1 (n:=i+1) (by omega) (by simp only[maxLen];omega);have hle:(ZhN (l.take i) sec nsh v8).length<=i:=by
    have:=List.length_filter_le (ZpK sec nsh v8) (l.take i);simp only[List.length_take]at this;unfold ZhN;omega
   have dG:l.take (i+1)=l.take i++[l.getD i Zaa.d]:=by rw[List.take_succ_eq_append_getElem de,ZbT l _ i de]
   have hp:=(Zsf (l.getD i Zaa.d).fEnd.fAddr (aC _ (ZeH l _ i de)).1.1 sec nsh).2.1;unfold Zcm;rw[Zai,if_pos (by omega),Zar ⟨by omega,by omega⟩,Int.toNat_natCast,hp,ZaJ,ZfN];have t:∀(b:Bool),ZpK sec nsh v8 (l.getD i Zaa.d)=b->ZhN (l.take (i+1)) sec nsh v8=ZhN (l.take i) sec nsh v8++(if b=true then[l.getD i Zaa.d]else[]):=by
    intro b hb;unfold ZhN;rw[dG,List.filter_append];cases b with
    |true=>rw[List.filter_cons_of_pos hb];rfl
    |false=>rw[List.filter_cons_of_neg (by rw[hb];decide)];rfl
   by_cases h:Zmj (l.getD i Zaa.d).fEnd.fAddr sec nsh=(v8:Int)
   .rw[if_pos h,Zar ⟨by simp only[List.length_append,List.length_singleton];omega,by simp only[List.length_append,List.length_singleton,maxLen];omega⟩,g];have u:Zan (((ZhN (l.take i) sec nsh v8).length:Nat):Int) 1=(((ZhN (l.take i) sec nsh v8).length+1:Nat):Int):=add1 (n:=(ZhN (l.take i) sec nsh v8).length+1) (by omega) (by simp only[maxLen];omega);have:=ih (i+1) fu (by omega) (by omega) (by omega);rw[t true (by unfold ZpK;rw[decide_eq_true_eq];exact h)]at this;simp only[if_true,List.length_append,List.length_singleton]at this;rw[u];exact this
   .rw[if_neg h,g];have:=ih (i+1) fu (by omega) (by omega) (by omega);rw[t false (by unfold ZpK;rw[decide_eq_false_iff_not];exact h)]at this;simp only[Bool.false_eq_true,if_false,List.append_nil]at this;exact this
 have cw:∀(k i fu:Nat),Zbk nsh-i=k->i<=Zbk nsh->k+1<=fu->Zcf l sec nsh fu (i:Int) (shP (ps0 l sec nsh i))=some (shP (ps0 l sec nsh (Zbk nsh))):=by
  intro k;induction k with
  |zero=>
   intro i fu j hi o;obtain⟨fu,rfl⟩ : ∃x,fu=x+1:=⟨fu-1,by omega⟩;have:i=Zbk nsh:=by omega
   subst this;unfold Zcf;rw[Zxc,ZaJ,Zai,if_neg (by omega)]
  |succ k ih=>
   intro i fu j hi o;obtain⟨fu,rfl⟩ : ∃x,fu=x+1:=⟨fu-1,by omega⟩;unfold Zcf;rw[Zxc,ZaJ,Zai,if_pos (by omega)];have h:=bY i (shP (ps0 l sec nsh i)) (Zcf l sec nsh fu) (by rw[ZlX,ZuZ];omega) (by omega) l.length 0 ((((l.length:Nat):Int)-(0:Int)).toNat+2) (by omega) (by omega) (by omega);have v:ZhN (l.take 0) sec nsh i=[]:=by simp[ZhN]
   rw[v]at h;have e:shP (ps0 l sec nsh i)++[shF (ZhN l sec nsh i) []]=shP (ps0 l sec nsh (i+1)):=by
    unfold shP ps0;rw[List.range_succ];simp
   rw[e]at h;refine h.trans ?_;exact ih (i+1) fu (by omega) (by omega) (by omega)
 exact cw (Zbk nsh) 0 1000000 (by omega) (by omega) (by omega)
theorem ZKc(a b:Prs)(h:(a++b).length<=10000):Zgb (shF a b)=some a:=by
 have hl:(a++b).length=a.length+b.length:=List.length_append;have aK:∀(k i fu:Nat),a.length-i=k->i<=a.length->k+1<=fu->ZcK fu (i:Int) (a.take i) (shF a b)=some a:=by
  intro k;induction k with
  |zero=>
   intro i fu g hi j;obtain⟨fu,rfl⟩ : ∃x,fu=x+1:=⟨fu-1,by omega⟩;unfold ZcK;rw[Zai,if_neg (by show ¬((i:Int)<(a.length:Int));omega),List.take_of_length_le (by omega)]
  |succ k ih=>
   intro i fu g hi j;obtain⟨fu,rfl⟩ : ∃x,fu=x+1:=⟨fu-1,by omega⟩;have de:i<a.length:=by omega
   have o:Zan (i:Int) 1=((i+1:Nat):Int):=add1 (n:=i+1) (by omega) (by simp only[maxLen];omega);have p:(a++b).getD i Zaa.d=a.getD i Zaa.d:=by simp[List.getD_eq_getElem?_getD,List.getElem?_append_left de]
   have t:a.take (i+1)=a.take i++[a.getD i Zaa.d]:=by rw[List.take_succ_eq_append_getElem de,ZbT a _ i de]
   unfold ZcK;rw[Zai,if_pos (by show (i:Int)<(a.length:Int);omega),Zai,if_pos (by show (i:Int)<(((a++b).length:Nat):Int);omega)];show (need (0<=(i:Int)/\(i:Int)<(((a++b).length:Nat):Int)) _)=_;rw[Zar ⟨by omega,by omega⟩,Int.toNat_natCast];show (need _ _)=_;rw[show (shF a b).fSlots=a++b from rfl,p,<-t,Zar ⟨by simp only[List.length_take];omega,by simp only[List.length_take,maxLen];omega⟩,o];exact ih (i+1) fu (by omega) (by omega) (by omega)
 exact aK a.length 0 1000000 (by omega) (by omega) (by omega)
theorem ZGy(ps:PPs)(p:ps.length<=100)(b:∀x∈ps,(x.1++x.2).length<=1000):Zeu (shP ps)=some (ZpO (ps.map (·.1)).flatten):=by
 have hlen:∀i,i<=ps.length->((ps.take i).map (·.1)).flatten.length<=i * 1000:=by
  intro i;induction i with
  |zero=>intro _;simp
  |succ i ih=>
   intro h;have hi:i<ps.length:=by omega
   have:=b _ (ZeH ps ([],[]) i hi);rw[List.length_append]at this;rw[List.take_succ_eq_append_getElem hi,List.map_append,List.flatten_append,List.length_append];have e:ps[i]=ps.getD i ([],[]):=(ZbT ps _ i hi).symm;simp only[List.map_cons,List.map_nil,List.flatten_cons,List.flatten_nil,List.append_nil,e];have:=ih (by omega);omega
 have aK:∀(k i fu:Nat),ps.length-i=k->i<=ps.length->k+1<=fu->ZcS (shP ps) fu (i:Int) ((ps.take i).map (·.1)).flatten=some (ZpO (ps.map (·.1)).flatten):=by
  intro k;induction k with
  |zero=>
   intro i fu d hi g;obtain⟨fu,rfl⟩ : ∃x,fu=x+1:=⟨fu-1,by omega⟩;have:=hlen ps.length (Nat.le_refl _);rw[List.take_length]at this;unfold ZcS;rw[ZlX,Zai,if_neg (by omega),List.take_of_length_le (by omega),ZEv _ (by omega)];rfl
  |succ k ih=>
   intro i fu d hi g;obtain⟨fu,rfl⟩ : ∃x,fu=x+1:=⟨fu-1,by omega⟩;have de:i<ps.length:=by omega
   have j:Zan (i:Int) 1=((i+1:Nat):Int):=add1 (n:=i+1) (by omega) (by simp only[maxLen];omega);have t:=b _ (ZeH ps ([],[]) i de);have o:((ps.take i).map (·.1)).flatten++(ps.getD i ([],[])).1=((ps.take (i+1)).map (·.1)).flatten:=by
    rw[List.take_succ_eq_append_getElem de,List.map_append,List.flatten_append,ZbT ps _ i de];simp
   have u:=hlen (i+1) (by omega);unfold ZcS;rw[ZlX,Zai,if_pos (by omega),Zar ⟨by omega,by omega⟩,Int.toNat_natCast,ZxL ps de,ZKc _ _ (by omega),ZaJ,o,Zar ⟨by omega,by unfold maxLen;omega⟩,j];exact ih (i+1) fu (by omega) (by omega) (by omega)
 unfold Zeu;have:=aK ps.length 0 ((((shP ps).length:Nat)-(0:Int)).toNat+2) (by omega) (by omega) (by rw[ZlX];omega);simpa using this
theorem ZHy{ap out:Int}{ag fM:List Zae}{book fO:List Zac}{sh:List Zab}{n:Nat}(z:n<=100){peers:Prs}(hp:peers.length<=1000){d:Int}(o:ap=cntP peers true)(p:out=d) :
  ZgH (memM ap out ag book sh n fun _=>Zhn) ⟨fM,fO,peers⟩ d=some true:=by
 have t:∀(kg:Int->Int->ZaE->Zas->Option Bool)(v8:Int)(k i fu:Nat),n+2-i=k->i<=n+2->k+1<=fu->ZcU d ap v8 (memM ap out ag book sh n fun _=>Zhn) ⟨fM,fO,peers⟩ kg fu (i:Int)=some true:=by
  intro kg v8 k;induction k with
  |zero=>
   intro i fu b hi g;obtain⟨fu,rfl⟩ : ∃x,fu=x+1:=⟨fu-1,by omega⟩;unfold ZcU;show (bif(decide ((i:Int)<(((lks n fun _=>Zhn).length:Nat):Int)))then _ else _)=_;rw[Zvp,Zai,if_neg (by omega)];show (bif(ap==ap)then some (out==d)else some false)=_;rw[beq_self_eq_true,cond_true,p,beq_self_eq_true]
  |succ k ih=>
   intro i fu b hi g;obtain⟨fu,rfl⟩ : ∃x,fu=x+1:=⟨fu-1,by omega⟩;have j:Zan (i:Int) 1=((i+1:Nat):Int):=add1 (n:=i+1) (by omega) (by simp only[maxLen];omega);unfold ZcU;show (bif(decide ((i:Int)<(((lks n fun _=>Zhn).length:Nat):Int)))then _ else _)=_;rw[Zvp,Zai,if_pos (by omega)];show (need (0<=(i:Int)/\(i:Int)<(((lks n fun _=>Zhn).length:Nat):Int)) _)=_;rw[Zvp,Zar ⟨by omega,by omega⟩,Int.toNat_natCast];show (bif(((lks n fun _=>Zhn).getD i Zat.d).fBy != 0)then _ else _)=_;rw[ZBH _ (by omega)];show (bif(decide (((((lks n fun _=>Zhn).getD i Zat.d).fShare.length:Nat):Int)>0))then _ else _)=_;rw[ZBH _ (by omega),j];exact ih (i+1) fu (by omega) (by omega) (by omega)
 have c0:∀(k i fu:Nat),peers.length-i=k->i<=peers.length->k+1<=fu->ZbX d fu (cntP (peers.take i) true) (i:Int) (memM ap out ag book sh n fun _=>Zhn) ⟨fM,fO,peers⟩=some true:=by
  intro k;induction k with
  |zero=>
   intro i fu b hi g;obtain⟨fu,rfl⟩ : ∃x,fu=x+1:=⟨fu-1,by omega⟩;unfold ZbX;rw[Zai,if_neg (by show ¬((i:Int)<((peers.length:Nat):Int));omega),List.take_of_length_le (by omega),<-o];exact t _ _ (n+2) 0 1000000 (by omega) (by omega) (by omega)
  |succ k ih=>
   intro i fu b hi g;obtain⟨fu,rfl⟩ : ∃x,fu=x+1:=⟨fu-1,by omega⟩;have de:i<peers.length:=by omega
   have j:Zan (i:Int) 1=((i+1:Nat):Int):=add1 (n:=i+1) (by omega) (by simp only[maxLen];omega);have u:peers.take (i+1)=peers.take i++[peers.getD i Zaa.d]:=by rw[List.take_succ_eq_append_getElem de,ZbT peers _ i de]
   have A:=Zwb (peers.take i) true;have v:cntP (peers.take (i+1)) true=cntP (peers.take i) true+(if(peers.getD i Zaa.d).fIn=true then 1 else 0):=by
    unfold cntP;rw[u,List.countP_append];generalize peers.getD i Zaa.d=q;cases h:q.fIn<;>simp[h]
   have hl:(peers.take i).length<=1000:=by simp;omega
   unfold ZbX;rw[Zai,if_pos (by show (i:Int)<((peers.length:Nat):Int);omega)];show (need (0<=(i:Int)/\(i:Int)<((peers.length:Nat):Int)) _)=_;rw[Zar ⟨by omega,by omega⟩,Int.toNat_natCast,j];have:=ih (i+1) fu (by omega) (by omega) (by omega);rw[v]at this;show (bif(peers.getD i Zaa.d).fIn then _ else _)=_;cases hin:(peers.getD i Zaa.d).fIn with
   |true=>
    rw[hin,if_pos rfl]at this;rw[cond_true,Zcs (by omega) (by omega)];exact this
   |false=>
    rw[hin,if_neg (by decide),Int.add_zero]at this;rw[cond_false];exact this
 have:=c0 peers.length 0 1000000 (by omega) (by omega) (by omega);have y:cntP (peers.take 0) true=0:=by simp[cntP]
 rw[y]at this;exact this
theorem ZIC(c:ZaA)(s:Zas)(aC:∀p∈s.fPeers,p.ok)(b:s.fPeers.length<=100)(g:s.fBook.length<=100) :
  ZgY c s=some (memM (cntP s.fPeers true) (cntP s.fPeers false+Zhm s.fBook 2) s.fBans s.fBook (shP (ps0 s.fPeers c.fSecret c.fShards (Zbk c.fShards))) (Zbk c.fShards) fun _=>Zhn):=by
 have o:=Zij c.fShards;have t:=Zwb s.fPeers false;have hb:0<=Zhm s.fBook 2/\Zhm s.fBook 2<=100:=by
  unfold Zhm;have:=List.countP_le_length (p:=fun x:Zac=>decide (x.fState=2)) (l:=s.fBook);omega
 have h:Zan ((Zbk c.fShards:Nat):Int) 2=((Zbk c.fShards+2:Nat):Int):=by rw[Zcs (by omega) (by omega)];omega
 unfold ZgY;rw[Zmz _ _ (by unfold maxLen;omega),ZaJ,Zmz _ _ (by unfold maxLen;omega),ZaJ,ZzB _ _ (by unfold maxLen;omega),ZaJ,ZEp _ _ _ (by omega) aC,ZaJ];simp only[ZlX,ZuZ,h];rw[Zar ⟨by omega,by omega,by omega,by omega⟩,Zcs (by omega) (by omega)];have j:List.replicate ((Zbk c.fShards+2:Nat):Int).toNat Zat.d=lks (Zbk c.fShards) fun _=>Zhn:=by
  rw[Int.toNat_natCast];apply List.ext_getElem
  .simp[lks]
  .intro i b g;simp[lks];rfl
 rw[j];rfl
theorem ZEn{ap out:Int}{ag:List Zae}{book:List Zac}{ps:PPs}{n:Nat}{f:Nat->Zat}(b:ps.length<=100)(d:∀x∈ps,(x.1++x.2).length<=1000){peers:Prs}(hp:StrP peers)(fP:((ps.map (·.1)).flatten).Perm peers) :
  ZeW (memM ap out ag book (shP ps) n f)=some ⟨ag,book,peers⟩:=by
 unfold ZeW;show ((Zeu (shP ps)).bind fun x1=>some (Zas.mk ag book x1))=_;rw[ZGy ps b d,ZaJ,ZzZ hp fP]
theorem Zwu(s:Zas)(b:s.fBans.length<=1000000)(d:s.fBook.length<=1000000)(g:s.fPeers.length<=1000000):Zfu s s=some true:=by
 unfold Zfu;rw[ZxQ _ b,ZaJ,cond_true,ZxP _ d,ZaJ,cond_true,Zrt _ g];rfl
theorem ZtQ(s:Zas)(b:s.fPeers.length<=1000)(d:s.fBook.length<=1000):Zdy s=some (cntP s.fPeers false+Zhm s.fBook 2):=by
 have g:=Zwb s.fPeers false;have hb:0<=Zhm s.fBook 2/\Zhm s.fBook 2<=1000:=by
  unfold Zhm;have:=List.countP_le_length (p:=fun x:Zac=>decide (x.fState=2)) (l:=s.fBook);omega
 unfold Zdy;rw[Zmz _ _ (by unfold maxLen;omega),ZaJ,ZzB _ _ (by unfold maxLen;omega),ZaJ,Zcs (by omega) (by omega)]
theorem ZBJ(n a b:Int):Zbz n a b=some (decide (n>=a)&&decide (n<=b)):=by
 unfold Zbz;cases decide (n>=a)<;>rfl
theorem ZyE{α:Type}{c:Bool}{x y:Option α}(d:∃b,x=some b)(g:∃b,y=some b):∃b,(bif c then x else y)=some b:=by
 cases c
 .exact g
 .exact d
theorem ZJZ(c:ZaA):∃b,Zdv c=some b:=by
 unfold Zdv;simp only[Zch,ZcM,ZBJ,ZaJ]
 repeat' first|exact⟨_,rfl⟩|apply ZyE
theorem ZEs(c:ZaA):Zch false c=some false:=by
 simp[Zch,ZcM,ZBJ]
theorem ZCS{c:ZaA}(h:Zdv c=some true):1<=c.fShards/\c.fShards<=8:=by
 unfold Zdv at h;simp only[ZBJ,ZaJ,ZEs]at h;cases b:(decide (c.fMaxIn>=0)&&decide (c.fMaxIn<=65535))with
 |false=>rw[b]at h;simp at h
 |true=>
  rw[b,cond_true]at h;cases d:(decide (c.fMaxOut>=0)&&decide (c.fMaxOut<=65535))with
  |false=>rw[d]at h;simp at h
  |true=>
   rw[d,cond_true]at h;cases g:(decide (c.fShards>=1)&&decide (c.fShards<=8))with
   |false=>rw[g]at h;simp at h
   |true=>
    rw[Bool.and_eq_true,decide_eq_true_eq,decide_eq_true_eq]at g;omega
theorem ZKa(p:Zaa)(h:p.ok):∃b,Zgf p=some b:=by
 unfold Zgf;rw[Zqj _ h.1,ZaJ]
 repeat' first|exact⟨_,rfl⟩|apply ZyE
theorem ZJY(l:Prs)(hl:l.length<=1000)(aC:∀p∈l,p.ok):∃b,Zht l=some b/\(b=true->StrP l):=by
 have bY:∀(v3:Nat)(kg:Int->Option Bool)(Q:Prop),v3<l.length->(∃b,kg ((v3+1:Nat):Int)=some b/\(b=true->Q))->∀(k i fu:Nat),v3-i=k->i<=v3->k+1<=fu ->
   ∃b,ZcL l (v3:Int) kg fu (i:Int)=some b/\(b=true->Q/\∀j,i<=j->j<v3->cmpE (l.getD j Zaa.d).fEnd (l.getD v3 Zaa.d).fEnd<0):=by
  intro v3 kg Q G hkg k;induction k with
  |zero=>
   intro i fu v hi y;obtain⟨fu,rfl⟩ : ∃x,fu=x+1:=⟨fu-1,by omega⟩;have z:Zan (v3:Int) 1=((v3+1:Nat):Int):=add1 (n:=v3+1) (by omega) (by simp only[maxLen];omega);unfold ZcL;rw[Zai,if_neg (by omega),z];obtain⟨b,o,g⟩:=hkg;exact⟨b,o,fun hb=>⟨g hb,fun j A t=>by omega⟩⟩
  |succ k ih=>
   intro i fu v hi y;obtain⟨fu,rfl⟩ : ∃x,fu=x+1:=⟨fu-1,by omega⟩;have z:Zan (i:Int) 1=((i+1:Nat):Int):=add1 (n:=i+1) (by omega) (by simp only[maxLen];omega);unfold ZcL;rw[Zai,if_pos (by omega),Zar ⟨by omega,by omega⟩,Zar ⟨by omega,by omega⟩,Int.toNat_natCast,Int.toNat_natCast,Zsj,ZaJ,Zai,z];by_cases h:cmpE (l.getD i Zaa.d).fEnd (l.getD v3 Zaa.d).fEnd>=0
   .rw[if_pos h];exact⟨_,rfl,fun e=>by cases e⟩
   .rw[if_neg h];obtain⟨b,o,g⟩:=ih (i+1) fu (by omega) (by omega) (by omega);refine⟨b,o,fun hb=>⟨(g hb).1,fun j A t=>?_⟩⟩;by_cases B:j=i
    .subst B;omega
    .exact(g hb).2 j (by omega) t
 have cw:∀(k i fu:Nat),l.length-i=k->i<=l.length->k+1<=fu->∃b,Zcg l fu (i:Int)=some b/\(b=true->∀q j,i<=q->j<q->q<l.length->cmpE (l.getD j Zaa.d).fEnd (l.getD q Zaa.d).fEnd<0):=by
  intro k;induction k with
  |zero=>
   intro i fu v hi y;obtain⟨fu,rfl⟩ : ∃x,fu=x+1:=⟨fu-1,by omega⟩;unfold Zcg;rw[Zai,if_neg (by omega)];exact⟨_,rfl,fun _ q j o g A=>by omega⟩
  |succ k ih=>
   intro i fu v hi y;obtain⟨fu,rfl⟩ : ∃x,fu=x+1:=⟨fu-1,by omega⟩;obtain⟨b1,bL⟩:=ZKa _ (aC _ (ZeH l Zaa.d i (by omega)));unfold Zcg;rw[Zai,if_pos (by omega),Zar ⟨by omega,by omega⟩,Int.toNat_natCast,bL,ZaJ];cases b1 with
   |false=>exact⟨_,rfl,fun e=>by cases e⟩
   |true=>
    rw[Bool.not_true,cond_false];obtain⟨b,o,g⟩:=bY i (Zcg l fu) _ (by omega) (ih (i+1) fu (by omega) (by omega) (by omega)) i 0 (((i:Int)-(0:Int)).toNat+2) (by omega) (by omega) (by omega);refine⟨b,o,fun hb q j A t D=>?_⟩;obtain⟨E,F⟩:=g hb;by_cases u:q=i
    .subst u;exact F j (Nat.zero_le _) t
    .exact E q j (by omega) t D
 obtain⟨b,o,g⟩:=cw l.length 0 ((((l.length:Nat):Int)-(0:Int)).toNat+2) (by omega) (by omega) (by omega);refine⟨b,o,fun hb=>?_⟩;unfold StrP;rw[List.pairwise_iff_getElem];intro j q B u hlt;have:=g hb q j (Nat.zero_le _) hlt u;rw[ZbT l _ j B,ZbT l _ q u]at this;exact ZnS.2 this
def upR(l:Prs)(e:Zac):Prop:=e.fState=3↔0<=ZhO l e.fEnd/\(l.getD (ZhO l e.fEnd).toNat Zaa.d).fIn=false
structure i5 (c:ZaA) (s:Zas):Prop where
 conf:Zdv c=some true
 peers:StrP s.fPeers
 book:ZFS s.fBook=true
 up:∀e∈s.fBook,upR s.fPeers e
theorem ZJX(c:ZaA)(s:Zas)(hs:s.ok)(D:s.fBans.length<=20)(E:s.fBook.length<=20)(F:s.fPeers.length<=20):∃b,ZfX c s=some b/\(b=true->i5 c s):=by
 obtain⟨⟨_,okb⟩,⟨_,oke⟩,⟨_,okp⟩,_⟩:=hs;have y:∀(v5:Int)(kg:Int->Zas->Option Bool)(k i fu:Nat),s.fPeers.length-i=k->i<=s.fPeers.length->k+1<=fu->∃b,Zcl v5 s kg fu (i:Int)=some b:=by
  intro v5 kg k;induction k with
  |zero=>
   intro i fu p hi t;obtain⟨fu,rfl⟩ : ∃x,fu=x+1:=⟨fu-1,by omega⟩;unfold Zcl;rw[Zai,if_neg (by omega)];exact⟨_,rfl⟩
  |succ k ih=>
   intro i fu p hi t;obtain⟨fu,rfl⟩ : ∃x,fu=x+1:=⟨fu-1,by omega⟩;have u:Zan (i:Int) 1=((i+1:Nat):Int):=add1 (n:=i+1) (by omega) (by simp only[maxLen];omega);unfold Zcl;rw[Zai,if_pos (by omega),Zar ⟨by omega,by omega⟩,Int.toNat_natCast,u,ZIo _ _ (by unfold maxLen;omega),ZaJ];exact ZyE (ZyE ⟨_,rfl⟩ (ih (i+1) fu (by omega) (by omega) (by omega))) (ih (i+1) fu (by omega) (by omega) (by omega))
 have c0:∀(k i fu:Nat),s.fBook.length-i=k->i<=s.fBook.length->k+1<=fu->∃b,ZbG fu (i:Int) s=some b/\(b=true->∀j,i<=j->j<s.fBook.length->upR s.fPeers (s.fBook.getD j Zac.d)):=by
  intro k;induction k with
  |zero=>
   intro i fu p hi t;obtain⟨fu,rfl⟩ : ∃x,fu=x+1:=⟨fu-1,by omega⟩;unfold ZbG;rw[Zai,if_neg (by omega)];obtain⟨b,hb⟩:=y (i:Int) (ZbG fu) s.fPeers.length 0 1000000 (by omega) (by omega) (by omega);exact⟨b,hb,fun _ j A v=>by omega⟩
  |succ k ih=>
   intro i fu p hi t;obtain⟨fu,rfl⟩ : ∃x,fu=x+1:=⟨fu-1,by omega⟩;have u:Zan (i:Int) 1=((i+1:Nat):Int):=add1 (n:=i+1) (by omega) (by simp only[maxLen];omega);obtain⟨b,bL,bA⟩:=ih (i+1) fu (by omega) (by omega) (by omega);have hlt:=ZIO s.fPeers (s.fBook.getD i Zac.d).fEnd;have cj:∀{P:Prop},(P↔upR s.fPeers (s.fBook.getD i Zac.d))->P->b=true->∀j,i<=j->j<s.fBook.length->upR s.fPeers (s.fBook.getD j Zac.d):=fun B hp hb j A v=>by
    by_cases o:j=i
    .subst o;exact B.1 hp
    .exact bA hb j (by omega) v
   unfold ZbG;rw[Zai,if_pos (by omega),Zar ⟨by omega,by omega⟩,Int.toNat_natCast,u,ZuS _ _ (by unfold maxLen;omega),ZaJ,Zai];by_cases hf0:ZhO s.fPeers (s.fBook.getD i Zac.d).fEnd>=0
   .rw[if_pos hf0,Zar ⟨hf0,hlt⟩];cases g:(((s.fBook.getD i Zac.d).fState==3) == !(s.fPeers.getD (ZhO s.fPeers (s.fBook.getD i Zac.d).fEnd).toNat Zaa.d).fIn)with
    |false=>exact⟨_,rfl,fun e=>by cases e⟩
    |true=>
     refine⟨b,bL,cj Iff.rfl ?_⟩;rw[beq_iff_eq]at g;unfold upR;rw[<-beq_iff_eq,g];generalize (s.fPeers.getD (ZhO s.fPeers (s.fBook.getD i Zac.d).fEnd).toNat Zaa.d).fIn=z;exact⟨fun h=>⟨hf0,by cases z<;>first|rfl|cases h⟩,fun h=>by rw[h.2];rfl⟩
   .rw[if_neg hf0];cases g:(((s.fBook.getD i Zac.d).fState==3)==false)with
    |false=>exact⟨_,rfl,fun e=>by cases e⟩
    |true=>
     refine⟨b,bL,cj Iff.rfl ?_⟩;rw[beq_iff_eq]at g;unfold upR;rw[<-beq_iff_eq,g];exact⟨fun h=>(by cases h),fun h=>absurd h.1 hf0⟩
 obtain⟨b1,bL⟩:=ZJZ c;obtain⟨b2,bA,_⟩:=ZEx s.fBans (by unfold maxLen;omega) okb;obtain⟨b4,hb4,lN⟩:=ZJY s.fPeers (by omega) okp;obtain⟨b7,hb7,lO⟩:=c0 s.fBook.length 0 1000000 (by omega) (by omega) (by omega);unfold ZfX;rw[bL,ZaJ];cases b1 with
 |false=>exact⟨_,rfl,fun e=>by cases e⟩
 |true=>
  rw[Bool.not_true,cond_false,bA,ZaJ];cases b2 with
  |false=>exact⟨_,rfl,fun e=>by cases e⟩
  |true=>
   rw[Bool.not_true,cond_false,Zya _ (by unfold maxLen;omega) oke,ZaJ];cases hb3:ZFS s.fBook with
   |false=>exact⟨_,rfl,fun e=>by cases e⟩
   |true=>
    rw[Bool.not_true,cond_false,hb4,ZaJ];cases b4 with
    |false=>exact⟨_,rfl,fun e=>by cases e⟩
    |true=>
     rw[Bool.not_true,cond_false,Zmz _ _ (by unfold maxLen;omega),ZaJ,ZtQ _ (by omega) (by omega),ZaJ];cases decide (((s.fBans.length:Nat):Int)>c.fMaxBans)with
     |true=>exact⟨_,rfl,fun e=>by cases e⟩
     |false=>
      rw[cond_false];cases decide (((s.fBook.length:Nat):Int)>c.fMaxBook)with
      |true=>exact⟨_,rfl,fun e=>by cases e⟩
      |false=>
       rw[cond_false];cases decide (cntP s.fPeers true>c.fMaxIn)with
       |true=>exact⟨_,rfl,fun e=>by cases e⟩
       |false=>
        rw[cond_false];cases decide (cntP s.fPeers false+Zhm s.fBook 2>c.fMaxOut)with
        |true=>exact⟨_,rfl,fun e=>by cases e⟩
        |false=>
         rw[cond_false];refine⟨b7,hb7,fun hb=>⟨bL,lN rfl,hb3,fun e he=>?_⟩⟩;obtain⟨j,o,rfl⟩:=List.getElem_of_mem he;have:=lO hb j (Nat.zero_le _) o;rwa [ZbT s.fBook _ j o]at this
theorem ZJR(s:Zas):∃b,Zgj s=some b/\(b=true->s.fBans.length<=20/\s.fBook.length<=20/\s.fPeers.length<=20):=by
 unfold Zgj;rw[Zai,Zai];by_cases d:((s.fBans.length:Nat):Int)<=20
 .rw[if_pos d];by_cases g:((s.fBook.length:Nat):Int)<=20
  .rw[if_pos g];exact⟨_,rfl,fun h=>by rw[decide_eq_true_eq]at h;omega⟩
  .rw[if_neg g];exact⟨_,rfl,fun e=>by cases e⟩
 .rw[if_neg d];exact⟨_,rfl,fun e=>by cases e⟩
theorem Zuz{l:Prs}{e:Zal}:ZhO l e<0↔∀p∈l,p.fEnd≠e:=by
 unfold ZhO;rw[ZqW];simp
theorem ZDB{l:Prs}{e:Zal}(h:0<=ZhO l e):∃k:Nat,k<l.length/\ZhO l e=(k:Int)/\(l.getD k Zaa.d).fEnd=e/\∀j,j<k->(l.getD j Zaa.d).fEnd≠e:=by
 obtain⟨k,b,g,⟨x,o,p⟩,t⟩:=Zsx (fun x:Zaa=>decide (x.fEnd=e)) l 0 h;refine⟨k,b,by unfold ZhO;rw[g,Nat.zero_add],?_,fun j u=>?_⟩
 .have:l.getD k Zaa.d=x:=by rw[List.getD_eq_getElem?_getD,o];rfl
  rw[this];exact of_decide_eq_true p
 .have:=t j u;obtain⟨y,v,z⟩:=this;have A:l.getD j Zaa.d=y:=by rw[List.getD_eq_getElem?_getD,v];rfl
  rw[A];exact of_decide_eq_false z
def butK(l:Prs)(k:Nat):Prs:=l.take k++l.drop (k+1)
theorem ZoU{l:Prs}{k:Nat}(b:k<l.length):l.Perm (l.getD k Zaa.d :: butK l k):=by
 have e:l=l.take k++l.getD k Zaa.d :: l.drop (k+1):=by rw[<-ZeQ l _ k b,List.take_append_drop]
 conv=>lhs;rw[e]
 exact List.perm_middle
theorem ZHz{l:Prs}(hs:StrP l){e:Zal}{k:Nat}(g:k<l.length)(he:(l.getD k Zaa.d).fEnd=e):butK l k=ZuN l [e]:=by
 have b:l=l.take k++l.getD k Zaa.d :: l.drop (k+1):=by rw[<-ZeQ l _ k g,List.take_append_drop]
 have bO:=hs;rw[b]at bO;unfold StrP at bO;rw[List.pairwise_append,List.pairwise_cons]at bO;obtain⟨_,⟨j,_⟩,o⟩:=bO;unfold ZuN
 conv=>rhs;rw[b]
 rw[List.filter_append,List.filter_cons_of_neg (by rw[he];simp)];unfold butK;congr 1
 .symm;rw[List.filter_eq_self];intro p hp;have:=ZnS.1 (o p hp (l.getD k Zaa.d) List.mem_cons_self);have hne:p.fEnd≠e:=fun h=>by rw[h,<-he,ZhM.2 rfl]at this;omega
  simp[hne]
 .symm;rw[List.filter_eq_self];intro p hp;have:=ZnS.1 (j p hp);have hne:p.fEnd≠e:=fun h=>by rw[h,<-he,ZhM.2 rfl]at this;omega
  simp[hne]
theorem Zzj{l:Prs}(h:StrP l)(k:Nat):StrP (butK l k):=by
 have e:(butK l k).Sublist l:=by
  unfold butK
  conv=>rhs;rw[<-List.take_append_drop k l]
  refine List.Sublist.append (List.Sublist.refl _) ?_;have:l.drop (k+1)=(l.drop k).drop 1:=by rw[List.drop_drop]
  rw[this];exact List.drop_sublist 1 _
 exact List.Pairwise.sublist e h
theorem StrP.set{l:Prs}(h:StrP l){k:Nat}(t:k<l.length){y:Zaa}(he:y.fEnd=(l.getD k Zaa.d).fEnd):StrP (l.set k y):=by
 unfold StrP at h ⊢;rw[List.pairwise_iff_getElem]at h ⊢;intro i j hi p hij;simp only[List.length_set]at hi p;have b:=ZnS.1 (h i j hi p hij);rw[ZbT l _ k t]at he;rw[ZnS];simp only[List.getElem_set];by_cases g:k=i<;>by_cases o:k=j
 .omega
 .subst g;rw[if_pos rfl,if_neg o,he];exact b
 .subst o;rw[if_neg g,if_pos rfl,he];exact b
 .rw[if_neg g,if_neg o];exact b
def oneI(b:Bool):Int:=if b=true then 1 else 0
theorem ZqJ{a b:Prs}(h:a.Perm b)(t:Bool):cntP a t=cntP b t:=by
 unfold cntP;rw[h.countP_eq]
theorem ZqK(p:Zaa)(l:Prs)(t:Bool):cntP (p :: l) t=oneI (p.fIn==t)+cntP l t:=by
 unfold cntP oneI;rw[List.countP_cons];cases p.fIn==t<;>simp<;>omega
theorem ZHo{l:Prs}{k:Nat}(b:k<l.length)(t:Bool):cntP l t=oneI ((l.getD k Zaa.d).fIn==t)+cntP (butK l k) t:=by
 rw[ZqJ (ZoU b) t,ZqK]
section
variable {l:Prs} {sec nsh:Int} {n i:Nat} (hi:i < n) {e:Zal} (he:Zmj e.fAddr sec nsh = (i:Int))
include hi he
omit hi in
theorem ZIx{p:Zaa}(hp:p∈l)(h:p.fEnd=e):p∈ZhN l sec nsh i:=by
 unfold ZhN;rw[List.mem_filter];exact⟨hp,by unfold ZpK;rw[decide_eq_true_eq,h];exact he⟩
omit hi he in
theorem Zuo{p:Zaa}(h:p∈ZhN l sec nsh i):p∈l:=(List.mem_filter.1 h).1
theorem ZGn:(ZhO (ZhN l sec nsh i) e<0↔ZhO l e<0):=by
 have _u:=hi;rw[Zuz,Zuz];exact⟨fun h p hp b=>h p (ZIx he hp b) b,fun h p hp=>h p (Zuo hp)⟩
omit hi he in
theorem ZGl(hs:StrP l){k k':Nat}(b:k<l.length)(hk':k'<(ZhN l sec nsh i).length)(g:(l.getD k Zaa.d).fEnd=e)(h:((ZhN l sec nsh i).getD k' Zaa.d).fEnd=e):(ZhN l sec nsh i).getD k' Zaa.d=l.getD k Zaa.d:=
 hs.inj (Zuo (ZeH _ _ k' hk')) (ZeH _ _ k b) (h.trans g.symm)
end
theorem ZED{l:Prs}(aC:∀p∈l,p.ok)(sec nsh:Int){i:Nat}(hi:i<Zbk nsh)(x b:Prs) :
  (((ps0 l sec nsh (Zbk nsh)).set i (x,b)).map (·.1)).flatten.Perm (x++ZnI ((ps0 l sec nsh (Zbk nsh)).map (·.1)) i)/\l.Perm (ZhN l sec nsh i++ZnI ((ps0 l sec nsh (Zbk nsh)).map (·.1)) i):=by
 have hlen:((ps0 l sec nsh (Zbk nsh)).map (·.1)).length=Zbk nsh:=by simp[ps0]
 have e:((ps0 l sec nsh (Zbk nsh)).set i (x,b)).map (·.1)=((ps0 l sec nsh (Zbk nsh)).map (·.1)).set i x:=by rw[List.map_set]
 have d:((ps0 l sec nsh (Zbk nsh)).map (·.1)).getD i []=ZhN l sec nsh i:=by simp[ps0,List.getD_eq_getElem?_getD,hi]
 refine⟨by rw[e];exact ZDA _ (by omega) x,?_⟩;have h:=ZBN ((ps0 l sec nsh (Zbk nsh)).map (·.1)) (i:=i) (by omega);rw[d]at h;exact(Zyc aC sec nsh).symm.trans h
theorem ZGk{l:Prs}(aC:∀p∈l,p.ok)(sec nsh:Int){i:Nat}(hi:i<Zbk nsh){k k':Nat}(g:k<l.length)(hk':k'<(ZhN l sec nsh i).length)(h:(ZhN l sec nsh i).getD k' Zaa.d=l.getD k Zaa.d) :
  (butK (ZhN l sec nsh i) k'++ZnI ((ps0 l sec nsh (Zbk nsh)).map (·.1)) i).Perm (butK l k):=by
 obtain⟨_,j⟩:=ZED aC sec nsh hi [] [];have b:=((ZoU g).symm.trans j).trans ((ZoU hk').append_right _);rw[h,List.cons_append]at b;exact b.cons_inv.symm
def ZKJ(c:ZaA)(s:Zas)(x:ZaB)(m0:ZaE)(p:Pr Zau):Prop:=∃(r:Zau)(ap out:Int)(ag:List Zae)(book:List Zac)(ps:PPs)(peers:Prs)(st:Nat),Ex p m0 r (memM ap out ag book (shP ps) (Zbk c.fShards) fun _=>Zhn) st 1/\st<=390/\Zdp c s x=some (⟨ag,book,peers⟩,r)/\StrP peers/\((ps.map (·.1)).flatten).Perm peers/\ps.length<=100/\(∀y∈ps,(y.1++y.2).length<=1000)/\ap=cntP peers true/\out=cntP peers false+Zhm book 2/\ag.length<=1000/\book.length<=1000/\peers.length<=1000/\r.fPeers.length<=1000
theorem Zsd{f:Nat->Zat}{k:Nat}(h:f k=Zhn)(a:Zat):updL (updL f k a) k Zhn=f:=by rw[<-h];exact ZFB f k a
theorem ZHN{ap out:Int}{ag:List Zae}{book:List Zac}{sh:List Zab}{n:Nat}{f:Nat->Zat}(a7:1<=n)(aZ:n<=8)(aQ:sh.length=n){k:Nat}(b:k<n+2)(d:f k=Zhn)(ai:Bool) :
  Ex (keyP 3 (k:Int) ai) (memM ap out ag book sh n (updL f k Zpf)) () (memM ap out ag book sh n f) 1 (bn ai):=by
 have h:=ZHS (ap:=ap) (out:=out) (ag:=ag) (book:=book) (f:=updL f k Zpf) a7 aZ aQ b [] (ZFA f k Zpf) ai;have e:updL (updL f k Zpf) k ⟨0,[]⟩=f:=Zsd d Zpf;rwa [e]at h
theorem ZLu(i:Nat):(2+(i:Int))=((2+i:Nat):Int):=by omega
theorem no35(k:Int):Zgx k=some (Ziw k):=rfl
section
variable {c:ZaA} {s:Zas} {x:ZaB} (hx:x.ok) (hs:s.ok) (hR:i5 c s) (a8:s.fBans.length<=20/\s.fBook.length<=20/\s.fPeers.length<=20)
def iP(c:ZaA)(x:ZaB):Nat:=(pt c x).toNat
def bP(c:ZaA)(s:Zas)(x:ZaB):Prs:=ZhN s.fPeers c.fSecret c.fShards (iP c x)
def lP(c:ZaA)(s:Zas):PPs:=ps0 s.fPeers c.fSecret c.fShards (Zbk c.fShards)
def mP(c:ZaA)(s:Zas)(f:Nat->Zat):ZaE:=memM (cntP s.fPeers true) (cntP s.fPeers false+Zhm s.fBook 2) s.fBans s.fBook (shP (lP c s)) (Zbk c.fShards) f
def fL:Nat->Zat:=fun _=>Zhn
theorem ZLx(c:ZaA)(s:Zas)(x:ZaB):(bP c s x).length<=s.fPeers.length:=List.length_filter_le _ _
theorem Zsw(c:ZaA)(s:Zas):(shP (lP c s)).length=Zbk c.fShards:=by rw[ZlX];exact ZuZ _ _ _ _
include hx in
theorem Zyw:iP c x<Zbk c.fShards/\pt c x=(iP c x:Int):=by
 have h:=ZCZ hx.2.1.1 c.fSecret c.fShards;have e:pt c x=Zmj x.fEnd.fAddr c.fSecret c.fShards:=rfl;unfold iP;omega
include hx in
theorem ZLj:(shP (lP c s)).getD (iP c x) Zab.d=⟨((bP c s x).length:Int),bP c s x++[]⟩:=by
 have h:=(Zyw (c:=c) hx).1;rw[ZxL _ (by unfold lP;rw[ZuZ];exact h)];unfold lP;rw[ZBr _ _ _ h];rfl
theorem ZIu{al rest:Prs}(hl:(al++rest).length<=1000)(a8:s.fPeers.length<=20)(i:Nat):((lP c s).set i (al,rest)).length<=100/\∀y∈(lP c s).set i (al,rest),(y.1++y.2).length<=1000:=by
 have d:=Zij c.fShards;refine⟨by simp[lP,ps0];omega,fun y b=>?_⟩;rcases List.mem_or_eq_of_mem_set b with b|rfl
 .unfold lP ps0 at b;obtain⟨k,_,rfl⟩:=List.mem_map.1 b;have:=List.length_filter_le (ZpK c.fSecret c.fShards k) s.fPeers;simp only[List.append_nil];unfold ZhN;omega
 .exact hl
theorem ZzI(a8:s.fPeers.length<=20):(lP c s).length<=100/\∀y∈lP c s,(y.1++y.2).length<=1000:=by
 have d:=Zij c.fShards;refine⟨by simp[lP,ps0];omega,fun y b=>?_⟩;unfold lP ps0 at b;obtain⟨k,_,rfl⟩:=List.mem_map.1 b;have:=List.length_filter_le (ZpK c.fSecret c.fShards k) s.fPeers;simp only[List.append_nil];unfold ZhN;omega
include hx hs a8
omit a8 hx in
theorem ZAC(a8:s.fBook.length<=20/\s.fPeers.length<=20):(0<=cntP s.fPeers true/\cntP s.fPeers true<=20)/\(0<=cntP s.fPeers false+Zhm s.fBook 2/\cntP s.fPeers false+Zhm s.fBook 2<=40):=by
 have _u:=hs;have b:=Zwb s.fPeers true;have d:=Zwb s.fPeers false;have g:=List.countP_le_length (p:=fun x:Zac=>decide (x.fState=2)) (l:=s.fBook);have h:0<=Zhm s.fBook 2/\Zhm s.fBook 2<=20:=by unfold Zhm;omega
 omega
omit hs a8 in
theorem ZFh(b:ZjQ x=false):Zdp c s x=some (s,Ziw 1):=by
 unfold Zdp;rw[ZuT x hx,ZaJ,b,Bool.not_false,cond_true];rfl
theorem ZLt{e:Zal}{k:Nat}(d:k<s.fPeers.length)(he:ZhO s.fPeers e=(k:Int)):ZgC s.fPeers e=some (butK s.fPeers k,0):=by
 have _u:=hx;have _v:=hs;have b:Zan (k:Int) 1=((k+1:Nat):Int):=add1 (n:=k+1) (by omega) (by simp only[maxLen];omega);unfold ZgC;simp only[List.nil_append];rw[ZuS _ _ (by unfold maxLen;omega),ZaJ,he,Zai,if_neg (by omega),Zar ⟨by omega,by omega⟩,Int.toNat_natCast,Zar ⟨by simp;omega,by simp[maxLen];omega⟩,b,Zar ⟨by omega,by omega⟩,Int.toNat_natCast,Zar ⟨by simp;omega,by simp[maxLen];omega⟩];rfl
include hR
theorem ZHK(d:ZjQ x=false):ZKJ c s x (mP c s fL) ZFw:=by
 have b:=Zij c.fShards;obtain⟨g,h⟩:=ZzI (c:=c) a8.2.2;have hp:Ex ZFw (mP c s fL) (Ziw 1) (mP c s fL) 390 1:=(ZKL b.1 b.2 (Zsw c s) true).seq (.ret _ _ 0) (by omega) rfl;exact⟨Ziw 1,_,_,s.fBans,s.fBook,lP c s,s.fPeers,390,hp,Nat.le_refl _,ZFh hx d,hR.peers,Zyc hs.2.2.1.2 _ _,g,h,rfl,rfl,by omega,by omega,by omega,Nat.zero_le _⟩
theorem ZLb:ZhO (bP c s x) x.fEnd<0↔ZhO s.fPeers x.fEnd<0:=by
 have _u:=hR;have _v:=hs;have _w:=a8;obtain⟨hi,hp⟩:=Zyw (c:=c) hx;exact ZGn (l:=s.fPeers) hi (e:=x.fEnd) (sec:=c.fSecret) (nsh:=c.fShards) hp
end
section
variable {ap out:Int} {ag:List Zae} {book:List Zac} {sh:List Zab} {n:Nat} {f:Nat->Zat} (a7:1<=n) (aZ:n<=8) (aQ:sh.length = n)
include a7 aZ aQ
end
section
variable {c:ZaA} {s:Zas} {x:ZaB} (hx:x.ok) (hs:s.ok) (hR:i5 c s) (a8:s.fBans.length<=20/\s.fBook.length<=20/\s.fPeers.length<=20)
include hx hs a8 hR
end
section
variable {aY:List Zag} (hL:aY.length<=900000) {a:Nat} (ha:a<=aY.length)
include hL ha
end
structure Gl (l:List Zag):Prop where
 len:l.length<=800
 val:∀v∈l,v.ok/\v.fBans.length<=800/\v.fBook.length<=800
theorem Gl.drop{l:List Zag}(h:Gl l)(a:Nat):Gl (l.drop a):=⟨by have:=h.len;simp;omega,fun v b=>h.val v (List.mem_of_mem_drop b)⟩
theorem ZKl{c:Zay}{l:List Zag}{x:Zag}{g:Zaq}(h:runT (Znh c) l=some (.ret x g))(hl:Gl l):x.ok/\x.fBans.length<=800/\x.fBook.length<=800:=by
 obtain⟨r,rfl,_⟩:=Zys h;exact hl.val x (by simp)
theorem ZGf{part:Int}{l:List Zag}{x:List Zaa}{g:Zaq}(h:runT (ZtR part) l=some (.ret x g)):x.length+g.fgot.length<=l.length:=by
 cases l with
 |nil=>simp[ZtR,runT,Znh,Pr.bind]at h
 |cons v l=>
  have:=ZuU part _ _ _ l x g h;simp only[List.length_cons,List.length_nil]at this ⊢;omega
section
variable {c:ZaA} {x:ZaB} (hx:x.ok) (dw:0<=c.fShards) (hs:c.fShards<=1000) {aY:List Zag} (hG:Gl aY) {a:Nat} (ha:a<=aY.length)
include dw hs hG
end
section
variable {aY:List Zag} (hG:Gl aY) {a:Nat} (ha:a<=aY.length)
include hG ha
end
def ZAP:Nat->Nat->List (List Zaa)->Pr (List (List Zaa))|0,_,w=>.ret w|k+1,i,w=>(ZtR (i:Int)).bind fun x=>ZAP k (i+1) (w++[x])
def Zrs(l:List Zae)(a:Zaf)(al:Int):Int:=(ZiS l a al).getD 0
theorem Zzf(l:List Zae)(a:Zaf)(al:Int)(hl:l.length<=maxLen)(aC:∀b∈l,b.ok)(ha:a.ok):ZiS l a al=some (Zrs l a al)/\Zgg l a al=some (Zrs l a al):=by
 obtain⟨r,u1,u2⟩:=ZHW l a al hl aC ha;obtain⟨s,u3,u4⟩:=ZBn l a al hl aC ha;have hrs:r=s:=ZEN u2 u4 fun b=>Iff.rfl;subst hrs;unfold Zrs;rw[u1,u3];exact⟨rfl,rfl⟩
end Go.Proofs.YtmnloegcpaahcaaGreat
