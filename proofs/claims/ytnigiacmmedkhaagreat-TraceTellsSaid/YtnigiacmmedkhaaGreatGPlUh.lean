import Derived.Test.YtnigiacmmedkhaaGreatGPlXa
import Derived.Test.YtnigiacmmedkhaaGreatGPlY
namespace Go.Proofs.YtnigiacmmedkhaaGreat
set_option linter.unusedSectionVars false
set_option linter.unusedVariables false
set_option linter.unusedSimpArgs false
def gP(l:List Zaa)(i:Int):Zaa:=l.getD i.toNat Zaa.d
def bG(l:List Zaa):Prop:=∀p∈l,p.fEnd.fAddr.ok
def cntB(b:Int)(p:Zaa):Bool:=if b=1 then true else if b=4 then true else if b=2 then decide (p.fPing>0)else if b=3 then decide (p.fWork>0)else false
def upto(n:Nat):Ins:=(List.range n).map fun(i:Nat)=>(i:Int)
def ZgK(l:List Zaa)(b:Int)(at_:Ins):Ins:=at_.filter fun i=>cntB b (gP l i)
def inL(l:List Zaa)(at_:Ins):Prop:=∀i∈at_,0<=i/\i<((l.length:Nat):Int)
theorem ZDv(p:Zaa)(b:Int):ZoM p b=some (cntB b p):=by
 unfold ZoM Zlw cntB;simp only[Zdn];by_cases d:b=1
 .subst d;simp
 .by_cases e:b=4
  .subst e;simp
  .have j:(b==(1:Int))=false:=beq_false_of_ne d;have o:(b==(4:Int))=false:=beq_false_of_ne e;simp only[if_neg d,if_neg e,j,o,cond_false];by_cases g:b=2
   .simp only[if_pos g]
   .by_cases i:b=3
    .simp only[if_neg g,if_pos i]
    .simp only[if_neg g,if_neg i]
theorem ZGW(p:Zaa)(b:Int):Zhh p b=some (cntB b p):=by
 unfold Zhh cntB;simp only[Zdn];by_cases d:b=1
 .simp only[if_pos d]
 .by_cases e:b=4
  .simp only[if_neg d,if_pos e]
  .by_cases g:b=2
   .subst g;simp only[Zag];by_cases i:p.fPing>0
    .simp[i]
    .simp[i]
   .by_cases j:b=3
    .simp only[if_neg d,if_neg e,if_neg g,if_pos j]
    .simp only[if_neg d,if_neg e,if_neg g,if_neg j]
theorem ZqW(n:Nat):upto (n+1)=upto n++[(n:Int)]:=by simp[upto,List.range_succ]
theorem ZmS(n:Nat):(upto n).length=n:=by simp[upto]
theorem ZjO{n:Nat}{x:Int}:x∈upto n↔0<=x/\x<(n:Int):=by
 simp only[upto,List.mem_map,List.mem_range];constructor
 .rintro ⟨a,h,rfl⟩;omega
 .rintro ⟨d,e⟩;exact⟨x.toNat,by omega,by omega⟩
theorem ZnH(n:Nat):(upto n).Nodup:=by
 induction n with
 |zero=>simp[upto]
 |succ n ih=>
  rw[ZqW,List.nodup_append];refine⟨ih,by simp,fun a ha b hb=>?_⟩;rw[List.mem_singleton.1 hb];have:=ZjO.1 ha;omega
theorem ZGm(l:List Zaa)(b:Int)(X Y:Ins):ZgK l b (X++Y)=ZgK l b X++ZgK l b Y:=List.filter_append ..
theorem Ztb(l:List Zaa)(b:Int)(X:Ins):(ZgK l b X).length<=X.length:=List.length_filter_le ..
theorem rg_of{l:List Zaa}{b s:Int}{at_:Ins}(ho:bG l)(h:inL l at_):Rg ⟨l,b,s⟩ at_:=fun x hx=>by
 obtain⟨d,e⟩:=h x hx
 refine⟨⟨d,e⟩,?_⟩
 rw[ZbH l _ x.toNat (by omega)]
 exact ho _ (List.getElem_mem _)
theorem ZGI{S:Ins}{m n:Int}(e:(S.length:Int)=m):S.take ((if m<(if(0:Int)>n then 0 else n)then m else(if(0:Int)>n then 0 else n)).toNat)=S.take n.toNat:=by
 by_cases h0:(0:Int)>n
 .rw[if_pos h0];rw[iNa];congr 1;omega
 .rw[if_neg h0];by_cases d:m<n
  .rw[if_pos d,List.take_of_length_le (by omega),List.take_of_length_le (by omega)]
  .rw[if_neg d]
theorem ZGZ(l:List Zaa)(b n s:Int)(hl:l.length<=800)(ho:bG l):Zgp l b n s=some ((ZbA ⟨l,b,s⟩ (ZgK l b (upto l.length))).take n.toNat):=by
 have au:∀(k i fu:Nat),l.length-i=k->i<=l.length->k+1<=fu->ZhW n fu l (l.length:Int) (i:Int) (ZgK l b (upto i)) l b s=some ((ZbA ⟨l,b,s⟩ (ZgK l b (upto l.length))).take n.toNat):=by
  intro k;induction k with
  |zero=>
   intro i fu j o r;obtain⟨fu,rfl⟩:=sC fu;obtain rfl:i=l.length:=by omega
   unfold ZhW;have g:=Ztb l b (upto l.length);rw[ZmS]at g;have hin:inL l (ZgK l b (upto l.length)):=fun x hx=>ZjO.1 (List.mem_filter.1 hx).1;have e:=Zzp (K:=⟨l,b,s⟩) (ZgK l b (upto l.length)) (by omega) (rg_of ho hin);dsimp only at e;have hs:=ZgM (K:=⟨l,b,s⟩) (ZgK l b (upto l.length));rw[Zag,iNa,e,Zaw,Zap (by refine⟨by omega,?_,?_⟩<;>(repeat' split)<;>omega),Zap (by (repeat' split)<;>omega),ZGI (by rw[hs])]
  |succ k ih=>
   intro i fu j o r;obtain⟨fu,rfl⟩:=sC fu;unfold ZhW;have g:=Ztb l b (upto i);rw[ZmS]at g;have t:Zau (i:Int) 1=((i+1:Nat):Int):=add1 (n:=i+1) (by omega) (by simp only[maxLen];omega);rw[Zag,iNb,Zap (by omega),ZDv,Zaw,t];have bg:=ih (i+1) fu (by omega) (by omega) (by omega);rw[ZqW,ZGm]at bg;cases hb:cntB b (l.getD ((i:Int)).toNat Zaa.d)with
   |true=>
    have:ZgK l b [(i:Int)]=[(i:Int)]:=by simp only[ZgK,gP,List.filter_cons,hb,if_true,List.filter_nil]
    rw[this]at bg;rw[cond_true,Zap (by simp only[List.length_append,List.length_singleton,maxLen];omega)];exact bg
   |false=>
    have:ZgK l b [(i:Int)]=[]:=by simp only[ZgK,gP,List.filter_cons,hb,Bool.false_eq_true,if_false,List.filter_nil]
    rw[this,List.append_nil]at bg;rw[cond_false];exact bg
 have:=au l.length 0 _ (by omega) (by omega) (Nat.le_refl _);unfold Zgp;exact au l.length 0 _ (by omega) (by omega) (by omega)
theorem ZDj(l:List Zaa)(at_:Ins)(hl:at_.length<=800)(d:inL l at_):Zfv l at_=some (at_.map (gP l)):=by
 have au:∀(k i fu:Nat),at_.length-i=k->i<=at_.length->k+1<=fu->ZiA l fu at_ (at_.length:Int) (i:Int) ((at_.take i).map (gP l))=some (at_.map (gP l)):=by
  intro k;induction k with
  |zero=>
   intro i fu e g j;obtain⟨fu,rfl⟩:=sC fu;unfold ZiA;rw[Zag,iNa,List.take_of_length_le (by omega)]
  |succ k ih=>
   intro i fu e g j;obtain⟨fu,rfl⟩:=sC fu;unfold ZiA;have o:Zau (i:Int) 1=((i+1:Nat):Int):=add1 (n:=i+1) (by omega) (by simp only[maxLen];omega);have br:i<at_.length:=by omega
   have r:=d _ (List.getElem_mem br);have hg:at_.getD ((i:Int)).toNat 0=at_[i]:=ZbH at_ 0 i br;have hlt:((at_.take i).map (gP l)).length=i:=by simp;omega
   rw[Zag,iNb,Zap (by omega),hg,Zap r,Zap (by simp only[List.length_append,hlt,List.length_singleton,maxLen];omega),o];have:=ih (i+1) fu (by omega) (by omega) (by omega);rw[List.take_succ_eq_append_getElem br,List.map_append,List.map_singleton]at this;exact this
 unfold Zfv;rw[Zap (by omega)];exact au at_.length 0 _ (by omega) (by omega) (by omega)
def ZuU(at_ ap:Ins)(i:Nat):Ins:=((List.range i).filter fun(j:Nat)=>!decide ((j:Int)∈ap)).map fun(j:Nat)=>at_.getD j 0
theorem ZDl(at_ ap:Ins)(hl:at_.length<=800)(hg:ap.length<=800)(t:∀k∈ap,0<=k/\k<((at_.length:Nat):Int)):Zgh at_ ap=some (ZuU at_ ap at_.length):=by
 have bZ:∀(a b:Int)(v w:Ins)(kk:Ins->Int->Int->Ins->List Bool->Option Ins)(fl:List Bool),fl.length=at_.length->(∀i,i<at_.length->fl.getD i false=decide ((i:Int)∈ap))->∀(k i fu:Nat),at_.length-i=k->i<=at_.length->k+1<=fu ->
   ZgP at_ v a b w kk fu at_ (at_.length:Int) (i:Int) (ZuU at_ ap i) fl=some (ZuU at_ ap at_.length):=by
  intro a b v w kk fl fK c4 k;induction k with
  |zero=>
   intro i fu d e g;obtain⟨fu,rfl⟩:=sC fu;obtain rfl:i=at_.length:=by omega
   unfold ZgP;rw[Zag,iNa]
  |succ k ih=>
   intro i fu d e g;obtain⟨fu,rfl⟩:=sC fu;unfold ZgP;have o:Zau (i:Int) 1=((i+1:Nat):Int):=add1 (n:=i+1) (by omega) (by simp only[maxLen];omega);have hk2:(ZuU at_ ap i).length<=i:=by
    unfold ZuU;rw[List.length_map];have:=List.length_filter_le (fun j:Nat=>!decide ((j:Int)∈ap)) (List.range i);rw[List.length_range]at this;exact this
   have bg:=ih (i+1) fu (by omega) (by omega) (by omega);have hfi:fl.getD ((i:Int)).toNat false=decide ((i:Int)∈ap):=c4 i (by omega);rw[Zag,iNb,Zap (by omega),Zap (by rw[fK];omega),hfi,o];have hs:ZuU at_ ap (i+1)=ZuU at_ ap i++(if(i:Int)∈ap then[]else[at_.getD i 0]):=by
    unfold ZuU;rw[List.range_succ,List.filter_append,List.map_append];congr 1;by_cases h:(i:Int)∈ap<;>simp[h]
   rw[hs]at bg;by_cases h:(i:Int)∈ap
   .rw[if_pos h,List.append_nil]at bg;rw[decide_eq_true h,Bool.not_true,cond_false];exact bg
   .rw[if_neg h]at bg;rw[decide_eq_false h,Bool.not_false,cond_true,Zap (by simp only[List.length_append,List.length_singleton,maxLen];omega)];exact bg
 have cK:∀(k i fu:Nat)(fl:List Bool),ap.length-i=k->i<=ap.length->k+1<=fu->fl.length=at_.length->(∀j,j<at_.length->fl.getD j false=decide ((j:Int)∈ap.take i)) ->
   ZgQ at_ fu ap (ap.length:Int) (i:Int) [] fl=some (ZuU at_ ap at_.length):=by
  intro k;induction k with
  |zero=>
   intro i fu fl d e g fK c4;obtain⟨fu,rfl⟩:=sC fu;unfold ZgQ;rw[Zag,iNa];rw[List.take_of_length_le (by omega)]at c4;exact bZ _ _ _ _ _ fl fK c4 at_.length 0 _ (by omega) (by omega) (by omega)
  |succ k ih=>
   intro i fu fl d e g fK c4;obtain⟨fu,rfl⟩:=sC fu;unfold ZgQ;have o:Zau (i:Int) 1=((i+1:Nat):Int):=add1 (n:=i+1) (by omega) (by simp only[maxLen];omega);have br:i<ap.length:=by omega
   have u:=t _ (List.getElem_mem br);have ck:ap.getD ((i:Int)).toNat 0=ap[i]:=ZbH ap 0 i br;rw[Zag,iNb,Zap (by omega),ck,Zap (by rw[fK];exact u),o];refine ih (i+1) fu _ (by omega) (by omega) (by omega) (by simpa using fK) fun j r=>?_;rw[List.take_succ_eq_append_getElem br];have hx:=c4 j r;simp only[List.getD_eq_getElem?_getD]at hx ⊢;rw[List.getElem?_set];by_cases hj2:ap[i].toNat=j
   .have:(j:Int)=ap[i]:=by omega
    rw[if_pos hj2,iNb,this];exact(decide_eq_true (List.mem_append.2 (.inr (by simp)))).symm
   .have:¬(j:Int)=ap[i]:=by omega
    rw[if_neg hj2,hx,decide_eq_decide,List.mem_append];constructor
    .exact .inl
    .rintro (h|h)
     .exact h
     .exact absurd (List.mem_singleton.1 h) this
 unfold Zgh;rw[Zap (by omega),Zap (by omega)];refine cK ap.length 0 _ _ (by omega) (by omega) (by omega) (by simp) fun j r=>?_;simp[List.getD_eq_getElem?_getD,r]
def ZnI(l:List Zaa)(s b n:Int)(at_:Ins):Ins:=at_.filter fun i=>!decide (i∈(ZbA ⟨l,b,s⟩ (ZgK l b at_)).take n.toNat)
theorem Znd{l:List Zaa}{s b n:Int}{at_:Ins}(h:inL l at_):inL l (ZnI l s b n at_):=fun i d=>h i (List.mem_filter.1 d).1
theorem ZlM{l:List Zaa}{s b n:Int}{at_:Ins}(h:at_.Nodup):(ZnI l s b n at_).Nodup:=h.sublist List.filter_sublist
theorem Zoq(l:List Zaa)(s b n:Int)(at_:Ins):(ZnI l s b n at_).length<=at_.length:=List.length_filter_le ..
theorem ZDW{α β:Type}(f:α->β)(p:β->Bool)(q:α->Bool)(l:List α)(h:∀x∈l,p (f x)=q x):(l.map f).filter p=(l.filter q).map f:=by
 rw[List.filter_map];congr 1;exact List.filter_congr h
theorem Zws(l:List Zaa)(at_:Ins)(b n s:Int)(hl:at_.length<=800)(ho:bG l)(t:inL l at_)(A:at_.Nodup) :
  ((Zfv l at_).bind fun x=>(Zgp x b n s).bind fun y=>Zgh at_ y)=some (ZnI l s b n at_):=by
 rw[ZDj l at_ hl t,Zaw];have ce:bG (at_.map (gP l)):=fun p d=>by
  obtain⟨i,B,rfl⟩:=List.mem_map.1 d;have:=t i B;unfold gP;rw[ZbH l _ i.toNat (by omega)];exact ho _ (List.getElem_mem _)
 rw[ZGZ _ b n s (by simpa using hl) ce,Zaw];obtain⟨f,r⟩ : ∃f:Int->Int,f=fun p=>at_.getD p.toNat 0:=⟨_,rfl⟩;have hfp:∀i:Nat,f (i:Int)=at_.getD i 0:=fun i=>by rw[r];rfl
 have hlen:(at_.map (gP l)).length=at_.length:=by simp
 rw[hlen];have hg:∀p:Int,0<=p->p<(at_.length:Int)->gP (at_.map (gP l)) p=gP l (f p):=fun p o g=>by
  have d:p.toNat<at_.length:=by omega
  rw[r];simp only[gP];rw[ZbH _ _ p.toNat (by simpa using d),List.getElem_map,ZbH at_ 0 p.toNat d];rfl
 have hat:(upto at_.length).map f=at_:=by
  apply List.ext_getElem
  .simp[upto]
  .intro i o g;simp only[upto,List.map_map,List.getElem_map,List.getElem_range,Function.comp];rw[hfp,ZbH at_ 0 i g]
 have C:(ZgK (at_.map (gP l)) b (upto at_.length)).map f=ZgK l b at_:=by
  have:ZgK l b at_=((upto at_.length).map f).filter fun i=>cntB b (gP l i):=by rw[hat];rfl
  rw[this,ZDW f _ (fun p=>cntB b (gP (at_.map (gP l)) p))]
  .rfl
  .intro p d;obtain⟨o,g⟩:=ZjO.1 d;rw[hg p o g]
 have u:ZbA ⟨l,b,s⟩ (ZgK l b at_)=(ZbA ⟨at_.map (gP l),b,s⟩ (ZgK (at_.map (gP l)) b (upto at_.length))).map f:=by
  rw[<-C];refine ZJP f _ fun x hx y D=>?_;obtain⟨x1,x2⟩:=ZjO.1 (List.mem_filter.1 hx).1;obtain⟨y1,y2⟩:=ZjO.1 (List.mem_filter.1 D).1;have e:cmpJ ⟨l,b,s⟩ (f y) (f x)=cmpJ ⟨at_.map (gP l),b,s⟩ y x:=by
   show ZpE b s (gP l (f y)) (gP l (f x))=ZpE b s (gP (at_.map (gP l)) y) (gP (at_.map (gP l)) x);rw[hg y y1 y2,hg x x1 x2]
  unfold ltJ;rw[e]
 obtain⟨S,lf⟩ : ∃S,S=ZbA ⟨at_.map (gP l),b,s⟩ (ZgK (at_.map (gP l)) b (upto at_.length)):=⟨_,rfl⟩;have hSm:∀x∈S,0<=x/\x<(at_.length:Int):=fun x hx=>by
  rw[lf]at hx;exact ZjO.1 (List.mem_filter.1 (ZAf _ x hx)).1
 have hSl:S.length<=at_.length:=by
  rw[lf,ZgM];have:=Ztb (at_.map (gP l)) b (upto at_.length);rw[ZmS]at this;exact this
 rw[<-lf]at u ⊢;rw[ZDl at_ _ hl (by simp only[List.length_take];omega) fun k E=>hSm k (List.mem_of_mem_take E)];have gY:∀x y:Int,0<=x->x<(at_.length:Int)->0<=y->y<(at_.length:Int)->f x=f y->x=y:=fun x y x1 x2 y1 y2 h=>by
  rw[r]at h;simp only at h;rw[ZbH at_ 0 x.toNat (by omega),ZbH at_ 0 y.toNat (by omega)]at h;have:=Zqa A (i:=x.toNat) (j:=y.toNat) (a:=at_[y.toNat]'(by omega)) (by rw[<-h];simp) (by simp);omega
 congr 1;unfold ZnI;rw[u,<-List.map_take];have F:∀p:Int->Bool,at_.filter p=((upto at_.length).map f).filter p:=fun p=>by rw[hat]
 rw[F,ZDW f _ (fun p=>!decide (p∈S.take n.toNat))]
 .unfold ZuU upto;rw[ZDW (fun(i:Nat)=>(i:Int)) _ (fun j=>!decide ((j:Int)∈S.take n.toNat)) _ (fun _ _=>rfl),List.map_map];exact List.map_congr_left fun j _=>(hfp j).symm
 .intro p d;obtain⟨o,g⟩:=ZjO.1 d;congr 1;rw[decide_eq_decide];constructor
  .intro h;obtain⟨q,v,e⟩:=List.mem_map.1 h;obtain⟨G,H⟩:=hSm q (List.mem_of_mem_take v);rw[<-gY q p G H o g e];exact v
  .intro h;exact List.mem_map.2 ⟨p,h,rfl⟩
def Zxg(l:List Zaa)(q:ZaC)(s:Int):Ins:=ZnI l s 4 q.fTime (ZnI l s 3 q.fWork (ZnI l s 2 q.fPing (ZnI l s 1 q.fGroup (upto l.length))))
theorem ZDk(l:List Zaa)(q:ZaC)(s:Int)(hl:l.length<=800)(ho:bG l):ZoK l q s=some (Zxg l q s):=by
 have bZ:∀(a b:Int)(w:Ins)(q':ZaC)(kk:Int->Int->Ins->ZaC->Option Ins)(fu:Nat),Zdc l s a b w q' kk (fu+5) (⟨1,q.fGroup⟩,⟨2,q.fPing⟩,⟨3,q.fWork⟩,⟨4,q.fTime⟩) 0 (upto l.length)=some (Zxg l q s):=by
  intro a b w q' kk fu;have h0:inL l (upto l.length):=fun i j=>ZjO.1 j;have t1:=Zws l (upto l.length) 1 q.fGroup s (by rw[ZmS];exact hl) ho h0 (ZnH _);have l1:=Zoq l s 1 q.fGroup (upto l.length);rw[ZmS]at l1;have t2:=Zws l _ 2 q.fPing s (by omega) ho (Znd (s:=s) (b:=1) (n:=q.fGroup) h0) (ZlM (ZnH _));have l2:=Zoq l s 2 q.fPing (ZnI l s 1 q.fGroup (upto l.length));have t3:=Zws l _ 3 q.fWork s (by omega) ho (Znd (s:=s) (b:=2) (n:=q.fPing) (Znd (s:=s) (b:=1) (n:=q.fGroup) h0)) (ZlM (ZlM (ZnH _)));have l3:=Zoq l s 3 q.fWork (ZnI l s 2 q.fPing (ZnI l s 1 q.fGroup (upto l.length)));have t4:=Zws l _ 4 q.fTime s (by omega) ho (Znd (s:=s) (b:=3) (n:=q.fWork) (Znd (s:=s) (b:=2) (n:=q.fPing) (Znd (s:=s) (b:=1) (n:=q.fGroup) h0))) (ZlM (ZlM (ZlM (ZnH _))));have bd:∀{α β γ δ:Type}(r:Option α)(g:α->Option β)(h:β->Option γ)(k:γ->Option δ)(z:γ),(r.bind fun x=>(g x).bind fun y=>h y)=some z->(r.bind fun x=>(g x).bind fun y=>(h y).bind k)=k z:=by
   intro α β γ δ r g h k z e;cases r with
   |none=>cases e
   |some x=>
    simp only[Option.bind_some]at e ⊢;cases hg:g x with
    |none=>rw[hg]at e;cases e
    |some y=>rw[hg]at e;simp only[Option.bind_some]at e ⊢;rw[e];rfl
  have jC:∀{δ:Type}(X:Ins)(b n:Int)(k:Ins->Option δ)(z:Ins),((Zfv l X).bind fun x=>(Zgp x b n s).bind fun y=>Zgh X y)=some z->((Zfv l X).bind fun x=>(Zgp x b n s).bind fun y=>(Zgh X y).bind k)=k z:=by
   intro δ X b n k z e;cases o:Zfv l X with
   |none=>rw[o]at e;cases e
   |some x=>
    rw[o]at e;simp only[Option.bind_some]at e ⊢;cases hg:Zgp x b n s with
    |none=>rw[hg]at e;cases e
    |some y=>rw[hg]at e;simp only[Option.bind_some]at e ⊢;rw[e];rfl
  have u:Zau (0:Int) 1=1:=rfl;have v:Zau (1:Int) 1=2:=rfl;have A:Zau (2:Int) 1=3:=rfl;have B:Zau (3:Int) 1=4:=rfl;unfold Zdc;rw[Zag,iNb,Zap (by omega)];simp only[ix1,if_true,u];rw[jC _ _ _ _ _ t1];unfold Zdc;rw[Zag,iNb,Zap (by omega)];simp only[ix1,if_true,v,show ¬((1:Int)=0)by omega,if_false];rw[jC _ _ _ _ _ t2];unfold Zdc;rw[Zag,iNb,Zap (by omega)];simp only[ix1,if_true,A,show ¬((2:Int)=0)by omega,show ¬((2:Int)=1)by omega,if_false];rw[jC _ _ _ _ _ t3];unfold Zdc;rw[Zag,iNb,Zap (by omega)];simp only[ix1,if_true,B,show ¬((3:Int)=0)by omega,show ¬((3:Int)=1)by omega,show ¬((3:Int)=2)by omega,if_false];rw[jC _ _ _ _ _ t4];unfold Zdc;rw[Zag,iNa];rfl
 have cK:∀(k i fu:Nat)(w:Ins),l.length-i=k->i<=l.length->k+1<=fu->w.length=l.length->w.take i=upto i->ZgR l s fu (l.length:Int) (i:Int) w q=some (Zxg l q s):=by
  intro k;induction k with
  |zero=>
   intro i fu w C j D t d;obtain⟨fu,rfl⟩:=sC fu;obtain rfl:i=l.length:=by omega
   rw[List.take_of_length_le (by omega)]at d;unfold ZgR;have e:Zqx q=some (⟨1,q.fGroup⟩,⟨2,q.fPing⟩,⟨3,q.fWork⟩,⟨4,q.fTime⟩):=rfl;rw[Zag,iNa,e,Zaw,d];exact bZ _ _ _ _ _ 1
  |succ k ih=>
   intro i fu w C j D t d;obtain⟨fu,rfl⟩:=sC fu;unfold ZgR;have E:Zau (i:Int) 1=((i+1:Nat):Int):=add1 (n:=i+1) (by omega) (by simp only[maxLen];omega);rw[Zag,iNb,Zap (by omega),E];refine ih (i+1) fu _ (by omega) (by omega) (by omega) (by simpa using t) ?_;rw[ZqW,<-d];simp only[Int.toNat_natCast];rw[List.take_succ_eq_append_getElem (by simp;omega),List.take_set_of_le (Nat.le_refl _)];simp
 unfold ZoK;rw[Zap (by omega)];simp only[Int.toNat_natCast];exact cK l.length 0 _ _ (by omega) (by omega) (by omega) (by simp) (by simp[upto])
theorem ZOK(p:Zaa)(s:Int):ZeM s (grp p.fEnd.fAddr)=some (keyZ s p):=by
 obtain⟨m,d,e,_⟩:=ZDF s (grp p.fEnd.fAddr);unfold keyZ;rw[d,e];rfl
theorem ZNp(a b:Int)(p q:Zaa):ZcZ a b p q=some (decide (a<b\/(a=b/\cmpE p.fEnd q.fEnd<0))):=by
 unfold ZcZ;rw[Zou,Zaw];by_cases h:a=b
 .subst h;have e:(a != a)=false:=by simp
  rw[e,cond_false];congr 1;rw[decide_eq_decide];constructor
  .intro h;exact .inr ⟨rfl,h⟩
  .rintro (h|⟨_,h⟩)
   .omega
   .exact h
 .have e:(a != b)=true:=by rw[bne_iff_ne];exact h
  rw[e,cond_true];congr 1;rw[decide_eq_decide];constructor
  .intro h;exact .inl h
  .rintro (d|⟨d,_⟩)
   .exact d
   .exact absurd d h
theorem ZJc(p q:Zaa)(b s:Int)(o:p.fEnd.fAddr.ok)(r:q.fEnd.fAddr.ok)(hb:1<=b/\b<=4):ZhK p q b s=some (decide (ZpE b s p q<0)):=by
 have t:decide (ZpE b s p q<0)=decide (kv b s p<kv b s q\/(kv b s p=kv b s q/\cmpE p.fEnd q.fEnd<0)):=by rw[decide_eq_decide];exact ZsW
 rw[t];unfold ZhK;simp only[ZFt _ o,ZFt _ r,Zaw,ZOK,ZNp,Zdn];by_cases j:b=1
 .subst j;simp only[if_true,kv];by_cases h:keyZ s p=keyZ s q
  .have e:(keyZ s p != keyZ s q)=false:=by rw[h];simp
   rw[e,cond_false];congr 1;rw[decide_eq_decide];constructor
   .rintro (d|⟨_,d⟩)
    .omega
    .exact .inr ⟨by omega,d⟩
   .rintro (d|⟨_,d⟩)
    .omega
    .exact .inr ⟨by trivial,d⟩
  .have e:(keyZ s p != keyZ s q)=true:=by rw[bne_iff_ne];exact h
   rw[e,cond_true];congr 1;rw[decide_eq_decide];constructor
   .intro d;left;omega
   .rintro (d|⟨d,_⟩)<;>omega
 .by_cases d:b=2
  .subst d;simp[kv]
  .by_cases u:b=3
   .subst u;simp only[kv,if_neg j,if_neg d,if_true];congr 1;rw[decide_eq_decide];constructor
    .rintro (g|⟨g,i⟩)
     .left;omega
     .right;exact⟨by omega,i⟩
    .rintro (g|⟨g,i⟩)
     .left;omega
     .right;exact⟨by omega,i⟩
   .obtain rfl:b=4:=by omega
    simp[kv]
def unJ(w:List Bool)(i:Nat):Ins:=(upto i).filter fun j=>!(w.getD j.toNat false)
def ZrR(K:Cx):Ins->Int | []=>-1|b :: r=>bstJ K b r
theorem ZKX{K:Cx}(C:Ins)(y:Int):ZrR K (C++[y])=if C=[]then y else if ltJ K y (ZrR K C)=true then y else ZrR K C:=by
 cases C with
 |nil=>simp[ZrR,bstJ]
 |cons b r=>
  rw[if_neg (by simp)];exact ZxS y r b
theorem ZuC{K:Cx}{C:Ins}(h:C≠[]):ZrR K C∈C:=by
 cases C with
 |nil=>exact absurd rfl h
 |cons b r=>exact ZxR r b
theorem ZEY(w:List Bool)(i:Nat):unJ w (i+1)=unJ w i++if w.getD i false=true then[]else[(i:Int)]:=by
 unfold unJ;rw[ZqW,List.filter_append];congr 1;cases h:w.getD i false with
 |false=>simp only[List.filter_cons,Int.toNat_natCast,h,Bool.not_false,if_true,List.filter_nil,Bool.false_eq_true,if_false]
 |true=>simp only[List.filter_cons,Int.toNat_natCast,h,Bool.not_true,Bool.false_eq_true,if_false,List.filter_nil,if_true]
theorem ZDa{w:List Bool}{i:Nat}{x:Int}(h:x∈unJ w i):0<=x/\x<(i:Int)/\w.getD x.toNat false=false:=by
 obtain⟨d,e⟩:=List.mem_filter.1 h;have:=ZjO.1 d;exact⟨this.1,this.2,by simpa using e⟩
theorem ZIi(w:List Bool)(i:Nat):(unJ w i).Nodup:=(ZnH i).sublist List.filter_sublist
theorem ZOf(w:List Bool)(n:Nat)(m:Int)(h0:0<=m)(d:m<(w.length:Int)):unJ (w.set m.toNat true) n=(unJ w n).filter fun x=>x != m:=by
 unfold unJ;rw[List.filter_filter];refine List.filter_congr fun x hx=>?_;obtain⟨x1,x2⟩:=ZjO.1 hx;simp only[List.getD_eq_getElem?_getD,List.getElem?_set];by_cases h:m=x
 .subst h;rw[if_pos rfl,iNb];simp
 .rw[iNa];have:(x != m)=true:=by rw[bne_iff_ne];omega
  rw[this,Bool.true_and]
theorem ZEG(l:List Zaa)(b:Int)(X:Ins)(p:Int->Bool):ZgK l b (X.filter p)=(ZgK l b X).filter p:=by
 unfold ZgK;rw[List.filter_filter,List.filter_filter];exact List.filter_congr fun y _=>Bool.and_comm _ _
section
variable {l:List Zaa} (hl:l.length<=800) (ho:bG l) {s:Int} {q:ZaC}
include hl ho
theorem ZLT(b:Int)(hb:1<=b/\b<=4)(v9:Int)(u:Int->List Bool->ZaC->Option (List Bool))(j:Int->List Bool->Option (List Bool))(w:List Bool)(r:w.length=l.length):∀(k i fu:Nat),l.length-i=k->i<=l.length->k+1<=fu ->
  Zbx l s b q v9 u j fu (ZrR ⟨l,b,s⟩ (ZgK l b (unJ w i))) (i:Int) w=if ZgK l b (unJ w l.length)=[]then j (Zau v9 1) w else j (Zau v9 1) (w.set (ZrR ⟨l,b,s⟩ (ZgK l b (unJ w l.length))).toNat true):=by
 intro k;induction k with
 |zero=>
  intro i fu v y A;obtain⟨fu,rfl⟩:=sC fu;obtain rfl:i=l.length:=by omega
  unfold Zbx;rw[Zag,iNa,Zag];by_cases g:ZgK l b (unJ w l.length)=[]
  .rw[if_pos g,g];rw[if_neg (by simp[ZrR])]
  .have o:=ZuC (K:=⟨l,b,s⟩) g;obtain⟨m1,m2,_⟩:=ZDa (List.mem_filter.1 o).1;rw[if_neg g,iNb,Zap (by rw[r];omega)]
 |succ k ih=>
  intro i fu v y A;obtain⟨fu,rfl⟩:=sC fu;have B:Zau (i:Int) 1=((i+1:Nat):Int):=add1 (n:=i+1) (by omega) (by simp only[maxLen];omega);have bg:=ih (i+1) fu (by omega) (by omega) (by omega);rw[ZEY,ZGm]at bg;unfold Zbx;rw[Zag,iNb,Zap (by rw[r];omega),B];simp only[Int.toNat_natCast];cases hwi:w.getD i false with
  |true=>
   rw[hwi,if_pos rfl]at bg;have:ZgK l b []=[]:=rfl;rw[this,List.append_nil]at bg;rw[Bool.not_true,cond_false];exact bg
  |false=>
   rw[hwi,if_neg (by decide)]at bg;rw[Bool.not_false,cond_true,Zap (by omega),ZGW,Zaw];cases t:cntB b (l.getD i Zaa.d)with
   |false=>
    have:ZgK l b [(i:Int)]=[]:=by simp only[ZgK,gP,Int.toNat_natCast,List.filter_cons,t,Bool.false_eq_true,if_false,List.filter_nil]
    rw[this,List.append_nil]at bg;rw[cond_false];exact bg
   |true=>
    have:ZgK l b [(i:Int)]=[(i:Int)]:=by simp only[ZgK,gP,Int.toNat_natCast,List.filter_cons,t,if_true,List.filter_nil]
    rw[this,ZKX]at bg;rw[cond_true,Zag];by_cases g:ZgK l b (unJ w i)=[]
    .rw[if_pos g]at bg;rw[g,if_pos (by simp[ZrR])];exact bg
    .have o:=ZuC (K:=⟨l,b,s⟩) g;obtain⟨m1,m2,_⟩:=ZDa (List.mem_filter.1 o).1;rw[if_neg g]at bg;rw[iNa,Zap (by omega),ZJc _ _ _ _ (by rw[ZbH l _ i (by omega)];exact ho _ (List.getElem_mem _)) (by rw[ZbH l _ _ (by omega)];exact ho _ (List.getElem_mem _)) hb,Zaw];have e:decide (ZpE b s (l.getD i Zaa.d) (l.getD (ZrR ⟨l,b,s⟩ (ZgK l b (unJ w i))).toNat Zaa.d)<0)=ltJ ⟨l,b,s⟩ (i:Int) (ZrR ⟨l,b,s⟩ (ZgK l b (unJ w i))):=rfl;rw[e];cases hlt:ltJ ⟨l,b,s⟩ (i:Int) (ZrR ⟨l,b,s⟩ (ZgK l b (unJ w i)))with
     |true=>rw[hlt,if_pos rfl]at bg;rw[cond_true];exact bg
     |false=>rw[hlt,if_neg (by decide)]at bg;rw[cond_false];exact bg
theorem ZLU(b n:Int)(hb:1<=b/\b<=4)(B:Zdi q b=some n)(d:Int->List Bool->ZaC->Option (List Bool)):∀(r v9 fu:Nat)(w:List Bool),(if n<(l.length:Int)then n.toNat else l.length)-v9=r->v9<=l.length->r+1<=fu->w.length=l.length ->
  ∃w',w'.length=l.length/\unJ w' l.length=(unJ w l.length).filter (fun i=>!decide (i∈selN ⟨l,b,s⟩ r (ZgK l b (unJ w l.length))))/\ZbY l s b q d fu (v9:Int) w=d (Zau b 1) w' q:=by
 intro r;induction r with
 |zero=>
  intro v9 fu w j D E e;obtain⟨fu,rfl⟩:=sC fu;refine⟨w,e,by simp only[selN];exact(List.filter_eq_self.2 fun x _=>by simp).symm,?_⟩;unfold ZbY;rw[B,Zaw,Zag,Zag];by_cases C:(v9:Int)<n
  .rw[if_pos C];by_cases o:(v9:Int)<(l.length:Int)
   .exfalso;split at j<;>omega
   .rw[if_neg o]
  .rw[if_neg C]
 |succ r ih=>
  intro v9 fu w j D E e;obtain⟨fu,rfl⟩:=sC fu;have o:v9<l.length/\(v9:Int)<n:=by split at j<;>omega
  have F:Zau (v9:Int) 1=((v9+1:Nat):Int):=add1 (n:=v9+1) (by omega) (by simp only[maxLen];omega);unfold ZbY;have hc2:=ZLT hl ho (s:=s) (q:=q) b hb (v9:Int) d (ZbY l s b q d fu) w e l.length 0 ((((l.length:Nat):Int)-(0:Int)).toNat+2) (by omega) (by omega) (by omega);have lg:Zbx l s b q (v9:Int) d (ZbY l s b q d fu) ((((l.length:Nat):Int)-(0:Int)).toNat+2) (-1) 0 w=_:=hc2;rw[B,Zaw,Zag,if_pos o.2,Zag,iNb,lg,F];by_cases g:ZgK l b (unJ w l.length)=[]
  .rw[if_pos g];obtain⟨w',t,u,v⟩:=ih (v9+1) fu w (by omega) (by omega) (by omega) e;refine⟨w',t,?_,v⟩;rw[u,g];cases r<;>rfl
  .have G:=ZuC (K:=⟨l,b,s⟩) g;obtain⟨m1,m2,_⟩:=ZDa (List.mem_filter.1 G).1;rw[if_neg g];obtain⟨w',t,u,v⟩:=ih (v9+1) fu (w.set (ZrR ⟨l,b,s⟩ (ZgK l b (unJ w l.length))).toNat true) (by omega) (by omega) (by omega) (by simpa using e);refine⟨w',t,?_,v⟩;rw[u,ZOf w _ _ m1 (by rw[e];exact m2)];cases hCC:ZgK l b (unJ w l.length)with
   |nil=>exact absurd hCC g
   |cons x X=>
    have bk:ZrR ⟨l,b,s⟩ (x :: X)=bstJ ⟨l,b,s⟩ x X:=rfl;rw[ZEG,hCC,bk,List.filter_filter,selN];refine List.filter_congr fun y _=>?_;by_cases A:y=bstJ ⟨l,b,s⟩ x X
    .rw[A];simp
    .have:(y != bstJ ⟨l,b,s⟩ x X)=true:=by rw[bne_iff_ne];exact A
     rw[this,Bool.and_true];congr 1;rw[decide_eq_decide,List.mem_cons];constructor
     .exact .inr
     .rintro (h|h)
      .exact absurd h A
      .exact h
theorem ZpT(b n:Int)(hb:1<=b/\b<=4)(e:Zdi q b=some n)(d:Int->List Bool->ZaC->Option (List Bool))(w:List Bool)(g:w.length=l.length) :
  ∃w',w'.length=l.length/\unJ w' l.length=ZnI l s b n (unJ w l.length)/\ZbY l s b q d ((((l.length:Nat):Int)-(0:Int)).toNat+2) 0 w=d (Zau b 1) w' q:=by
 obtain⟨w',i,o,r⟩:=ZLU hl ho (s:=s) b n hb e d _ 0 ((((l.length:Nat):Int)-(0:Int)).toNat+2) w rfl (by omega) (by split<;>omega) g;refine⟨w',i,?_,r⟩;have iJ:(ZgK l b (unJ w l.length)).Nodup:=(ZIi w _).sublist List.filter_sublist;have hlen:(ZbA ⟨l,b,s⟩ (ZgK l b (unJ w l.length))).length<=l.length:=by
  rw[ZgM];have t:=Ztb l b (unJ w l.length);have u:(unJ w l.length).length<=l.length:=by
   have:=List.length_filter_le (fun j:Int=>!(w.getD j.toNat false)) (upto l.length);rw[ZmS]at this;exact this
  omega
 rw[o,ZFm _ _ iJ];unfold ZnI;have:(ZbA ⟨l,b,s⟩ (ZgK l b (unJ w l.length))).take ((if n<(l.length:Int)then n.toNat else l.length)-0)=(ZbA ⟨l,b,s⟩ (ZgK l b (unJ w l.length))).take n.toNat:=by
  by_cases h:n<(l.length:Int)
  .rw[if_pos h];rfl
  .rw[if_neg h,List.take_of_length_le (by omega),List.take_of_length_le (by omega)]
 rw[this]
theorem ZIY:∃w,Zgb l q s=some w/\w.length=l.length/\unJ w l.length=Zxg l q s:=by
 have d:Zdi q 1=some q.fGroup:=rfl;have e:Zdi q 2=some q.fPing:=rfl;have g:Zdi q 3=some q.fWork:=rfl;have i:Zdi q 4=some q.fTime:=rfl;have w0:(List.replicate ((l.length:Nat):Int).toNat false).length=l.length:=by simp
 have u0:unJ (List.replicate ((l.length:Nat):Int).toNat false) l.length=upto l.length:=by
  unfold unJ;refine List.filter_eq_self.2 fun x hx=>?_;obtain⟨x1,x2⟩:=ZjO.1 hx;have:x.toNat<l.length:=by omega
  simp[List.getD_eq_getElem?_getD,this]
 obtain⟨w1,j,b1,o⟩:=ZpT hl ho (s:=s) 1 _ (by omega) d (ZaV l s 4) _ w0;obtain⟨w2,r,b2,t⟩:=ZpT hl ho (s:=s) 2 _ (by omega) e (ZaV l s 3) w1 j;obtain⟨w3,u,b3,v⟩:=ZpT hl ho (s:=s) 3 _ (by omega) g (ZaV l s 2) w2 r;obtain⟨w4,y,b4,A⟩:=ZpT hl ho (s:=s) 4 _ (by omega) i (ZaV l s 1) w3 u;refine⟨w4,?_,y,by rw[b4,b3,b2,b1,u0];rfl⟩;have d1:ZaV l s 5 1 (List.replicate ((l.length:Nat):Int).toNat false) q=ZaV l s 4 2 w1 q:=o;have d2:ZaV l s 4 2 w1 q=ZaV l s 3 3 w2 q:=t;have d3:ZaV l s 3 3 w2 q=ZaV l s 2 4 w3 q:=v;have d4:ZaV l s 2 4 w3 q=ZaV l s 1 5 w4 q:=A;unfold Zgb;rw[Zap (by omega)];have f:(((4:Int)-(1:Int)).toNat+2)=5:=rfl;rw[f,d1,d2,d3,d4];rfl
end
def ZjM(l:List Zaa):List Zaa:=l.filter fun p=>p.fIn
def ZqA(l:List Zaa)(q:ZaC)(s:Int):List Zaa:=(Zxg (ZjM l) q s).map (gP (ZjM l))
theorem ZBX(l:List Zaa)(i:Nat)(h:i<l.length):ZjM (l.take (i+1))=ZjM (l.take i)++if l[i].fIn=true then[l[i]]else[]:=by
 unfold ZjM;rw[List.take_succ_eq_append_getElem h,List.filter_append];congr 1;cases h:l[i].fIn<;>simp[h]
theorem Zuv(l:List Zaa):(ZjM l).length<=l.length:=List.length_filter_le ..
theorem ZHB(l:List Zaa)(hl:l.length<=100000):ZpC l=some (ZjM l):=by
 have au:∀(k i fu:Nat),l.length-i=k->i<=l.length->k+1<=fu->ZhY fu l (l.length:Int) (i:Int) (ZjM (l.take i))=some (ZjM l):=by
  intro k;induction k with
  |zero=>
   intro i fu e g j;obtain⟨fu,rfl⟩:=sC fu;unfold ZhY;rw[Zag,iNa,List.take_of_length_le (by omega)]
  |succ k ih=>
   intro i fu e g j;obtain⟨fu,rfl⟩:=sC fu;unfold ZhY;have br:i<l.length:=by omega
   have o:Zau (i:Int) 1=((i+1:Nat):Int):=add1 (n:=i+1) (by omega) (by simp only[maxLen];omega);have r:=Zuv (l.take i);simp only[List.length_take]at r;have bg:=ih (i+1) fu (by omega) (by omega) (by omega);rw[ZBX l i br]at bg;have hg:l.getD ((i:Int)).toNat Zaa.d=l[i]:=ZbH l _ i br;rw[Zag,iNb,Zap (by omega),hg,o];cases hin:l[i].fIn with
   |true=>
    rw[hin,if_pos rfl]at bg;rw[cond_true,Zap (by simp only[List.length_append,List.length_singleton,maxLen];omega)];exact bg
   |false=>
    rw[hin,if_neg (by decide),List.append_nil]at bg;rw[cond_false];exact bg
 unfold ZpC;exact au l.length 0 _ (by omega) (by omega) (by omega)
theorem ZMk(l:List Zaa)(hl:l.length<=100000):Zgw l=some (ZjM l):=by
 have au:∀(k i fu:Nat),l.length-i=k->i<=l.length->k+1<=fu->Zdl l fu (i:Int) (ZjM (l.take i))=some (ZjM l):=by
  intro k;induction k with
  |zero=>
   intro i fu e g j;obtain⟨fu,rfl⟩:=sC fu;unfold Zdl;rw[Zag,iNa,List.take_of_length_le (by omega)]
  |succ k ih=>
   intro i fu e g j;obtain⟨fu,rfl⟩:=sC fu;unfold Zdl;have br:i<l.length:=by omega
   have o:Zau (i:Int) 1=((i+1:Nat):Int):=add1 (n:=i+1) (by omega) (by simp only[maxLen];omega);have r:=Zuv (l.take i);simp only[List.length_take]at r;have bg:=ih (i+1) fu (by omega) (by omega) (by omega);rw[ZBX l i br]at bg;have hg:l.getD ((i:Int)).toNat Zaa.d=l[i]:=ZbH l _ i br;rw[Zag,iNb,Zap (by omega),hg,o];cases hin:l[i].fIn with
   |true=>
    rw[hin,if_pos rfl]at bg;rw[cond_true,Zap (by simp only[List.length_append,List.length_singleton,maxLen];omega)];exact bg
   |false=>
    rw[hin,if_neg (by decide),List.append_nil]at bg;rw[cond_false];exact bg
 unfold Zgw;exact au l.length 0 _ (by omega) (by omega) (by omega)
theorem ZJK(l:List Zaa)(q:ZaC)(s:Int):inL l (Zxg l q s):=Znd (Znd (Znd (Znd fun i d=>ZjO.1 d)))
theorem ZFR(l:List Zaa)(q:ZaC)(s:Int):(Zxg l q s).length<=l.length:=by
 have d:=Zoq l s 1 q.fGroup (upto l.length);have e:=Zoq l s 2 q.fPing (ZnI l s 1 q.fGroup (upto l.length));have g:=Zoq l s 3 q.fWork (ZnI l s 2 q.fPing (ZnI l s 1 q.fGroup (upto l.length)));have i:=Zoq l s 4 q.fTime (ZnI l s 3 q.fWork (ZnI l s 2 q.fPing (ZnI l s 1 q.fGroup (upto l.length))));rw[ZmS]at d;unfold Zxg;omega
theorem ZzT{l:List Zaa}(h:bG l):bG (ZjM l):=fun p d=>h p (List.mem_filter.1 d).1
theorem ZDY(l:List Zaa)(q:ZaC)(s:Int)(hl:l.length<=800)(ho:bG l):Zku l q s=some (ZqA l q s):=by
 have r:=Zuv l;have d:=ZJK (ZjM l) q s;have hle:=ZFR (ZjM l) q s;unfold Zku ZqA;rw[ZHB l (by omega),Zaw,ZDk _ q s (by omega) (ZzT ho),Zaw];obtain⟨A,hA⟩ : ∃A,A=Zxg (ZjM l) q s:=⟨_,rfl⟩;rw[<-hA]at d hle ⊢;have au:∀(k i fu:Nat),A.length-i=k->i<=A.length->k+1<=fu->ZfC fu (ZjM l) A (A.length:Int) (i:Int) ((A.take i).map (gP (ZjM l)))=some (A.map (gP (ZjM l))):=by
  intro k;induction k with
  |zero=>
   intro i fu e d g;obtain⟨fu,rfl⟩:=sC fu;unfold ZfC;rw[Zag,iNa,List.take_of_length_le (by omega)]
  |succ k ih=>
   intro i fu e co g;obtain⟨fu,rfl⟩:=sC fu;unfold ZfC;have br:i<A.length:=by omega
   have j:Zau (i:Int) 1=((i+1:Nat):Int):=add1 (n:=i+1) (by omega) (by simp only[maxLen];omega);have o:=d _ (List.getElem_mem br);have hg:A.getD ((i:Int)).toNat 0=A[i]:=ZbH A 0 i br;have hlt:((A.take i).map (gP (ZjM l))).length=i:=by simp;omega
   rw[Zag,iNb,Zap (by omega),hg,Zap o,Zap (by simp only[List.length_append,hlt,List.length_singleton,maxLen];omega),j];have:=ih (i+1) fu (by omega) (by omega) (by omega);rw[List.take_succ_eq_append_getElem br,List.map_append,List.map_singleton]at this;exact this
 exact au A.length 0 _ (by omega) (by omega) (by omega)
theorem ZJb(l:List Zaa)(q:ZaC)(s:Int)(hl:l.length<=800)(ho:bG l):Zei l q s=some (ZqA l q s):=by
 have y:=Zuv l;unfold Zei ZqA;obtain⟨w,e,g,o⟩:=ZIY (l:=ZjM l) (q:=q) (s:=s) (by omega) (ZzT ho);rw[ZMk l (by omega),Zaw,e,Zaw,<-o];have au:∀(k i fu:Nat),(ZjM l).length-i=k->i<=(ZjM l).length->k+1<=fu->ZbX fu (ZjM l) w (i:Int) ((unJ w i).map (gP (ZjM l)))=some ((unJ w (ZjM l).length).map (gP (ZjM l))):=by
  intro k;induction k with
  |zero=>
   intro i fu r t u;obtain⟨fu,rfl⟩:=sC fu;obtain rfl:i=(ZjM l).length:=by omega
   unfold ZbX;rw[Zag,iNa]
  |succ k ih=>
   intro i fu r t u;obtain⟨fu,rfl⟩:=sC fu;unfold ZbX;have v:Zau (i:Int) 1=((i+1:Nat):Int):=add1 (n:=i+1) (by omega) (by simp only[maxLen];omega);have A:(unJ w i).length<=i:=by
    have:=List.length_filter_le (fun j:Int=>!(w.getD j.toNat false)) (upto i);rw[ZmS]at this;exact this
   have bg:=ih (i+1) fu (by omega) (by omega) (by omega);rw[ZEY,List.map_append]at bg;rw[Zag,iNb,Zap (by rw[g];omega),v];simp only[Int.toNat_natCast];cases d:w.getD i false with
   |true=>
    rw[d,if_pos rfl,List.map_nil,List.append_nil]at bg;rw[Bool.not_true,cond_false];exact bg
   |false=>
    rw[d,if_neg (by decide)]at bg;rw[Bool.not_false,cond_true,Zap (by omega),Zap (by simp only[List.length_append,List.length_map,List.length_singleton,maxLen];omega)];exact bg
 exact au (ZjM l).length 0 _ (by omega) (by omega) (by omega)
def grpP(p:Zaa):Zav:=grp p.fEnd.fAddr
def ZgA(l:List Zaa)(g:Zav):Nat:=(l.filter fun p=>decide (grpP p=g)).length
theorem ZzW{κ ν:Type}[DecidableEq κ](k g:κ)(v z:ν):∀l:List (κ×ν),mget (mput l k v) g z=if k=g then v else mget l g z
 | []=>by
  simp only[mput,mget]
 |p :: r=>by
  simp only[mput]
  by_cases h:p.1=k
  .rw[if_pos h]
   simp only[mget]
   by_cases d:k=g
   .simp[d]
   .rw[if_neg d,if_neg d,if_neg (by rw[h];exact d)]
  .rw[if_neg h]
   simp only[mget]
   rw[ZzW k g v z r]
   by_cases d:p.1=g
   .rw[if_pos d,if_pos d,if_neg (by rintro rfl;exact h d)]
   .rw[if_neg d,if_neg d]
theorem Zwk(l:List Zaa)(i:Nat)(h:i<l.length)(g:Zav):ZgA (l.take (i+1)) g=ZgA (l.take i) g+if grpP l[i]=g then 1 else 0:=by
 unfold ZgA;rw[List.take_succ_eq_append_getElem h,List.filter_append,List.length_append];congr 1;by_cases h:grpP l[i]=g<;>simp[h]
theorem ZGk(l:List Zaa)(g:Zav):ZgA l g<=l.length:=List.length_filter_le ..
theorem Zxa{l:List Zaa}(h:bG l){i:Nat}(e:i<l.length):(l.getD i Zaa.d).fEnd.fAddr.ok:=by rw[ZbH l _ i e];exact h _ (List.getElem_mem e)
theorem ZEF(l:List Zaa)(hl:l.length<=800)(ho:bG l):∃m,ZoR l=some m/\∀g,mget m g 0=(ZgA l g:Int):=by
 have au:∀(k i fu:Nat)(m:List (Zav×Int)),l.length-i=k->i<=l.length->k+1<=fu->(∀g,mget m g 0=(ZgA (l.take i) g:Int))->∃m',ZiB fu l (l.length:Int) (i:Int) m=some m'/\∀g,mget m' g 0=(ZgA l g:Int):=by
  intro k;induction k with
  |zero=>
   intro i fu m j o r e;obtain⟨fu,rfl⟩:=sC fu;unfold ZiB;rw[List.take_of_length_le (by omega)]at e;exact⟨m,by rw[Zag,iNa],e⟩
  |succ k ih=>
   intro i fu m j o r e;obtain⟨fu,rfl⟩:=sC fu;unfold ZiB;have br:i<l.length:=by omega
   have t:Zau (i:Int) 1=((i+1:Nat):Int):=add1 (n:=i+1) (by omega) (by simp only[maxLen];omega);have hg:l.getD ((i:Int)).toNat Zaa.d=l[i]:=ZbH l _ i br;have u:=ZGk (l.take i) (grpP l[i]);simp only[List.length_take]at u;rw[Zag,iNb,Zap (by omega),hg,ZsU _ (ho _ (List.getElem_mem br)),Zaw,t];refine ih (i+1) fu _ (by omega) (by omega) (by omega) fun g=>?_;rw[ZzW,Zwk l i br,e g];have cN:grp l[i].fEnd.fAddr=grpP l[i]:=rfl;rw[cN,e (grpP l[i])];by_cases h:grpP l[i]=g
   .subst h;rw[if_pos rfl,if_pos rfl,Zbs (by omega) (by omega)];omega
   .rw[if_neg h,if_neg h];omega
 unfold ZoR;exact au l.length 0 _ [] (by omega) (by omega) (by omega) (fun g=>by simp[mget,ZgA])
def gtX(l:List Zaa)(i j:Nat):Int:=orI (cmpI (ZgA l (grpP (l.getD i Zaa.d)):Int) (ZgA l (grpP (l.getD j Zaa.d)):Int)) (orI (cmpI (l.getD i Zaa.d).fSince (l.getD j Zaa.d).fSince) (cmpE (l.getD i Zaa.d).fEnd (l.getD j Zaa.d).fEnd))
theorem Zua{l:List Zaa}{i j:Nat}:0<gtX l i j↔ZgA l (grpP (l.getD j Zaa.d))<ZgA l (grpP (l.getD i Zaa.d))\/(ZgA l (grpP (l.getD i Zaa.d))=ZgA l (grpP (l.getD j Zaa.d)) /\
  ((l.getD j Zaa.d).fSince<(l.getD i Zaa.d).fSince\/((l.getD i Zaa.d).fSince=(l.getD j Zaa.d).fSince/\0<cmpE (l.getD i Zaa.d).fEnd (l.getD j Zaa.d).fEnd))):=by
 unfold gtX;rw[ZFE,ZFE,ZxQ,Zmg,ZxQ,Zmg];omega
theorem ZJW{l:List Zaa}{i b k:Nat}(e:0<gtX l i b)(g:¬0<gtX l k b):0<gtX l i k:=by
 rw[Zua]at *
 obtain⟨I,j⟩ : ∃x,x=l.getD i Zaa.d:=⟨_,rfl⟩;obtain⟨B,o⟩ : ∃x,x=l.getD b Zaa.d:=⟨_,rfl⟩;obtain⟨K,r⟩ : ∃x,x=l.getD k Zaa.d:=⟨_,rfl⟩;rw[<-j,<-o]at e;rw[<-r,<-o]at g;rw[<-j,<-r];by_cases t:ZgA l (grpP K)<ZgA l (grpP I)
 .exact .inl t
 .have u:ZgA l (grpP I)=ZgA l (grpP K)/\ZgA l (grpP B)=ZgA l (grpP K):=by
   rcases e with e|⟨e,_⟩
   .exact absurd (Or.inl (by omega)) g
   .by_cases v:ZgA l (grpP B)<ZgA l (grpP K)
    .exact absurd (Or.inl v) g
    .omega
  refine .inr ⟨u.1,?_⟩;have h1':B.fSince<I.fSince\/(I.fSince=B.fSince/\0<cmpE I.fEnd B.fEnd):=by
   rcases e with e|⟨_,e⟩
   .omega
   .exact e
  have dP:¬(B.fSince<K.fSince\/(K.fSince=B.fSince/\0<cmpE K.fEnd B.fEnd)):=fun h=>g (.inr ⟨by omega,h⟩);by_cases s1:K.fSince<I.fSince
  .exact .inl s1
  .have s2:I.fSince=K.fSince/\I.fSince=B.fSince:=by
    rcases h1' with h|⟨h,_⟩
    .exact absurd (Or.inl (by omega)) dP
    .by_cases s3:B.fSince<K.fSince
     .exact absurd (Or.inl s3) dP
     .omega
   refine .inr ⟨s2.1,?_⟩;have y:0<cmpE I.fEnd B.fEnd:=by
    rcases h1' with h|⟨_,h⟩
    .omega
    .exact h
   have C:¬0<cmpE K.fEnd B.fEnd:=fun h=>dP (.inr ⟨by omega,h⟩);have c2':=Zlt.1 y;rw[Zlt];by_cases A:cmpE K.fEnd B.fEnd=0
   .rw[Zls.1 A];exact c2'
   .exact Zol (show cmpE K.fEnd B.fEnd<0 by omega) c2'
theorem ZMT{l:List Zaa}{i k:Nat}(d:0<gtX l i k):¬0<gtX l k i:=by
 intro e;rw[Zua]at d e;rcases d with h|⟨j,h|⟨o,h⟩⟩<;>rcases e with g|⟨r,g|⟨t,g⟩⟩<;>first|omega|skip
 have:=Zlt.1 h;omega
theorem ZEE(p q:Zaa):ZoQ p q=some (orI (cmpI p.fSince q.fSince) (cmpE p.fEnd q.fEnd)):=by
 unfold ZoQ;simp only[Zut,ZxM,or2,Zaw]
structure TopX (l:List Zaa) (n b:Nat):Prop where
 lt:b<n
 top:∀k,k<n->¬0<gtX l k b
 fst:∀k,k<b->0<gtX l b k
theorem Zwl(l:List Zaa)(hl:l.length<=800)(ho:bG l):∃b:Int,Znb l=some b/\((l=[]/\b = -1)\/∃n:Nat,b=(n:Int)/\TopX l l.length n):=by
 obtain⟨m,o,hg⟩:=ZEF l hl ho;have au:∀(k i fu:Nat)(b:Int),l.length-i=k->i<=l.length->k+1<=fu->((i=0/\b = -1)\/∃n:Nat,b=(n:Int)/\TopX l i n)->∃z:Int,Zgz l fu b l (l.length:Int) (i:Int) m=some z/\((l.length=0/\z = -1)\/∃n:Nat,z=(n:Int)/\TopX l l.length n):=by
  intro k;induction k with
  |zero=>
   intro i fu b g r t hb;obtain⟨fu,rfl⟩:=sC fu;obtain rfl:i=l.length:=by omega
   unfold Zgz;exact⟨b,by rw[Zag,iNa],hb⟩
  |succ k ih=>
   intro i fu b g r t hb;obtain⟨fu,rfl⟩:=sC fu;have br:i<l.length:=by omega
   have u:Zau (i:Int) 1=((i+1:Nat):Int):=add1 (n:=i+1) (by omega) (by simp only[maxLen];omega);unfold Zgz;rw[Zag,iNb,Zap (by omega),Zag,u];rcases hb with⟨h0,rfl⟩|⟨n,rfl,j⟩
   .subst h0;rw[iNb];refine ih 1 fu _ (by omega) (by omega) (by omega) (.inr ⟨0,rfl,by omega,fun k g=>?_,fun k g=>by omega⟩);obtain rfl:k=0:=by omega
    rw[Zua];rintro (h|⟨_,h|⟨_,h⟩⟩)
    .omega
    .omega
    .rw[Zls.2 rfl]at h;omega
   .have v:=j.lt;rw[iNa,ZsU _ (Zxa ho (by omega)),Zaw,Zap (by omega),ZsU _ (Zxa ho (by omega)),Zaw,Zut,Zaw,ZEE,Zaw,or2,Zaw];have e:orI (cmpI (mget m (grp (l.getD ((i:Int)).toNat Zaa.d).fEnd.fAddr) 0) (mget m (grp (l.getD ((n:Int)).toNat Zaa.d).fEnd.fAddr) 0)) (orI (cmpI (l.getD ((i:Int)).toNat Zaa.d).fSince (l.getD ((n:Int)).toNat Zaa.d).fSince) (cmpE (l.getD ((i:Int)).toNat Zaa.d).fEnd (l.getD ((n:Int)).toNat Zaa.d).fEnd))=gtX l i n:=by
     rw[hg,hg];rfl
    rw[e,Zag];by_cases h:gtX l i n>0
    .rw[if_pos h];refine ih (i+1) fu _ (by omega) (by omega) (by omega) (.inr ⟨i,rfl,by omega,fun k g=>?_,fun k g=>ZJW h (j.top k g)⟩);by_cases hki:k=i
     .subst hki;rw[Zua];rintro (h|⟨_,h|⟨_,h⟩⟩)
      .omega
      .omega
      .rw[Zls.2 rfl]at h;omega
     .exact ZMT (ZJW h (j.top k (by omega)))
    .rw[if_neg h];refine ih (i+1) fu _ (by omega) (by omega) (by omega) (.inr ⟨n,rfl,by omega,fun k g=>?_,j.fst⟩);by_cases hki:k=i
     .subst hki;exact h
     .exact j.top k (by omega)
 unfold Znb;obtain⟨b',h1',dP⟩:=au l.length 0 ((((l.length:Nat):Int)-(0:Int)).toNat+2) (-1) (by omega) (by omega) (by omega) (.inl ⟨rfl,rfl⟩);refine⟨b',by rw[o,Zaw];exact h1',?_⟩;rcases dP with⟨h,rfl⟩|h
 .exact .inl ⟨List.eq_nil_of_length_eq_zero h,rfl⟩
 .exact .inr h
theorem ZzB(l:List Zaa)(hl:l.length<=800)(ho:bG l)(i:Nat)(A:i<l.length):Zga l (i:Int)=some (ZgA l (grpP (l.getD i Zaa.d)):Int):=by
 have au:∀(k j fu:Nat),l.length-j=k->j<=l.length->k+1<=fu->ZcY l (i:Int) fu (ZgA (l.take j) (grpP (l.getD i Zaa.d)):Int) (j:Int)=some (ZgA l (grpP (l.getD i Zaa.d)):Int):=by
  intro k;induction k with
  |zero=>
   intro j fu e g o;obtain⟨fu,rfl⟩:=sC fu;unfold ZcY;rw[Zag,iNa,List.take_of_length_le (by omega)]
  |succ k ih=>
   intro j fu e g o;obtain⟨fu,rfl⟩:=sC fu;have hj2:j<l.length:=by omega
   have r:Zau (j:Int) 1=((j+1:Nat):Int):=add1 (n:=j+1) (by omega) (by simp only[maxLen];omega);have t:=ZGk (l.take j) (grpP (l.getD i Zaa.d));simp only[List.length_take]at t;have hg:l.getD ((j:Int)).toNat Zaa.d=l[j]:=ZbH l _ j hj2;have bg:=ih (j+1) fu (by omega) (by omega) (by omega);rw[Zwk l j hj2]at bg;unfold ZcY;rw[Zag,iNb,Zap (by omega),hg,ZFt _ (ho _ (List.getElem_mem hj2)),Zaw,Zap (by omega),ZFt _ (Zxa ho (by omega)),Zaw,Zag,r];have u:grp l[j].fEnd.fAddr=grpP l[j]:=rfl;have v:grp (l.getD ((i:Int)).toNat Zaa.d).fEnd.fAddr=grpP (l.getD i Zaa.d):=rfl;rw[u,v];by_cases h:grpP l[j]=grpP (l.getD i Zaa.d)
   .rw[if_pos h]at bg ⊢;have y:Zau (ZgA (l.take j) (grpP (l.getD i Zaa.d)):Int) 1=((ZgA (l.take j) (grpP (l.getD i Zaa.d))+1:Nat):Int):=by rw[Zbs (by omega) (by omega)];omega
    rw[y];exact bg
   .rw[if_neg h]at bg ⊢;exact bg
 unfold Zga;rw[Zag,iNa,Zag,iNa];exact au l.length 0 _ (by omega) (by omega) (by omega)
theorem ZDs(p q:Zaa):ZgD p q=some (decide (p.fSince>q.fSince\/(p.fSince=q.fSince/\0<cmpE p.fEnd q.fEnd))):=by
 unfold ZgD;rw[Zou,Zaw];by_cases h:p.fSince=q.fSince
 .have e:(p.fSince != q.fSince)=false:=by rw[h];simp
  rw[e,cond_false];congr 1;rw[decide_eq_decide];omega
 .have e:(p.fSince != q.fSince)=true:=by rw[bne_iff_ne];exact h
  rw[e,cond_true];congr 1;rw[decide_eq_decide];omega
theorem Ztr(l:List Zaa)(hl:l.length<=800)(ho:bG l)(i:Nat)(u:i<l.length)(e:Int->Option Int):∀(k j fu:Nat),l.length-j=k->j<=l.length->k+1<=fu->∀v:Bool,(v=true↔∀x,x<j->¬0<gtX l x i) ->
  ((∀x,x<l.length->¬0<gtX l x i)->Zbi l (i:Int) e fu v (j:Int)=some (i:Int))/\((∃x,x<l.length/\0<gtX l x i)->Zbi l (i:Int) e fu v (j:Int)=e (Zau (i:Int) 1)):=by
 intro k;induction k with
 |zero=>
  intro j fu y A B v g;obtain⟨fu,rfl⟩:=sC fu;obtain rfl:j=l.length:=by omega
  unfold Zbi;rw[Zag,iNa];refine⟨fun h=>by rw[g.2 h];rfl,fun⟨x,C,D⟩=>?_⟩;cases v with
  |false=>rfl
  |true=>exact absurd D (g.1 rfl x C)
 |succ k ih=>
  intro j fu y A B v g;obtain⟨fu,rfl⟩:=sC fu;have E:Zau (j:Int) 1=((j+1:Nat):Int):=add1 (n:=j+1) (by omega) (by simp only[maxLen];omega);have hb:∀b:Bool,(b=true↔∀x,x<j+1->¬0<gtX l x i)->Zbi l (i:Int) e (fu+1) v (j:Int)=Zbi l (i:Int) e fu b ((j+1:Nat):Int):=by
   intro b hb
   conv=>lhs;unfold Zbi
   rw[Zag,iNb,ZzB l hl ho j (by omega),Zaw,ZzB l hl ho i u,Zaw,E];cases v with
   |false=>
    rw[cond_false];have:b=false:=by
     cases b with
     |false=>rfl
     |true=>
      have:=g.2 fun x hx=>hb.1 rfl x (by omega);cases this
    rw[this]
   |true=>
    have cD:=g.1 rfl;rw[cond_true,Zag,Zag];have hgt:=Zua (l:=l) (i:=j) (j:=i);by_cases r:(ZgA l (grpP (l.getD j Zaa.d)):Int)<=(ZgA l (grpP (l.getD i Zaa.d)):Int)
    .rw[if_pos r];by_cases t:(ZgA l (grpP (l.getD j Zaa.d)):Int)<(ZgA l (grpP (l.getD i Zaa.d)):Int)
     .rw[if_pos t];have:b=true:=hb.2 fun x hx=>by
       by_cases hxj:x=j
       .subst hxj;rw[hgt];omega
       .exact cD x (by omega)
      rw[this]
     .rw[if_neg t,Zap (by omega),Zap (by omega),ZDs,Zaw];simp only[Int.toNat_natCast];congr 1;rw[Bool.eq_iff_iff,hb,Bool.not_eq_true',decide_eq_false_iff_not];constructor
      .intro h x hx;by_cases hxj:x=j
       .subst hxj;rw[hgt];omega
       .exact cD x (by omega)
      .intro h;have:=h j (by omega);rw[hgt]at this;omega
    .rw[if_neg r];have:b=false:=by
      cases b with
      |false=>rfl
      |true=>
       have:=hb.1 rfl j (by omega);rw[hgt]at this;omega
     rw[this]
  by_cases o:∀x,x<j+1->¬0<gtX l x i
  .rw[hb true (by simp only[true_iff];exact o)];exact ih (j+1) fu (by omega) (by omega) (by omega) true (by simp only[true_iff];exact o)
  .rw[hb false (by simp only[Bool.false_eq_true,false_iff];exact o)];exact ih (j+1) fu (by omega) (by omega) (by omega) false (by simp only[Bool.false_eq_true,false_iff];exact o)
theorem ZMh(l:List Zaa)(hl:l.length<=800)(ho:bG l):Ziv l=Znb l:=by
 obtain⟨b,hb,e⟩:=Zwl l hl ho;rw[hb];rcases e with⟨rfl,rfl⟩|⟨n,rfl,d⟩
 .rfl
 .have g:=d.lt;have au:∀(k i fu:Nat),n-i=k->i<=n->k+1<=fu->ZcB l fu (i:Int)=some (n:Int):=by
   intro k;induction k with
   |zero=>
    intro i fu j o r;obtain⟨fu,rfl⟩:=sC fu;obtain rfl:i=n:=by omega
    unfold ZcB;rw[Zag,iNb];exact(Ztr l hl ho i (by omega) _ l.length 0 ((((l.length:Nat):Int)-(0:Int)).toNat+2) (by omega) (by omega) (by omega) true (by simp)).1 d.top
   |succ k ih=>
    intro i fu j o r;obtain⟨fu,rfl⟩:=sC fu;have t:Zau (i:Int) 1=((i+1:Nat):Int):=add1 (n:=i+1) (by omega) (by simp only[maxLen];omega);unfold ZcB;rw[Zag,iNb];have:=(Ztr l hl ho i (by omega) (ZcB l fu) l.length 0 ((((l.length:Nat):Int)-(0:Int)).toNat+2) (by omega) (by omega) (by omega) true (by simp)).2 ⟨n,g,d.fst i (by omega)⟩;have fA:Zbi l (i:Int) (ZcB l fu) ((((l.length:Nat):Int)-(0:Int)).toNat+2) true 0=_:=this;rw[fA,t];exact ih (i+1) fu (by omega) (by omega) (by omega)
  unfold Ziv;exact au n 0 _ (by omega) (by omega) (by omega)
theorem ZKQ(l:List Zaa)(q:ZaC)(s:Int):(ZqA l q s).length<=l.length:=by
 have d:=ZFR (ZjM l) q s;have e:=Zuv l;unfold ZqA;rw[List.length_map];omega
theorem ZKP(l:List Zaa)(q:ZaC)(s:Int):∀p∈ZqA l q s,p∈l/\p.fIn=true:=fun p d=>by
 obtain⟨i,e,rfl⟩:=List.mem_map.1 d
 have:=ZJK (ZjM l) q s i e
 unfold gP
 rw[ZbH _ _ i.toNat (by omega)]
 have g:=List.mem_filter.1 (List.getElem_mem (l:=ZjM l) (n:=i.toNat) (by omega))
 exact g
theorem ZBB(l:List Zaa)(q:ZaC)(s:Int)(hl:l.length<=800)(ho:bG l) :
  ∃r:Zah×Bool,ZkY l q s=some r/\ZfH l q s=some r/\(r.2=true->∃p∈l,p.fEnd=r.1/\p.fIn=true):=by
 have j:=ZKQ l q s;have d:=ZKP l q s;have hoc:bG (ZqA l q s):=fun p g=>ho p (d p g).1;obtain⟨b,hb,fi⟩:=Zwl (ZqA l q s) (by omega) hoc;have bk:=ZMh (ZqA l q s) (by omega) hoc;unfold ZkY ZfH;rw[ZDY l q s hl ho,ZJb l q s hl ho,Zaw,Zaw,bk,hb,Zaw,Zag];rcases fi with⟨o,rfl⟩|⟨n,rfl,i⟩
 .rw[iNb];exact⟨_,rfl,rfl,fun h=>by cases h⟩
 .have e:=i.lt;rw[iNa,Zap (by omega)];refine⟨_,rfl,rfl,fun _=>⟨_,(d _ ?_).1,rfl,(d _ ?_).2⟩⟩
  all_goals
   simp only[Int.toNat_natCast];rw[ZbH _ _ n e];exact List.getElem_mem e
inductive Pr (α:Type) where
 |ret (x:α)
 |ask (o:Zat) (k:Zae->Pr α)
 |no
def Pr.bind{α β:Type}:Pr α->(α->Pr β)->Pr β | .ret x,f=>f x | .ask o k,f=>.ask o fun v=>(k v).bind f | .no,_=>.no
theorem Pr.bind_ret{α β:Type}(x:α)(f:α->Pr β):(Pr.ret x).bind f=f x:=rfl
theorem Pr.bind_ask{α β:Type}(o:Zat)(k:Zae->Pr α)(f:α->Pr β):(Pr.ask o k).bind f=.ask o fun v=>(k v).bind f:=rfl
theorem Pr.bind_assoc{α β γ:Type}(p:Pr α)(f:α->Pr β)(g:β->Pr γ):(p.bind f).bind g=p.bind fun x=>(f x).bind g:=by
 induction p with
 |ret x=>rfl
 |ask o k ih=>simp only[Pr.bind_ask,ih]
 |no=>rfl
def runT{α:Type}:Pr α->List Zae->Option (Tout α) | .ret x,l=>some (.ret x ⟨l⟩) | .ask o _,[]=>some (.pan (opN o)) | .ask _ k,v :: l=>runT (k v) l | .no,_=>none
theorem ZLV{α:Type}(p:Pr α):∀(l:List Zae)(s:ByteArray),runT p l≠some (.bad s):=by
 induction p with
 |ret x=>intro l s h;simp[runT]at h
 |ask o k ih=>
  intro l s;cases l with
  |nil=>simp[runT]
  |cons v l=>exact ih v l s
 |no=>intro l s h;simp[runT]at h
theorem Zto{α:Type}(p:Pr α):∀(l:List Zae)(x:α)(g:Zbc),runT p l=some (.ret x g)->∃a,a<=l.length/\g=⟨l.drop a⟩:=by
 induction p with
 |ret y=>intro l x g h;simp[runT]at h;exact⟨0,Nat.zero_le _,by rw[<-h.2];rfl⟩
 |ask o k ih=>
  intro l x g h;cases l with
  |nil=>simp[runT]at h
  |cons v l=>
   obtain⟨a,e,d⟩:=ih v l x g h;exact⟨a+1,by simp only[List.length_cons];omega,d⟩
 |no=>intro l x g h;simp[runT]at h
theorem ZkR{α β:Type}{p:Pr α}{f:α->Pr β}{l:List Zae}{F:Tout α->Option (Tout β)}(d:∀x a,a<=l.length->runT p l=some (.ret x ⟨l.drop a⟩)->F (.ret x ⟨l.drop a⟩)=runT (f x) (l.drop a))(e:∀o,F (.pan o)=some (.pan o)) :
  (runT p l).bind F=runT (p.bind f) l:=by
 induction p generalizing l with
 |ret x=>
  have:=d x 0 (Nat.zero_le _) rfl;simpa[runT,Pr.bind]using this
 |ask o k ih=>
  cases l with
  |nil=>simp only[runT,Pr.bind,Option.bind_some,e]
  |cons v l=>
   simp only[runT,Pr.bind];refine ih v fun x a ha h=>?_;exact d x (a+1) (by simp only[List.length_cons];omega) h
 |no=>rfl
theorem ZIJ{α:Type}{p:Pr α}{l:List Zae}{F:Tout α->Option (Tout α)}(d:∀x g,F (.ret x g)=some (.ret x g))(e:∀o,F (.pan o)=some (.pan o)):(runT p l).bind F=runT p l:=by
 cases h:runT p l with
 |none=>rfl
 |some t=>
  cases t with
  |ret x g=>exact d x g
  |pan o=>exact e o
  |bad s=>exact absurd h (ZLV p l s)
abbrev Wlk{α β:Type}(got:List Zae)(a:Nat)(P:α->β->Prop)(W:β->Prop)(p:Pr α)(r:Option (Zad×β)):Prop:=Lka got a P W (runT p (got.drop a)) r
theorem Wlk.seq{α β γ δ:Type}{got:List Zae}{a:Nat}{P:α->β->Prop}{W:β->Prop}{p:Pr α}{r:Option (Zad×β)}(h:Wlk got a P W p r){f:α->Pr γ}{P':γ->δ->Prop}{W':δ->Prop}{K:Zad->β->Option (Zad×δ)}
  (A:∀x b a',a<=a'->a'<=got.length->P x b->Wlk got a' P' W' (f x) (K (wk got a') b)) (B:∀q b,W b->∃d,K (wt got q) b=some (wt got q,d)/\W' d) :
  Wlk got a P' W' (p.bind f) (r.bind fun x=>K x.1 x.2):=by
 unfold Wlk;rw[<-ZkR (p:=p) (f:=f) (l:=got.drop a) (F:=fun t=>match t with | .ret x g=>runT (f x) g.fgot | .pan o=>some (.pan o) | .bad s=>some (.bad s)) (fun x a _ _=>rfl) (fun o=>rfl)]
 rcases h with⟨v,b,a',i,j,e,u,y⟩|⟨q,b,i,j,e,u⟩
 .rw[i,j];exact(A v b a' e u y).weak e
 .rw[i,j];obtain⟨d,y,C⟩:=B q b u;simp only[Option.bind_some,y];exact .inr ⟨q,d,rfl,rfl,e,C⟩
def Zli(l:Zas):Pr Zae:=.ask ⟨5,0,l,0,0,valZ,false⟩ .ret
def Zlg(l:Zas)(v:Zae)(ai:Bool):Pr Unit:=.ask ⟨6,0,l,0,0,v,ai⟩ fun _=>.ret ()
def keyP(k eR:Int)(ai:Bool):Pr Unit:=.ask ⟨k,eR,locZ,0,0,valZ,ai⟩ fun _=>.ret ()
def ZLC(k old ae:Int)(ai:Bool):Pr Bool:=.ask ⟨7,0,⟨k,0,0⟩,old,ae,valZ,ai⟩ fun v=>.ret (v.fN==1)
theorem ZuD{α:Type}(f:Zae->α)(o:Zat)(l:List Zae):((Zdq ⟨l⟩ o).bind fun x=>match x with | .ret v g=>some (Tout.ret (f v) g) | .pan q=>some (.pan q) | .bad s=>some (.bad s))=runT (.ask o fun v=>.ret (f v)) l:=by
 cases l with
 |nil=>rw[ZLb];rfl
 |cons v r=>rw[ZGt];rfl
theorem Ztd(l:List Zae)(c:Zas):ZfR ⟨l⟩ c false=runT (Zli c) l:=ZuD id _ l
theorem ZCr(l:List Zae)(c:Zas)(v:Zae)(ai:Bool):Zfo ⟨l⟩ c v ai=runT (Zlg c v ai) l:=ZuD (fun _=>()) _ l
theorem ZGz(l:List Zae)(k old ae:Int)(ai:Bool):Ziz ⟨l⟩ ⟨k,0,0⟩ old ae ai=runT (ZLC k old ae ai) l:=ZuD (fun v=>v.fN==1) _ l
theorem ZNz(l:List Zae)(k:Int)(ai:Bool):ZjQ ⟨l⟩ k ai=runT (keyP 1 k ai) l:=ZuD (fun _=>()) _ l
theorem ZNA(l:List Zae)(k:Int)(ai:Bool):ZfS ⟨l⟩ k ai=runT (keyP 3 k ai) l:=ZuD (fun _=>()) _ l
theorem ZFO{c:Zas}{l:List Zae}{x:Zae}{g:Zbc}(h:runT (Zli c) l=some (.ret x g)):∃r,l=x :: r/\g=⟨r⟩:=by
 cases l with
 |nil=>simp[runT,Zli]at h
 |cons v r=>
  simp only[runT,Zli,Option.some.injEq,Tout.ret.injEq]at h;exact⟨r,by rw[h.1],h.2.symm⟩
def Zqs(part:Int):Nat->Nat->List Zaa->Pr (List Zaa)|0,_,w=>.ret w|k+1,i,w=>(Zli ⟨6,part,i⟩).bind fun v=>Zqs part k (i+1) (w++[v.fPeer])
def ZsC(part:Int):Pr (List Zaa):=(Zli ⟨5,part,0⟩).bind fun v=>Zqs part v.fN.toNat 0 []
theorem ZJf(part n:Int):∀(k:Nat)(w:List Zaa)(l:List Zae)(fu:Nat),(n-(w.length:Int)).toNat=k->w.length+l.length<=900000->k+1<=fu->Zho part fu n (w.length:Int) w ⟨l⟩=runT (Zqs part k w.length w) l:=by
 intro k;induction k with
 |zero=>
  intro w l fu g hl i;obtain⟨fu,rfl⟩:=sC fu;unfold Zho;simp only[Zag];rw[iNa];rfl
 |succ k ih=>
  intro w l fu g hl i;obtain⟨fu,rfl⟩:=sC fu;unfold Zho;simp only[Zag];have e:ZkK part (w.length:Int)=some ⟨6,part,(w.length:Int)⟩:=rfl;rw[iNb,e,Zaw,Ztd];refine ZkR (fun x a ha h=>?_) (fun o=>rfl);obtain⟨r,rfl,d⟩:=ZFO h;simp only[Zbc.mk.injEq]at d;rw[d];simp only[List.length_cons]at hl;dsimp only;rw[Zap (by simp only[List.length_append,List.length_singleton,maxLen];omega)];have j:Zau (w.length:Int) 1=(((w++[x.fPeer]).length:Nat):Int):=by
   rw[add1 (n:=w.length+1) (by omega) (by simp only[maxLen];omega)];simp
  have t:w.length+1=(w++[x.fPeer]).length:=by simp
  rw[j,t];exact ih (w++[x.fPeer]) r fu (by simp only[List.length_append,List.length_singleton];omega) (by simp only[List.length_append,List.length_singleton];omega) (by omega)
theorem ZNt(part:Int)(l:List Zae)(hl:l.length<=900000):ZoH ⟨l⟩ part=runT (ZsC part) l:=by
 unfold ZoH;have e:ZkL part=some ⟨5,part,0⟩:=rfl;rw[e,Zaw,Ztd];refine ZkR (fun x a ha h=>?_) (fun o=>rfl);obtain⟨r,rfl,d⟩:=ZFO h;simp only[Zbc.mk.injEq]at d;rw[d];simp only[List.length_cons]at hl;dsimp only;have:=ZJf part (if(0:Int)>x.fN then 0 else x.fN) x.fN.toNat [] r ((((if(0:Int)>x.fN then 0 else x.fN))-(0:Int)).toNat+2) (by simp only[List.length_nil];split<;>omega) (by simp only[List.length_nil];omega) (by split<;>omega);exact this
theorem ZzG(part:Int):∀(k i:Nat)(w:List Zaa)(l:List Zae)(x:List Zaa)(g:Zbc),runT (Zqs part k i w) l=some (.ret x g)->x.length+g.fgot.length=w.length+l.length
 | 0,i,w,l,x,g,h=>by simp[Zqs,runT]at h;rw[<-h.1,<-h.2]
 |k+1,i,w,[],x,g,h=>by simp[Zqs,runT,Zli,Pr.bind]at h
 |k+1,i,w,v :: l,x,g,h=>by
  have:=ZzG part k (i+1) (w++[v.fPeer]) l x g h
  simp only[List.length_append,List.length_cons,List.length_nil]at this ⊢
  omega
theorem ZzF(part:Int)(Q:Zaa->Prop):∀(k i:Nat)(w:List Zaa)(l:List Zae)(x:List Zaa)(g:Zbc),runT (Zqs part k i w) l=some (.ret x g)->(∀p∈w,Q p)->(∀v∈l,Q v.fPeer)->∀p∈x,Q p
 | 0,i,w,l,x,g,h,d,hl=>by simp[Zqs,runT]at h;rw[<-h.1];exact d
 |k+1,i,w,[],x,g,h,d,hl=>by simp[Zqs,runT,Zli,Pr.bind]at h
 |k+1,i,w,v :: l,x,g,h,d,hl=>by
  refine ZzF part Q k (i+1) (w++[v.fPeer]) l x g h (fun p hp=>?_) (fun v' e=>hl v' (List.mem_cons_of_mem _ e))
  rcases List.mem_append.1 hp with hp|hp
  .exact d p hp
  .rw[List.mem_singleton.1 hp];exact hl v (by simp)
theorem ZwQ{part:Int}{Q:Zaa->Prop}{l:List Zae}{x:List Zaa}{g:Zbc}(h:runT (ZsC part) l=some (.ret x g))(hl:∀v∈l,Q v.fPeer):∀p∈x,Q p:=by
 cases l with
 |nil=>simp[ZsC,runT,Zli,Pr.bind]at h
 |cons v l=>exact ZzF part Q _ _ _ l x g h (by simp) fun v' d=>hl v' (List.mem_cons_of_mem _ d)
def wrB(was ae:List Zaa)(i:Nat):Bool:=decide (was.length<=i) || !decide (was.getD i Zaa.d=ae.getD i Zaa.d)
def wrL(was ae:List Zaa):List Int:=((List.range ae.length).filter (wrB was ae)).map fun(i:Nat)=>(i:Int)
theorem ZEL(was ae:List Zaa)(t:ae.length<=1000000):Znh was ae=some (wrL was ae):=by
 have au:∀(k i f:Nat),ae.length-i=k->i<=ae.length->k+1<=f->Zdd was f ae (ae.length:Int) i (((List.range i).filter (wrB was ae)).map fun(i:Nat)=>(i:Int))=some (wrL was ae):=by
  intro k;induction k with
  |zero=>
   intro i f j o r;obtain⟨f,rfl⟩:=sC f;unfold Zdd;simp only[Zag];rw[iNa];have:i=ae.length:=by omega
   rw[this];rfl
  |succ k ih=>
   intro i f j o r;obtain⟨f,rfl⟩:=sC f;unfold Zdd;simp only[Zag];have g:Zau (i:Int) 1=((i+1:Nat):Int):=add1 (n:=i+1) (by omega) (by simp only[maxLen];omega);have hl:((List.range i).filter (wrB was ae)).length<=i:=by
    have:=List.length_filter_le (wrB was ae) (List.range i);rw[List.length_range]at this;exact this
   have hlen:((((List.range i).filter (wrB was ae)).map fun(i:Nat)=>(i:Int))++[(i:Int)]).length * 8<=140737488355328/\((((List.range i).filter (wrB was ae)).map fun(i:Nat)=>(i:Int))++[(i:Int)]).length<=maxLen:=by
    simp only[List.length_append,List.length_singleton,List.length_map,maxLen];omega
   have fB:wrB was ae i=true->(((List.range i).filter (wrB was ae)).map fun(i:Nat)=>(i:Int))++[(i:Int)]=((List.range (i+1)).filter (wrB was ae)).map fun(i:Nat)=>(i:Int):=fun h=>by
    rw[List.range_succ,List.filter_append,List.map_append,List.filter_cons_of_pos (by rw[h])];rfl
   have dD:wrB was ae i=false->(((List.range i).filter (wrB was ae)).map fun(i:Nat)=>(i:Int))=((List.range (i+1)).filter (wrB was ae)).map fun(i:Nat)=>(i:Int):=fun h=>by
    rw[List.range_succ,List.filter_append,List.map_append,List.filter_cons_of_neg (by rw[h];decide)];simp
   have bg:=ih (i+1) f (by omega) (by omega) (by omega);rw[iNb,Zap (by omega)];by_cases h:(i:Int)>=(was.length:Int)
   .have hb:wrB was ae i=true:=by unfold wrB;rw[decide_eq_true (show was.length<=i by omega)];rfl
    rw[if_pos h,Zap hlen,g,fB hb];exact bg
   .rw[if_neg h,Zap (show 0<=(i:Int)/\(i:Int)<(was.length:Int)by omega)];have h0:decide (was.length<=i)=false:=decide_eq_false (by omega);by_cases e:was.getD ((i:Int)).toNat Zaa.d=ae.getD ((i:Int)).toNat Zaa.d
    .have hb:wrB was ae i=false:=by
      unfold wrB;rw[h0,Bool.false_or];simp only[Int.toNat_natCast]at e;rw[decide_eq_true e];rfl
     simp only[e,decide_true,Bool.not_true,cond_false,g];rw[dD hb];exact bg
    .have hb:wrB was ae i=true:=by
      unfold wrB;rw[h0,Bool.false_or];simp only[Int.toNat_natCast]at e;rw[decide_eq_false e];rfl
     simp only[e,decide_false,Bool.not_false,cond_true];rw[Zap hlen,g,fB hb];exact bg
 exact au ae.length 0 _ (by omega) (by omega) (by omega)
theorem ZOb{was ae:List Zaa}{x:Int}(h:x∈wrL was ae):0<=x/\x<(ae.length:Int):=by
 unfold wrL at h;obtain⟨i,d,rfl⟩:=List.mem_map.1 h;have:=List.mem_range.1 (List.mem_filter.1 d).1;omega
theorem ZOc(was ae:List Zaa):(wrL was ae).length<=ae.length:=by
 unfold wrL;rw[List.length_map];have:=List.length_filter_le (wrB was ae) (List.range ae.length);rw[List.length_range]at this;exact this
def ZrX(part:Int)(ae:List Zaa):List Int->Pr Unit | []=>.ret ()|i :: r=>(Zlg ⟨6,part,i⟩ ⟨0,ae.getD i.toNat Zaa.d,[],[]⟩ false).bind fun _=>ZrX part ae r
def ZlQ(part:Int)(was ae:List Zaa):Pr Unit:=(ZrX part ae (wrL was ae)).bind fun _=>if was.length=ae.length then .ret ()else Zlg ⟨5,part,0⟩ ⟨(ae.length:Int),ZkG,[],[]⟩ false
theorem ZLg(part:Int)(was ae:List Zaa)(l:List Zae)(j:ae.length<=1000000):ZmZ ⟨l⟩ part was ae=runT (ZlQ part was ae) l:=by
 unfold ZmZ;rw[ZEL was ae j,Zaw];have hlen:=ZOc was ae;have au:∀(k i f:Nat)(l:List Zae),(wrL was ae).length-i=k->i<=(wrL was ae).length->k+1<=f->ZfB part was ae f (wrL was ae) ((wrL was ae).length:Int) i ⟨l⟩=runT ((ZrX part ae ((wrL was ae).drop i)).bind fun _=>if was.length=ae.length then .ret ()else Zlg ⟨5,part,0⟩ ⟨(ae.length:Int),ZkG,[],[]⟩ false) l:=by
  intro k;induction k with
  |zero=>
   intro i f l r t u;obtain⟨f,rfl⟩:=sC f;unfold ZfB;simp only[Zag];rw[iNa,List.drop_of_length_le (by omega)];have e:ZkL part=some ⟨5,part,0⟩:=rfl;simp only[e,Option.bind_some,ZrX,Pr.bind_ret];by_cases d:was.length=ae.length
   .have g:(((was.length:Nat):Int) != ((ae.length:Nat):Int))=false:=by simp[d]
    rw[if_pos d,g,cond_false];rfl
   .have g:(((was.length:Nat):Int) != ((ae.length:Nat):Int))=true:=by
     rw[bne_iff_ne];omega
    rw[if_neg d,g,cond_true,ZCr];exact ZIJ (p:=Zlg ⟨5,part,0⟩ ⟨(ae.length:Int),ZkG,[],[]⟩ false) (fun _ _=>rfl) (fun _=>rfl)
  |succ k ih=>
   intro i f l r t u;obtain⟨f,rfl⟩:=sC f;unfold ZfB;simp only[Zag];have v:Zau (i:Int) 1=((i+1:Nat):Int):=add1 (n:=i+1) (by omega) (by simp only[maxLen];omega);have y:=ZOb (ZbU (wrL was ae) (0:Int) i (by omega));have c9:0<=(wrL was ae).getD ((i:Int)).toNat (0:Int)/\(wrL was ae).getD ((i:Int)).toNat (0:Int)<(ae.length:Int):=by simpa using y
   have e:∀x,ZkK part x=some ⟨6,part,x⟩:=fun _=>rfl;rw[iNb,Zap (by omega)];simp only[e,Option.bind_some];rw[Zap c9,Zez (wrL was ae) (0:Int) i (by omega)];simp only[ZrX,Pr.bind_assoc,Int.toNat_natCast,ZCr];refine ZkR (fun x a ha h=>?_) (fun o=>rfl);dsimp only;rw[v];exact ih (i+1) f _ (by omega) (by omega) (by omega)
 have:=au (wrL was ae).length 0 ((((wrL was ae).length:Int)-(0:Int)).toNat+2) l (by omega) (by omega) (by omega);rw[List.drop_zero]at this;exact this
def Zsg(k cg:Int)(ai:Bool):Nat->Pr Unit|0=>.no|n+1=>(Zli ⟨k,0,0⟩).bind fun v=>(ZLC k v.fN (Zau v.fN cg) ai).bind fun b=>bif b then .ret ()else Zsg k cg ai n
theorem ZEO(k cg:Int)(ai:Bool):∀(f:Nat)(l:List Zae),ZiE cg ai f ⟨l⟩ ⟨k,0,0⟩=runT (Zsg k cg ai f) l:=by
 intro f;induction f with
 |zero=>intro l;rfl
 |succ f ih=>
  intro l;unfold ZiE;rw[Ztd];refine ZkR (fun x a ha h=>?_) (fun o=>rfl);dsimp only;rw[ZGz];refine ZkR (fun b a ha h=>?_) (fun o=>rfl);dsimp only;cases b with
  |true=>rfl
  |false=>exact ih _
theorem ZNx(k cg:Int)(ai:Bool)(l:List Zae):ZoI ⟨l⟩ k cg ai=runT (Zsg k cg ai 1000000) l:=by
 unfold ZoI;exact ZEO k cg ai 1000000 l
def Zot(most:Int)(ai:Bool):Nat->Pr Bool|0=>.no|n+1=>(Zli ⟨1,0,0⟩).bind fun v=>if v.fN>=most then .ret false else(ZLC 1 v.fN (Zau v.fN 1) ai).bind fun b=>bif b then .ret true else Zot most ai n
theorem Zvg(most:Int)(ai:Bool):∀(f:Nat)(l:List Zae),Zgq most ai f ⟨l⟩ ⟨1,0,0⟩=runT (Zot most ai f) l:=by
 intro f;induction f with
 |zero=>intro l;rfl
 |succ f ih=>
  intro l;unfold Zgq;rw[Ztd];refine ZkR (fun x a ha h=>?_) (fun o=>rfl);dsimp only;rw[Zag];by_cases d:x.fN>=most
  .rw[if_pos d,if_pos d];rfl
  .rw[if_neg d,if_neg d,ZGz];refine ZkR (fun b a ha h=>?_) (fun o=>rfl);dsimp only;cases b with
   |true=>rfl
   |false=>exact ih _
theorem ZEN(most:Int)(ai:Bool)(l:List Zae):ZkV ⟨l⟩ most ai=runT (Zot most ai 1000000) l:=by
 unfold ZkV;exact Zvg most ai 1000000 l
def ZFM:Nat->Nat->Pr Unit|_,0=>.ret ()|i,k+1=>(keyP 1 (2+(i:Int)) false).bind fun _=>ZFM (i+1) k
def ZoB(p:Int):Pr Unit:=ZFM 0 (Zcg p)
theorem ZPO{i:Nat}(h:i<=1000):Zau 2 (i:Int)=2+(i:Int):=Zbs (by omega) (by omega)
theorem ZEQ(p:Int)(l:List Zae):ZkW ⟨l⟩ p=runT (ZoB p) l:=by
 have r:=(Zja p).2;unfold ZkW;rw[ZlP,Zaw];have au:∀(k i f:Nat)(l:List Zae),Zcg p-i=k->i<=Zcg p->k+1<=f->Zet f (Zcg p:Int) i ⟨l⟩=runT (ZFM i k) l:=by
  intro k;induction k with
  |zero=>
   intro i f l d e g;obtain⟨f,rfl⟩:=sC f;unfold Zet;simp only[Zag];rw[iNa];rfl
  |succ k ih=>
   intro i f l d e g;obtain⟨f,rfl⟩:=sC f;unfold Zet;simp only[Zag];have j:Zau (i:Int) 1=((i+1:Nat):Int):=add1 (n:=i+1) (by omega) (by simp only[maxLen];omega);rw[iNb,ZPO (by omega),ZNz];refine ZkR (fun x a ha h=>?_) (fun o=>rfl);dsimp only;rw[j];exact ih (i+1) f _ (by omega) (by omega) (by omega)
 exact au (Zcg p) 0 _ l (by omega) (by omega) (by omega)
def ZBw(ai:Bool)(m:Nat):Nat->Pr Unit|0=>.ret ()|n+1=>(keyP 3 (2+(n:Int)) (ai&&decide (n+1=m))).bind fun _=>ZBw ai m n
def Zla(p:Int)(ai:Bool):Pr Unit:=ZBw ai (Zcg p) (Zcg p)
theorem ZES(p:Int)(ai:Bool)(l:List Zae):ZkX ⟨l⟩ p ai=runT (Zla p ai) l:=by
 have v:=Zja p;unfold ZkX;rw[ZlP,Zaw];obtain⟨c,d⟩ : ∃c:Nat,Zcg p=c+1:=⟨Zcg p-1,by omega⟩;have au:∀(n f:Nat)(l:List Zae),n<=Zcg p->n+1<=f->ZcH p ai f ((n:Int)-1) ⟨l⟩=runT (ZBw ai (Zcg p) n) l:=by
  intro n;induction n with
  |zero=>
   intro f l i j;obtain⟨f,rfl⟩:=sC f;unfold ZcH;simp only[Zag];rw[iNa];rfl
  |succ n ih=>
   intro f l i j;obtain⟨f,rfl⟩:=sC f;unfold ZcH;simp only[Zag];have r:(((n+1:Nat):Int)-1)=(n:Int):=by omega
   have t:Zbl (n:Int) 1=((n:Int)-1):=by
    cases n with
    |zero=>exact sub0
    |succ n=>rw[Zwt (by omega)];omega
   rw[r,iNb,ZPO (by omega),ZlP];simp only[Zaw,t];have g:∀m:Bool,m=(ai&&decide (n+1=Zcg p))->((ZfS ⟨l⟩ (2+(n:Int)) m).bind fun x3=>match x3 with
      | .ret x3v x3g=>ZcH p ai f ((n:Int)-1) x3g
      | .pan x3o=>some (Tout.pan x3o)
      | .bad x3s=>some (Tout.bad x3s))=runT (ZBw ai (Zcg p) (n+1)) l:=by
    rintro m rfl;rw[ZNA];refine ZkR (fun x a ha h=>?_) (fun o=>rfl);exact ih f _ (by omega) (by omega)
   cases ai with
   |true=>
    simp only[cond_true];refine g _ ?_;rw[d,Zwt (by omega)];by_cases h:n=c
    .subst h;simp
    .have u:((n:Int)==(c:Int))=false:=beq_false_of_ne (by omega);simp[h,u]
   |false=>
    simp only[cond_false];exact g _ rfl
 have e:Zbl (Zcg p:Int) 1=(Zcg p:Int)-1:=by rw[d,Zwt (by omega)];omega
 rw[e];exact au (Zcg p) _ l (Nat.le_refl _) (by omega)
theorem Wlk.ret{α β:Type}{got:List Zae}{a:Nat}(ha:a<=got.length){P:α->β->Prop}{W:β->Prop}{x:α}{b:β}(h:P x b):Wlk got a P W (.ret x) (some (wk got a,b)):=
 .inl ⟨x,b,a,rfl,rfl,Nat.le_refl _,ha,h⟩
theorem Wlk.mono{α β:Type}{got:List Zae}{a:Nat}{P P':α->β->Prop}{W W':β->Prop}{p:Pr α}{r:Option (Zad×β)}(h:Wlk got a P W p r)(j:∀x b,P x b->P' x b)(o:∀b,W b->W' b):Wlk got a P' W' p r:=by
 rcases h with⟨v,b,a',d,e,g,i,t⟩|⟨q,b,d,e,g,i⟩
 .exact .inl ⟨v,b,a',d,e,g,i,j _ _ t⟩
 .exact .inr ⟨q,b,d,e,g,o _ i⟩
theorem Wlk.seqP{α β γ δ:Type}{got:List Zae}{a:Nat}{P:α->β->Prop}{W:β->Prop}{p:Pr α}{r:Option (Zad×β)}(h:Wlk got a P W p r){f:α->Pr γ}{P':γ->δ->Prop}{W':δ->Prop}{K:Zad×β->Option (Zad×δ)}
  (e:∀x b a',a<=a'->a'<=got.length->P x b->Wlk got a' P' W' (f x) (K (wk got a',b))) (g:∀q b,W b->∃d,K (wt got q,b)=some (wt got q,d)/\W' d):Wlk got a P' W' (p.bind f) (r.bind K):=by
 have:=Wlk.seq h (f:=f) (K:=fun w b=>K (w,b)) e g;cases r with
 |none=>exact this
 |some x=>exact this
theorem Wlk.seqU{α γ δ:Type}{got:List Zae}{a:Nat}{P:α->Unit->Prop}{W:Unit->Prop}{p:Pr α}{r:Option Zad}(h:Wlk got a P W p (r.map fun w=>(w,()))){f:α->Pr γ}{P':γ->δ->Prop}{W':δ->Prop}{K:Zad->Option (Zad×δ)}
  (e:∀x a',a<=a'->a'<=got.length->P x ()->Wlk got a' P' W' (f x) (K (wk got a'))) (g:∀q,∃d,K (wt got q)=some (wt got q,d)/\W' d):Wlk got a P' W' (p.bind f) (r.bind K):=by
 have:=Wlk.seq h (f:=f) (K:=fun w _=>K w) (fun x b=>e x) (fun q b _=>g q);cases r with
 |none=>exact this
 |some x=>exact this
theorem Wlk.seqUU{α γ:Type}{got:List Zae}{a:Nat}{P:α->Unit->Prop}{W:Unit->Prop}{p:Pr α}{r:Option Zad}(h:Wlk got a P W p (r.map fun w=>(w,()))){f:α->Pr γ}{P':γ->Unit->Prop}{W':Unit->Prop}{K:Zad->Option Zad}
  (d:∀x a',a<=a'->a'<=got.length->P x ()->Wlk got a' P' W' (f x) ((K (wk got a')).map fun w=>(w,()))) (e:∀q,K (wt got q)=some (wt got q)) (g:W' ()):Wlk got a P' W' (p.bind f) ((r.bind K).map fun w=>(w,())):=by
 have:=Wlk.seqU h (f:=f) (K:=fun w=>(K w).map fun w=>(w,())) d (fun q=>⟨(),by rw[e q];rfl,g⟩);cases r with
 |none=>exact this
 |some x=>exact this
theorem Wlk.seqPU{α β γ:Type}{got:List Zae}{a:Nat}{P:α->β->Prop}{W:β->Prop}{p:Pr α}{r:Option (Zad×β)}(h:Wlk got a P W p r){f:α->Pr γ}{P':γ->Unit->Prop}{W':Unit->Prop}{K:Zad×β->Option Zad}
  (d:∀x b a',a<=a'->a'<=got.length->P x b->Wlk got a' P' W' (f x) ((K (wk got a',b)).map fun w=>(w,()))) (e:∀q b,W b->K (wt got q,b)=some (wt got q)) (g:W' ()):Wlk got a P' W' (p.bind f) ((r.bind K).map fun w=>(w,())):=by
 have:=Wlk.seqP h (f:=f) (K:=fun w=>(K w).map fun w=>(w,())) d (fun q b hb=>⟨(),by rw[e q b hb];rfl,g⟩);cases r with
 |none=>exact this
 |some x=>exact this
theorem ZrQ{α:Type}(r:Option α):(r.bind fun x=>some x)=r:=by cases r<;>rfl
section
variable {got:List Zae} (hL:got.length<=900000) {a:Nat} (ha:a<=got.length)
include hL ha
theorem ZPH(o:Zat)(ho:okV o.fVal):Wlk got a (fun x b=>x=b/\x∈got) (fun b=>b=valZ) (.ask o .ret) (ZcJ (wk got a) o):=by
 unfold Wlk;rw[ZlS _ _ _ (by omega) ha];by_cases h:a<got.length
 .rw[if_pos h,Zez got Zae.d a h];exact .inl ⟨_,_,a+1,rfl,rfl,by omega,h,rfl,ZbU got Zae.d a h⟩
 .rw[if_neg h,List.drop_eq_nil_of_le (by omega)];exact .inr ⟨_,_,rfl,rfl,ZvA ho,rfl⟩
theorem Zmi(c:Zas):Wlk got a (fun x b=>x=b/\x∈got) (fun b=>b=valZ) (Zli c) (ZaE (wk got a) c):=by
 unfold ZaE;have:=ZPH hL ha ⟨5,0,c,0,0,valZ,false⟩ ZzS;have e:∀r:Option (Zad×Zae),(r.bind fun x=>some (x.1,x.2))=r:=fun r=>by cases r<;>rfl
 exact(e _).symm ▸ this
theorem ZiY(k eR:Int)(ai:Bool):Wlk got a anyP anyW (keyP k eR ai) ((Zaj (wk got a) k eR ai).map fun w=>(w,())):=by
 unfold Zaj;exact Wlk.seqPU (p:=.ask ⟨k,eR,locZ,0,0,valZ,ai⟩ .ret) (ZPH hL ha ⟨k,eR,locZ,0,0,valZ,ai⟩ ZzS) (f:=fun _=>.ret ()) (fun x b a' e d g=>Wlk.ret d trivial) (fun q b _=>rfl) trivial
theorem Zmh(c:Zas)(v:Zae)(ai:Bool)(d:okV v):Wlk got a anyP anyW (Zlg c v ai) ((ZaA (wk got a) c v ai).map fun w=>(w,())):=by
 unfold ZaA;exact Wlk.seqPU (p:=.ask ⟨6,0,c,0,0,v,ai⟩ .ret) (ZPH hL ha ⟨6,0,c,0,0,v,ai⟩ d) (f:=fun _=>.ret ()) (fun x b a' g e i=>Wlk.ret e trivial) (fun q b _=>rfl) trivial
theorem ZCu(n:Int):Wlk got a (fun x b=>x=b/\x.length<=got.length/\∀Q:Zaa->Prop,(∀v∈got,Q v.fPeer)->∀p∈x,Q p) (fun b=>b.length<=got.length+1) (ZsC n) (ZbR (wk got a) n):=by
 have h:=ZPC hL ha n;rw[ZNt n (got.drop a) (by simp;omega)]at h;rcases h with⟨v,b,a',d,e,g,i,j⟩|⟨q,b,d,e,g,i⟩
 .exact .inl ⟨v,b,a',d,e,g,i,j.1,j.2,fun Q o=>ZwQ d fun v r=>o v (List.mem_of_mem_drop r)⟩
 .exact .inr ⟨q,b,d,e,g,i⟩
theorem ZoZ(n:Int)(was ae:List Zaa)(d:ae.length<=1000000):Wlk got a anyP anyW (ZlQ n was ae) ((ZaF (wk got a) n was ae).map fun w=>(w,())):=by
 have h:=ZNs (by omega) ha n was ae d;rw[ZLg n was ae (got.drop a) d]at h;exact h
theorem ZuJ(k b:Int)(ai:Bool):Wlk got a anyP anyW (Zsg k b ai 1000000) ((Zbb (wk got a) k b ai).map fun w=>(w,())):=by
 have h:=ZPE hL ha k b ai;rw[ZNx k b ai (got.drop a)]at h;exact h
theorem ZCt(most:Int)(ai:Bool):Wlk got a eqP anyW (Zot most ai 1000000) (Zbg (wk got a) most ai):=by
 have h:=ZHV hL ha most ai;rw[ZEN most ai (got.drop a)]at h;exact h
theorem ZrV(p:Int):Wlk got a anyP anyW (ZoB p) ((ZbM (wk got a) p).map fun w=>(w,())):=by
 have h:=ZHW (by omega) ha p;rw[ZEQ p (got.drop a)]at h;exact h
theorem ZrW(p:Int)(ai:Bool):Wlk got a anyP anyW (Zla p ai) ((ZaP (wk got a) p ai).map fun w=>(w,())):=by
 have h:=ZHX (by omega) ha p ai;rw[ZES p ai (got.drop a)]at h;exact h
end
structure Gl (l:List Zae):Prop where
 len:l.length<=800
 val:∀v∈l,v.ok/\v.fBans.length<=800/\v.fBook.length<=800
theorem Gl.drop{l:List Zae}(h:Gl l)(a:Nat):Gl (l.drop a):=⟨by have:=h.len;simp;omega,fun v d=>h.val v (List.mem_of_mem_drop d)⟩
theorem ZDr{α β:Type}{p:Pr α}{f:α->Pr β}:∀{l:List Zae}{y:β}{g:Zbc},runT (p.bind f) l=some (.ret y g)->∃x d,runT p l=some (.ret x d)/\runT (f x) d.fgot=some (.ret y g):=by
 induction p with
 |ret x=>intro l y g h;exact⟨x,⟨l⟩,rfl,h⟩
 |ask o k ih=>
  intro l y g h;cases l with
  |nil=>simp[Pr.bind,runT]at h
  |cons v l=>exact ih v h
 |no=>intro l y g h;simp[Pr.bind,runT]at h
def ZCn:Nat->Nat->List Zaa->Pr (List Zaa)|0,_,w=>.ret w|k+1,i,w=>(ZsC (i:Int)).bind fun x=>ZCn k (i+1) (w++x)
theorem ZzH{part:Int}{l:List Zae}{x:List Zaa}{g:Zbc}(h:runT (ZsC part) l=some (.ret x g)):x.length+g.fgot.length<=l.length:=by
 cases l with
 |nil=>simp[ZsC,runT,Zli,Pr.bind]at h
 |cons v l=>
  have:=ZzG part _ _ _ l x g h;simp only[List.length_cons,List.length_nil]at this ⊢;omega
theorem Zwp:∀(k i:Nat)(w:List Zaa)(l:List Zae)(x:List Zaa)(g:Zbc),runT (ZCn k i w) l=some (.ret x g)->x.length+g.fgot.length<=w.length+l.length/\∀Q:Zaa->Prop,(∀p∈w,Q p)->(∀v∈l,Q v.fPeer)->∀p∈x,Q p
 | 0,i,w,l,x,g,h=>by
  simp only[ZCn,runT,Option.some.injEq,Tout.ret.injEq]at h
  obtain⟨rfl,rfl⟩:=h
  exact⟨Nat.le_refl _,fun Q d _=>d⟩
 |k+1,i,w,l,x,g,h=>by
  obtain⟨y,o,e,r⟩:=ZDr h
  have t:=ZzH e
  obtain⟨j,u⟩:=Zwp k (i+1) (w++y) o.fgot x g r
  obtain⟨a,ha,rfl⟩:=Zto _ _ _ _ e
  simp only at t j
  refine⟨by simp only[List.length_append]at j;omega,fun Q d hl=>u Q (fun p hp=>?_) (fun v A=>hl v (List.mem_of_mem_drop A))⟩
  rcases List.mem_append.1 hp with hp|hp
  .exact d p hp
  .exact ZwQ e hl p hp
theorem Wlk.run{α β:Type}{got:List Zae}{a:Nat}{P:α->β->Prop}{W:β->Prop}{p:Pr α}{r:Option (Zad×β)}(h:Wlk got a P W p r):Wlk got a (fun x b=>P x b/\∃g,runT p (got.drop a)=some (.ret x g)) W p r:=by
 rcases h with⟨v,b,a',d,e,i,j,o⟩|⟨q,b,d,e,i,j⟩
 .exact .inl ⟨v,b,a',d,e,i,j,o,_,d⟩
 .exact .inr ⟨q,b,d,e,i,j⟩
theorem ZuM{got:List Zae}(q:Zat)(n:Nat)(o:n<=1000)(b4:Zad):∀(k i fu:Nat)(ls:List (List Zaa)),n-i=k->i<=n->k+1<=fu->ls.length<=i->∃fC,Zba (n:Int) fu (i:Int) ls (wt got q) b4=some (wt got q,fC):=by
 intro k;induction k with
 |zero=>
  intro i fu ls d e g hl;obtain⟨fu,rfl⟩:=sC fu;unfold Zba;rw[Zag,iNa];exact⟨_,rfl⟩
 |succ k ih=>
  intro i fu ls d e g hl;obtain⟨fu,rfl⟩:=sC fu;unfold Zba;have j:Zau (i:Int) 1=((i+1:Nat):Int):=add1 (n:=i+1) (by omega) (by simp only[maxLen];omega);rw[Zag,iNb,Zon,Zaw,Zap ⟨by simp only[List.length_append,List.length_singleton];omega,by simp only[List.length_append,List.length_singleton,maxLen];omega⟩,j];exact ih (i+1) fu _ (by omega) (by omega) (by omega) (by simp only[List.length_append,List.length_singleton];omega)
theorem ZNC{got:List Zae}(hL:got.length<=800)(n:Nat)(d:n<=1000)(b4:Zad):∀(k i fu a:Nat)(ls:List (List Zaa)),n-i=k->i<=n->k+1<=fu->ls.length=i->a<=got.length ->
  Wlk got a (fun x b=>x=b.flatten/\b.length=n) anyW (ZCn k i ls.flatten) (Zba (n:Int) fu (i:Int) ls (wk got a) b4):=by
 intro k;induction k with
 |zero=>
  intro i fu a ls e g j hl ha;obtain⟨fu,rfl⟩:=sC fu;unfold Zba;rw[Zag,iNa];exact Wlk.ret ha ⟨rfl,by omega⟩
 |succ k ih=>
  intro i fu a ls e g j hl ha;obtain⟨fu,rfl⟩:=sC fu;unfold Zba ZCn;have o:Zau (i:Int) 1=((i+1:Nat):Int):=add1 (n:=i+1) (by omega) (by simp only[maxLen];omega);rw[Zag,iNb,o];refine Wlk.seqP (ZCu (by omega) ha _) (fun x b a' u r t=>?_) (fun q b _=>?_)
  .obtain⟨rfl,_⟩:=t;dsimp only;rw[Zap ⟨by simp only[List.length_append,List.length_singleton];omega,by simp only[List.length_append,List.length_singleton,maxLen];omega⟩];have:=ih (i+1) fu a' (ls++[x]) (by omega) (by omega) (by omega) (by simp only[List.length_append,List.length_singleton];omega) r;rw[List.flatten_append]at this;simpa using this
  .dsimp only;rw[Zap ⟨by simp only[List.length_append,List.length_singleton];omega,by simp only[List.length_append,List.length_singleton,maxLen];omega⟩];obtain⟨fC,h⟩:=ZuM (got:=got) q n d b4 k (i+1) fu (ls++[b]) (by omega) (by omega) (by omega) (by simp only[List.length_append,List.length_singleton];omega);exact⟨fC,h,trivial⟩
theorem ZpF(ls:List (List Zaa))(t:ls.length<=1000)(u:ls.flatten.length<=900000):ZcP ls=some ls.flatten:=by
 have au:∀(k i fu:Nat),ls.length-i=k->i<=ls.length->k+1<=fu->Zec ls fu (i:Int) (ls.take i).flatten=some ls.flatten:=by
  intro k;induction k with
  |zero=>
   intro i fu d e g;obtain⟨fu,rfl⟩:=sC fu;unfold Zec;rw[Zag,iNa,List.take_of_length_le (by omega)]
  |succ k ih=>
   intro i fu d e g;obtain⟨fu,rfl⟩:=sC fu;unfold Zec;have j:Zau (i:Int) 1=((i+1:Nat):Int):=add1 (n:=i+1) (by omega) (by simp only[maxLen];omega);have o:(ls.take i).flatten++ls.getD i []=(ls.take (i+1)).flatten:=by
    rw[List.take_succ_eq_append_getElem (show i<ls.length by omega),List.flatten_append,ZbH ls _ i (by omega)];simp
   have r:ls.flatten=(ls.take (i+1)).flatten++(ls.drop (i+1)).flatten:=by rw[<-List.flatten_append,List.take_append_drop]
   have hle:(ls.take (i+1)).flatten.length<=ls.flatten.length:=by
    rw[r,List.length_append];omega
   rw[Zag,iNb,Zap ⟨by omega,by omega⟩];simp only[Int.toNat_natCast,o];rw[Zap ⟨by omega,by unfold maxLen;omega⟩,j];exact ih (i+1) fu (by omega) (by omega) (by omega)
 exact au ls.length 0 _ (by omega) (by omega) (by omega)
section
variable {c:Zaq} {x:Zao} (hx:x.ok) (bH:0<=c.fShards) (hs:c.fShards<=1000) {got:List Zae} (hG:Gl got) {a:Nat} (ha:a<=got.length)
include bH hs hG
omit hG in
theorem ZNB(q:Zat):∃ls,ZbK (wt got q) c.fShards=some (wt got q,ls):=by
 obtain⟨n,d⟩ : ∃n:Nat,c.fShards=(n:Int):=⟨c.fShards.toNat,by omega⟩;unfold ZbK;rw[d];exact ZuM q n (by omega) _ n 0 _ [] (by omega) (by omega) (by omega) (by simp)
include ha in
theorem All_W:Wlk got a (fun x b=>x=b.flatten/\b.length<=1000/\x.length<=800/\∀p∈x,p.ok) anyW (ZCn c.fShards.toNat 0 []) (ZbK (wk got a) c.fShards):=by
 have hL:=hG.len;obtain⟨n,d⟩ : ∃n:Nat,c.fShards=(n:Int):=⟨c.fShards.toNat,by omega⟩;unfold ZbK;rw[d,Int.toNat_natCast];have h:=Wlk.run (ZNC hL n (by omega) ⟨[],0,opZ,false⟩ n 0 (((n:Int)-(0:Int)).toNat+2) a [] (by omega) (by omega) (by omega) rfl ha);refine Wlk.mono h (fun y b e=>?_) (fun b hb=>hb);obtain⟨⟨i,u⟩,g,j⟩:=e;obtain⟨o,r⟩:=Zwp _ _ _ _ _ _ j;refine⟨i,by omega,?_,r Zaa.ok (by simp) fun v t=>(hG.val v (List.mem_of_mem_drop t)).1.2.1⟩;simp only[List.length_drop,List.flatten_nil,List.length_nil]at o;omega
end
section
variable {got:List Zae} (hG:Gl got) {a:Nat} (ha:a<=got.length)
include hG ha
theorem ZmT(k l:Int)(m:Bool){β:Type}(v:β):Wlk got a eqP anyW ((keyP k l m).bind fun _=>.ret v) ((Zaj (wk got a) k l m).bind fun y=>some (y,v)):=by
 have hL:=hG.len;exact Wlk.seqU (ZiY (by omega) ha k l m) (fun _ a' e d _=>Wlk.ret d rfl) (fun q=>⟨_,rfl,trivial⟩)
end
def Zve:Nat->Nat->List (List Zaa)->Pr (List (List Zaa))|0,_,w=>.ret w|k+1,i,w=>(ZsC (i:Int)).bind fun x=>Zve k (i+1) (w++[x])
theorem ZoY:∀(k i:Nat)(w:List (List Zaa))(l:List Zae)(x:List (List Zaa))(g:Zbc),runT (Zve k i w) l=some (.ret x g)->x.length=w.length+k/\x.flatten.length+g.fgot.length<=w.flatten.length+l.length/\∀Q:Zaa->Prop,(∀p∈w.flatten,Q p)->(∀v∈l,Q v.fPeer)->∀p∈x.flatten,Q p
 | 0,i,w,l,x,g,h=>by
  simp only[Zve,runT,Option.some.injEq,Tout.ret.injEq]at h
  obtain⟨rfl,rfl⟩:=h
  exact⟨rfl,Nat.le_refl _,fun Q d _=>d⟩
 |k+1,i,w,l,x,g,h=>by
  obtain⟨y,o,e,r⟩:=ZDr h
  have t:=ZzH e
  obtain⟨h0,j,u⟩:=ZoY k (i+1) (w++[y]) o.fgot x g r
  obtain⟨a,ha,rfl⟩:=Zto _ _ _ _ e
  simp only at t j
  refine⟨by rw[h0];simp;omega,by simp only[List.flatten_append,List.length_append,List.flatten_cons,List.flatten_nil,List.append_nil]at j;omega,fun Q d hl=>u Q (fun p hp=>?_) (fun v A=>hl v (List.mem_of_mem_drop A))⟩
  simp only[List.flatten_append,List.flatten_cons,List.flatten_nil,List.append_nil,List.mem_append]at hp
  rcases hp with hp|hp
  .exact d p hp
  .exact ZwQ e hl p hp
def ZnJ(h:Int):Int:=if h<1 then 1 else if h>1073741824 then 1073741824 else h
def Zrs(s:Zan)(h ae:Int):Nat:=(fitI ae-fitI s.fAt).toNat / (ZnJ h).toNat
def decS(s:Zan)(h ae:Int):Zan:=⟨(((fitI s.fPoints).toNat / 2 ^ Zrs s h ae:Nat):Int),fitI s.fAt+((Zrs s h ae*(ZnJ h).toNat:Nat):Int)⟩
theorem ZFb(h:Int):1<=ZnJ h/\ZnJ h<=1073741824:=by
 unfold ZnJ
 repeat' split
 all_goals omega
theorem ZPi(x:Int)(h:x<=1099511627776):fitI x=((x.toNat:Nat):Int):=by
 unfold fitI;split
 .omega
 .rw[iNa];omega
theorem ZHM(h:Nat)(h0:1<=h)(v:h<=1073741824)(t:Int)(y:0<=t/\t<=1099511627776)(b6:Zan):∀(m fu p a:Nat),p<2 ^ m->m+1<=fu->a<=2199023255552->p<=1099511627776 ->
  ZdN (h:Int) b6 fu t ⟨(p:Int),(a:Int)⟩=some ⟨((p / 2 ^ ((t-(a:Int)).toNat / h):Nat):Int),(a:Int)+(((t-(a:Int)).toNat / h*h:Nat):Int)⟩:=by
 intro m;have sub:∀a:Nat,a<=2199023255552->Zbl t (a:Int)=t-(a:Int):=fun a ha=>by
  exact ZcC (by omega) (by omega)
 have last:∀(a:Nat),a<=2199023255552->t-(a:Int)>=(h:Int)->Zbl t (Int.tmod (t-(a:Int)) (h:Int))=(a:Int)+(((t-(a:Int)).toNat / h*h:Nat):Int):=fun a ha g=>by
  obtain⟨d,gc⟩ : ∃d:Nat,t-(a:Int)=(d:Int):=⟨(t-(a:Int)).toNat,by omega⟩;have hd4:t=(d:Int)+(a:Int):=by omega
  rw[gc,Int.toNat_natCast,<-Int.ofNat_tmod];have A:d % h<=d:=Nat.mod_le _ _;have hdm:=Nat.div_add_mod d h;rw[Nat.mul_comm]at hdm;have e:Zbl t ((d % h:Nat):Int)=t-((d % h:Nat):Int):=by
   exact ZcC (by omega) (by omega)
  rw[e];generalize d / h*h=q at *
  omega
 induction m with
 |zero=>
  intro fu p a i j ha a4;obtain⟨fu,rfl⟩:=sC fu;have gf:p=0:=by simpa using i
  subst gf;unfold ZdN;simp only[Zag,sub a ha];rw[iNa,Nat.zero_div];by_cases g:t-(a:Int)>=(h:Int)
  .rw[if_pos g,Zap (by omega),last a ha g]
  .have h0:(t-(a:Int)).toNat / h=0:=Nat.div_eq_of_lt (by omega);rw[if_neg g,h0];simp
 |succ m ih=>
  intro fu p a i j ha a4;obtain⟨fu,rfl⟩:=sC fu;unfold ZdN;simp only[Zag,sub a ha];by_cases gf:(p:Int)>0
  .rw[if_pos gf];by_cases g:t-(a:Int)>=(h:Int)
   .rw[if_pos g];have o:IntKind.wrap .i64 (Int.tdiv (p:Int) 2)=((p / 2:Nat):Int):=by
     have:Int.tdiv (p:Int) 2=((p / 2:Nat):Int):=(Int.ofNat_tdiv p 2).symm;rw[this];exact Zfn (by omega) (by omega)
    have r:Zau (a:Int) (h:Int)=((a+h:Nat):Int):=by rw[Zbs (by omega) (by omega)];omega
    rw[o,r,ih fu (p / 2) (a+h) (by rw[Nat.pow_succ]at i;omega) (by omega) (by omega) (by omega)];obtain⟨d,gc⟩ : ∃d:Nat,t-(a:Int)=((d+h:Nat):Int):=⟨(t-(a:Int)).toNat-h,by omega⟩;have hd3:t-((a+h:Nat):Int)=(d:Int):=by omega
    have u:(d+h) / h=d / h+1:=Nat.add_div_right d (by omega);rw[gc,hd3,Int.toNat_natCast,Int.toNat_natCast,u,Nat.pow_succ,Nat.mul_comm (2 ^ (d / h)) 2,<-Nat.div_div_eq_div_mul,Nat.add_mul,Nat.one_mul];congr 2;generalize d / h*h=q;omega
   .have h0:(t-(a:Int)).toNat / h=0:=Nat.div_eq_of_lt (by omega);rw[if_neg g,if_neg g,h0];simp
  .have gf:p=0:=by omega
   subst gf;rw[if_neg gf,Nat.zero_div];by_cases g:t-(a:Int)>=(h:Int)
   .rw[if_pos g,Zap (by omega),last a ha g]
   .rw[if_neg g,Nat.div_eq_of_lt (by omega)];simp
theorem ZIZ(s:Zan)(h ae:Int):ZhM s h ae=some (decS s h ae):=by
 have hs:=ZFb h;have j:=ZiH s.fAt;have o:=ZiH s.fPoints;have g:=ZiH ae;obtain⟨k,i⟩ : ∃k:Nat,ZnJ h=k:=⟨(ZnJ h).toNat,by omega⟩;obtain⟨a,ha⟩ : ∃k:Nat,fitI s.fAt=k:=⟨(fitI s.fAt).toNat,by omega⟩;obtain⟨p,gq⟩ : ∃k:Nat,fitI s.fPoints=k:=⟨(fitI s.fPoints).toNat,by omega⟩;have au:∀b:Zan,ZeL ae s b (ZnJ h)=some (decS s h ae):=fun b=>by
  unfold ZeL decS Zrs;simp only[Zkl,Option.bind_some,i,ha,gq,Int.toNat_natCast];rw[ZHM k (by omega) (by omega) (fitI ae) g b 41 1000000 p a (by omega) (by omega) (by omega) (by omega)]
 unfold ZhM Zgn;simp only[Zag];by_cases d:h<1
 .rw[if_pos d,iNa];have:=au ⟨0,0⟩;rwa [show ZnJ h=1 by unfold ZnJ;rw[if_pos d]]at this
 .rw[if_neg d];by_cases e:h>1073741824
  .rw[if_pos e];have:=au ⟨0,0⟩;rwa [show ZnJ h=1073741824 by unfold ZnJ;rw[if_neg d,if_pos e]]at this
  .rw[if_neg e];have:=au ⟨0,0⟩;rwa [show ZnJ h=h by unfold ZnJ;rw[if_neg d,if_neg e]]at this
theorem ZHw(s:Zan)(h ae:Int):ZpB s h ae=some (decS s h ae):=by
 have hs:=ZFb h;have j:=ZiH s.fAt;have E:=ZiH s.fPoints;have F:=ZiH ae;unfold ZpB Zwa ZBs;have u:(if(1073741824:Int)<(if(1:Int)>h then(1:Int)else h)then(1073741824:Int)else(if(1:Int)>h then(1:Int)else h))=ZnJ h:=by
  unfold ZnJ
  repeat' split
  all_goals omega
 have v:(if(1099511627776:Int)<(if(0:Int)>s.fPoints then(0:Int)else s.fPoints)then(1099511627776:Int)else(if(0:Int)>s.fPoints then(0:Int)else s.fPoints))=fitI s.fPoints:=by
  unfold fitI
  repeat' split
  all_goals omega
 have y:∀n,0<=n->n<=1099511627776->fitI n=n:=fun n o e=>by unfold fitI;rw[iNa,iNa]
 have A:Zbl (fitI ae) (fitI s.fAt)=fitI ae-fitI s.fAt:=ZcC (by omega) (by omega);simp only[Zlh,Option.bind_some,u,v,y (fitI s.fAt) j.1 j.2,A];obtain⟨k,g⟩ : ∃k:Nat,ZnJ h=k:=⟨(ZnJ h).toNat,by omega⟩;obtain⟨a,ha⟩ : ∃k:Nat,fitI s.fAt=k:=⟨(fitI s.fAt).toNat,by omega⟩;obtain⟨p,gq⟩ : ∃k:Nat,fitI s.fPoints=k:=⟨(fitI s.fPoints).toNat,by omega⟩;obtain⟨d,r⟩ : ∃d:Nat,(fitI ae-fitI s.fAt).toNat=d:=⟨_,rfl⟩;have gc:fitI (fitI ae-fitI s.fAt)=(d:Int):=by rw[ZPi _ (by omega),r]
 have hdk:d / k<=d:=Nat.div_le_self _ _;have B:IntKind.wrap .i64 (Int.tdiv (d:Int) (k:Int))=((d / k:Nat):Int):=by
  rw[<-Int.ofNat_tdiv];exact Zfn (Int.natCast_nonneg _) (by omega)
 have hnn:(0:Int)<=((d / k:Nat):Int):=Int.natCast_nonneg _;rw[gc,g,B,Zap (by omega),Zap (by split<;>omega),gq,ha];have hl:Zrs s h ae=d / k:=by unfold Zrs;rw[r,g,Int.toNat_natCast]
 unfold decS;rw[hl,gq,ha,g,Int.toNat_natCast,Int.toNat_natCast];have hdm:d / k*k<=d:=Nat.div_mul_le_self d k;have C:Zml ((d / k:Nat):Int) (k:Int)=((d / k*k:Nat):Int):=by
  unfold Zml;rw[<-Int.natCast_mul];exact Zfn (by omega) (by omega)
 have D:Zau (a:Int) ((d / k*k:Nat):Int)=(a:Int)+((d / k*k:Nat):Int):=Zbs (by omega) (by omega);rw[C,D];congr 2
 -- the points
 have t:∀c:Nat,c<=41->Int.fdiv (p:Int) (2 ^ (min ((c:Nat):Int).toNat (IntKind.bits .i64)))=((p / 2 ^ c:Nat):Int):=fun c i=>by
  have:min ((c:Nat):Int).toNat (IntKind.bits .i64)=c:=by
   rw[Int.toNat_natCast];show min c 64=c;omega
  rw[this];have e:((2:Int) ^ c)=((2 ^ c:Nat):Int):=by simp
  rw[e,Int.fdiv_eq_tdiv_of_nonneg (by omega) (Int.natCast_nonneg _)];exact(Int.ofNat_tdiv p (2 ^ c)).symm
 by_cases i:(41:Int)<((d / k:Nat):Int)
 .rw[if_pos i];have:=t 41 (by omega);rw[show (((41:Nat):Int))=(41:Int)from rfl]at this;rw[this];have o:p / 2 ^ 41=0:=Nat.div_eq_of_lt (by omega);have e:p / 2 ^ (d / k)=0:=Nat.div_eq_of_lt (Nat.lt_of_lt_of_le (show p<2 ^ 41 by omega) (Nat.pow_le_pow_right (by omega) (by omega)));rw[o,e]
 .rw[if_neg i,t (d / k) (by omega)]
theorem ZPs(s:Zan)(h ae:Int):0<=(decS s h ae).fPoints/\(decS s h ae).fPoints<=1099511627776:=by
 have d:=ZiH s.fPoints;unfold decS;have:=Nat.div_le_self (fitI s.fPoints).toNat (2 ^ Zrs s h ae);constructor
 .exact Int.natCast_nonneg _
 .show (((fitI s.fPoints).toNat / 2 ^ Zrs s h ae:Nat):Int)<=_;omega
def ZLe(s:Zan)(points h ae:Int):Zan:=⟨fitI ((decS s h ae).fPoints+points * 65536),(decS s h ae).fAt⟩
theorem ZIG(s:Zan)(points h ae:Int)(h0:0<=points)(j:points<=100):ZlW s points h ae=some (ZLe s points h ae)/\ZiT s points h ae=some (ZLe s points h ae):=by
 have g:=ZPs s h ae;have d:∀n,0<=n->n<=1099511627776->fitI n=n:=fun n j r=>by unfold fitI;rw[iNa,iNa]
 have em:Zml points 65536=points * 65536:=by unfold Zml;exact Zfn (by omega) (by omega)
 have ea:Zau (decS s h ae).fPoints (points * 65536)=(decS s h ae).fPoints+points * 65536:=Zbs (by omega) (by omega);constructor
 .unfold ZlW ZBt ZnY ZLe;simp only[ZHw,Zlh,Option.bind_some,Zag,d points h0 (by omega),d 65536 (by omega) (by omega),d _ g.1 g.2];have t:(ZlW s points h ae=ZlW s points h ae):=rfl;by_cases i:points>0
  .rw[if_pos i,Zap (by omega)];have o:¬((65536:Int)>IntKind.wrap .i64 (Int.tdiv 1099511627776 points)):=by
    obtain⟨n,rfl⟩ : ∃n:Nat,points=n:=⟨points.toNat,by omega⟩;have e:Int.tdiv (1099511627776:Int) (n:Int)=((1099511627776 / n:Nat):Int):=(Int.ofNat_tdiv 1099511627776 n).symm;have hle:1099511627776 / n<=1099511627776:=Nat.div_le_self _ _;have hge:1099511627776 / 100<=1099511627776 / n:=Nat.div_le_div_left (by omega) (by omega);rw[e,Zfn (by omega) (by omega)];omega
   rw[if_neg o];simp only[Option.bind_some,em,d (points * 65536) (by omega) (by omega),ea]
  .rw[if_neg i];simp only[Option.bind_some,em,d (points * 65536) (by omega) (by omega),ea]
 .unfold ZiT ZLe;simp only[ZIZ,Zkl,Option.bind_some,Zag,d points h0 (by omega)];rw[iNa,em,ea]
theorem ZDp(s:Zan):∃r,ZlC s=some r/\Zcl s=some r:=by
 unfold ZlC Zcl;simp only[Zag];by_cases h:s.fPoints<0
 .rw[iNb,if_pos h];exact⟨_,rfl,rfl⟩
 .rw[iNa,if_neg h];exact⟨_,rfl,rfl⟩
def Zvi(s:Zan):Int:=(ZlC s).getD 0
theorem ZsI(s:Zan):ZlC s=some (Zvi s)/\Zcl s=some (Zvi s):=by
 obtain⟨r,d,e⟩:=ZDp s;unfold Zvi;rw[d,e];exact⟨rfl,rfl⟩
def Zri(s:Zan)(aR:Int):Bool:=decide (s.fPoints>=(if aR<1 then 1 else if aR>16777216 then 16777216 else aR) * 65536)
theorem Zvv(s:Zan)(aR:Int)(h0:0<=s.fPoints)(i:s.fPoints<=1099511627776):Zpx s aR=some (Zri s aR)/\Zfi s aR=some (Zri s aR):=by
 obtain⟨p,j⟩ : ∃k:Nat,s.fPoints=k:=⟨s.fPoints.toNat,by omega⟩;have r:Zcl s=some ((p / 65536:Nat):Int):=by
  unfold Zcl;simp only[Zag];have e:Int.tdiv (p:Int) 65536=((p / 65536:Nat):Int):=(Int.ofNat_tdiv p 65536).symm;rw[iNa,j,e,Zfn (by omega) (by omega)]
 have key:∀L:Int,1<=L->L<=16777216->decide (((p / 65536:Nat):Int)>=L)=decide (s.fPoints>=L * 65536):=fun L i t=>by
  rw[j];apply decide_eq_decide.2;omega
 have iZ:(if(16777216:Int)<(if(1:Int)>aR then(1:Int)else aR)then(16777216:Int)else(if(1:Int)>aR then(1:Int)else aR))=(if aR<1 then 1 else if aR>16777216 then 16777216 else aR):=by
  repeat' split
  all_goals omega
 have o:1<=(if aR<1 then(1:Int)else if aR>16777216 then 16777216 else aR)/\(if aR<1 then(1:Int)else if aR>16777216 then 16777216 else aR)<=16777216:=by
  repeat' split
  all_goals omega
 have em:∀L:Int,1<=L->L<=16777216->Zml L 65536=L * 65536:=fun L i t=>by unfold Zml;exact Zfn (by omega) (by omega)
 constructor
 .unfold Zpx Zri;rw[iZ,em _ o.1 o.2]
 .unfold Zfi Zfw Zri;simp only[Zag,r,Option.bind_some];by_cases d:aR<1
  .rw[if_pos d,if_pos d,iNa,key 1 (by omega) (by omega)]
  .rw[if_neg d,if_neg d];by_cases g:aR>16777216
   .rw[if_pos g,if_pos g,key 16777216 (by omega) (by omega)]
   .rw[if_neg g,if_neg g,key aR (by omega) (by omega)]
def penI(k:Int):Int:=(Zkq k).getD 0
theorem ZNN(k:Int):Zkq k=some (penI k)/\Zfj k=some (penI k)/\0<=penI k/\penI k<=100:=by
 obtain⟨q,d,e,g,i⟩:=ZHd k;unfold penI;rw[d,e];exact⟨rfl,rfl,g,i⟩
def Zle(c:Zaq)(x:Zao)(p:Zaa):Zaa:=⟨p.fEnd,p.fIn,p.fSince,ZLe p.fScore (penI x.fNum) c.fHalf x.fNow,p.fPing,p.fWork⟩
theorem ZKV(c:Zaq)(x:Zao)(p:Zaa):Zry p (penI x.fNum) c.fHalf x.fNow=some (Zle c x p)/\Zhi p (penI x.fNum) c.fHalf x.fNow=some (Zle c x p):=by
 obtain⟨_,_,d,e⟩:=ZNN x.fNum;obtain⟨g,i⟩:=ZIG p.fScore (penI x.fNum) c.fHalf x.fNow d e;unfold Zry Zhi;rw[g,i];exact⟨rfl,rfl⟩
theorem ZET(c:Zaq)(x:Zao)(p:Zaa):0<=(Zle c x p).fScore.fPoints/\(Zle c x p).fScore.fPoints<=1099511627776:=ZiH _
def ofP(l:List Zaa)(n:Zav)(b:Bool):List Zaa:=l.filter fun p=>hasS n p.fEnd.fAddr==b
theorem Zrh(l:List Zaa)(n:Zav)(b:Bool)(j:n.fAddr.ok)(hl:l.length<=1000000)(ar:∀p∈l,p.fEnd.fAddr.ok):Zdf l n b=some (ofP l n b):=by
 have hL:l.length<=maxLen:=by unfold maxLen;omega
 have au:∀fu (i:Nat) w,i<=l.length->l.length-i<fu->w=ofP (l.take i) n b->ZeR l b fu (i:Int) w n=some (ofP l n b):=by
  intro fu;induction fu with
  |zero=>intro i w _ h;omega
  |succ fu ih=>
   intro i w r t e;unfold ZeR;simp only[Zag];by_cases h:i<l.length
   .have o:=ZbU l Zaa.d i h;rw[iNb,Zap ⟨by omega,by omega⟩,add1 h hL];simp only[Int.toNat_natCast,ZFx n _ j (ar _ o),Option.bind_some];have bD:ofP (l.take (i+1)) n b=w++[l.getD i Zaa.d].filter (fun p=>hasS n p.fEnd.fAddr==b):=by
     rw[e];unfold ofP;rw[List.take_succ_eq_append_getElem h,List.filter_append,ZbH l _ i h]
    have k7:w.length<=1000000:=by
     rw[e];have:=List.length_filter_le (fun p:Zaa=>hasS n p.fEnd.fAddr==b) (l.take i);simp only[List.length_take]at this;unfold ofP;omega
    cases g:hasS n (l.getD i Zaa.d).fEnd.fAddr==b with
    |true=>
     rw[List.filter_cons_of_pos (by rw[g])]at bD;simp only[cond_true];rw[Zap ⟨by simp;omega,by simp[maxLen];omega⟩];exact ih (i+1) _ (by omega) (by omega) bD.symm
    |false=>
     rw[List.filter_cons_of_neg (by rw[g];decide)]at bD;simp only[cond_false];refine ih (i+1) _ (by omega) (by omega) ?_;rw[bD];simp
   .rw[iNa,e];have:i=l.length:=by omega
    rw[this,List.take_length]
 exact au _ 0 [] (by omega) (by omega) rfl
theorem ZtI(l:List Zaa)(n:Zav)(b:Bool):(ofP l n b).length<=l.length:=List.length_filter_le _ _
def cntP(l:List Zaa)(b:Bool):Int:=((l.countP fun p=>p.fIn==b:Nat):Int)
theorem ZiZ(l:List Zaa)(b:Bool)(hl:l.length<=maxLen):ZcF l b=some (cntP l b):=by
 simp only[ZcF];have:=ZvH l Zaa.d (fun p=>p.fIn==b) hl (fun fu n i=>ZcV l b fu n i) (fun fu i n e=>by
   simp only[ZcV,Zag];rw[iNb,Zap ⟨by omega,by omega⟩];simp only[Int.toNat_natCast];cases((l.getD i Zaa.d).fIn==b)<;>rfl) (fun fu n=>by
   simp only[ZcV,Zag];rw[iNa]) ((((l.length:Nat):Int)-(0:Int)).toNat+2) 0 0 (by omega) (by omega) (by omega)
 simp only[Int.natCast_zero,List.drop_zero]at this;rw[this];unfold cntP;congr 2;omega
theorem Zsq(l:List Zaa)(b:Bool):0<=cntP l b/\cntP l b<=(l.length:Int):=by
 unfold cntP;have:=List.countP_le_length (p:=fun p:Zaa=>p.fIn==b) (l:=l);omega
def Zvc(l:List Zaa):List Zah:=l.map (·.fEnd)
theorem ZpW(l:List Zaa)(hl:l.length<=1000000):Zdw l=some (Zvc l):=by
 have hL:l.length<=maxLen:=by unfold maxLen;omega
 have au:∀fu (i:Nat) w,i<=l.length->l.length-i<fu->w=Zvc (l.take i)->Zfg l fu (i:Int) w=some (Zvc l):=by
  intro fu;induction fu with
  |zero=>intro i w _ h;omega
  |succ fu ih=>
   intro i w e g d;unfold Zfg;simp only[Zag];by_cases h:i<l.length
   .have k7:w.length<=1000000:=by rw[d];unfold Zvc;simp;omega
    rw[iNb,Zap ⟨by omega,by omega⟩,add1 h hL,Zap ⟨by simp;omega,by simp[maxLen];omega⟩];refine ih (i+1) _ (by omega) (by omega) ?_;rw[d];unfold Zvc;rw[List.take_succ_eq_append_getElem h,List.map_append,Int.toNat_natCast,ZbH l _ i h];rfl
   .rw[iNa,d];have:i=l.length:=by omega
    rw[this,List.take_length]
 exact au _ 0 [] (by omega) (by omega) rfl
def addT(a b:Int):Int:=fitI (fitI a+fitI b)
theorem Ztl(a b:Int):ZnY a b=some (addT a b)/\Zeb a b=some (addT a b):=by
 have d:=ZiH a;have g:=ZiH b;have e:Zau (fitI a) (fitI b)=fitI a+fitI b:=Zbs (by omega) (by omega);constructor
 .unfold ZnY addT;simp only[Zlh,Option.bind_some,e]
 .unfold Zeb addT;simp only[Zkl,Option.bind_some,e]
def inI(n a b:Int):Bool:=decide (a<=n)&&decide (n<=b)
def nowB(x:Zao):Bool:=inI x.fNow 0 1099511627776
def Zlu(x:Zao):Bool:=if x.fKind=1\/x.fKind=12\/x.fKind=13 then ZnM x.fEnd&&nowB x else if x.fKind=2 then ZnM x.fEnd else if x.fKind=3\/x.fKind=9 then nowB x else if x.fKind=4 then ZnM x.fEnd&&(nowB x&&inI x.fNum 0 1073741824)else if x.fKind=5 then ZnM x.fEnd&&(inI x.fNum 1 5&&nowB x)else if x.fKind=6 then ZiI x.fNet&&(inI x.fNum 1 1099511627776&&nowB x)else if x.fKind=7 then ZiI x.fNet else if x.fKind=8 then Zdo x.fEnd.fAddr&&nowB x else if x.fKind=10 then true else if x.fKind=11 then ZnM x.fEnd&&inI x.fNum 1 1048576 else false
theorem ZGY(x:Zao)(hx:x.ok)(a b:Int)(s:ByteArray)(L:List Int)(hL:L.length=s.size)(h:∀i:Nat,i<s.size->((ZkA s i:Nat):Int)=L.getD i 0)(hs:s.size<=100) :
  Zbn a b x ((((s.size:Nat):Int)-(0:Int)).toNat+2) s 0=some (L.all fun c=>if c=101 then ZnM x.fEnd else if c=110 then ZiI x.fNet else if c=97 then Zdo x.fEnd.fAddr else if c=116 then nowB x else if c=107 then inI x.fNum a b else true):=by
 have e:x.fEnd.ok:=hx.2.1;have o:x.fNet.ok:=hx.2.2.1;have au:∀fu (i:Nat),i<=s.size->s.size-i<fu->Zbn a b x fu s (i:Int)=some ((L.drop i).all fun c=>if c=101 then ZnM x.fEnd else if c=110 then ZiI x.fNet else if c=97 then Zdo x.fEnd.fAddr else if c=116 then nowB x else if c=107 then inI x.fNum a b else true):=by
  intro fu;induction fu with
  |zero=>intro i _ h;omega
  |succ fu ih=>
   intro i d r;unfold Zbn;simp only[Zag,Zdn,Zpn _ e,Zsc _ o.1,ZjC _ e.1,Option.bind_some];by_cases hlt:i<s.size
   .rw[iNb,Zap ⟨by omega,by omega⟩,add1 (n:=s.size) hlt (by unfold maxLen;omega),Zez L (0:Int) i (by omega),List.all_cons,Int.toNat_natCast,h i hlt,ih (i+1) (by omega) (by omega)];generalize t:((L.drop (i+1)).all fun c=>if c=101 then ZnM x.fEnd else if c=110 then ZiI x.fNet else if c=97 then Zdo x.fEnd.fAddr else if c=116 then nowB x else if c=107 then inI x.fNum a b else true)=R;have jD:∀q:Bool,(bif !q then some false else some R)=some (q&&R):=fun q=>by cases q<;>rfl
    simp only[jD];have rng:∀n lo d:Int,(if n<lo then some false else if n>d then some false else some R)=some (inI n lo d&&R):=fun n lo d=>by
     unfold inI;by_cases g:n<lo
     .rw[if_pos g,decide_eq_false (by omega)];rfl
     .rw[if_neg g,decide_eq_true (show lo<=n by omega)];by_cases j:n>d
      .rw[if_pos j,decide_eq_false (by omega)];rfl
      .rw[if_neg j,decide_eq_true (show n<=d by omega)];rfl
    simp only[rng];unfold nowB
    repeat' split
    all_goals first|rfl|omega
   .rw[iNa,List.drop_of_length_le (by omega)];rfl
 exact au _ 0 (by omega) (by omega)
theorem Zow(x:Zao)(hx:x.ok):ZdW x=some (Zlu x):=by
 unfold ZdW ZdJ;simp only[Zag,Zdn];by_cases d:x.fKind<1
 .rw[if_pos d];unfold Zlu
  repeat' rw[iNa]
 .rw[if_neg d];by_cases g:x.fKind>13
  .rw[if_pos g];unfold Zlu
   repeat' rw[iNa]
  .rw[if_neg g];have key:∀(k a b:Int)(s:ByteArray)(L:List Int),x.fKind=k->ZhG k=some s->L.length=s.size->(∀i:Nat,i<s.size->((ZkA s i:Nat):Int)=L.getD i 0)->s.size<=100 ->
     (L.all fun c=>if c=101 then ZnM x.fEnd else if c=110 then ZiI x.fNet else if c=97 then Zdo x.fEnd.fAddr else if c=116 then nowB x else if c=107 then inI x.fNum a b else true)=Zlu x ->
     ((ZhG x.fKind).bind fun x1=>Zbn a b x ((((x1.size:Nat):Int)-(0:Int)).toNat+2) x1 (0:Int))=some (Zlu x):=by
    intro k a b s L e j o r t u;rw[e,j,Option.bind_some,ZGY x hx a b s L o r t,u]
   obtain h|h|h|h|h|h|h|h|h|h|h|h|h:x.fKind=1\/x.fKind=2\/x.fKind=3\/x.fKind=4\/x.fKind=5\/x.fKind=6\/x.fKind=7\/x.fKind=8\/x.fKind=9\/x.fKind=10\/x.fKind=11\/x.fKind=12\/x.fKind=13:=by omega
   .rw[iNa,iNa,iNa];exact key 1 _ _ _ [101,116] h rfl rfl (by decide) (by decide) (by simp[Zlu,h])
   .rw[iNa,iNa,iNa];exact key 2 _ _ _ [101] h rfl rfl (by decide) (by decide) (by simp[Zlu,h])
   .rw[iNa,iNa,iNa];exact key 3 _ _ _ [116] h rfl rfl (by decide) (by decide) (by simp[Zlu,h])
   .rw[iNa,iNa,iNa];exact key 4 _ _ _ [101,103,116,107] h rfl rfl (by decide) (by decide) (by simp[Zlu,h])
   .rw[if_pos h];exact key 5 _ _ _ [101,107,116] h rfl rfl (by decide) (by decide) (by simp[Zlu,h])
   .rw[iNa,if_pos h];exact key 6 _ _ _ [110,107,116] h rfl rfl (by decide) (by decide) (by simp[Zlu,h])
   .rw[iNa,iNa,iNa];exact key 7 _ _ _ [110] h rfl rfl (by decide) (by decide) (by simp[Zlu,h])
   .rw[iNa,iNa,iNa];exact key 8 _ _ _ [97,116] h rfl rfl (by decide) (by decide) (by simp[Zlu,h])
   .rw[iNa,iNa,iNa];exact key 9 _ _ _ [116] h rfl rfl (by decide) (by decide) (by simp[Zlu,h])
   .rw[iNa,iNa,iNa];exact key 10 _ _ _ [] h rfl rfl (by decide) (by decide) (by simp[Zlu,h])
   .rw[iNa,iNa,if_pos h];exact key 11 _ _ _ [101,107] h rfl rfl (by decide) (by decide) (by simp[Zlu,h])
   .rw[iNa,iNa,iNa];exact key 12 _ _ _ [101,116] h rfl rfl (by decide) (by decide) (by simp[Zlu,h])
   .rw[iNa,iNa,iNa];exact key 13 _ _ _ [101,116] h rfl rfl (by decide) (by decide) (by simp[Zlu,h])
def gv(v:Zae):Prop:=v.ok/\v.fBans.length<=5000/\v.fBook.length<=5000
structure Gd (l:List Zae):Prop where
 len:l.length<=400000
 val:∀v∈l,gv v
theorem Gd.drop{l:List Zae}(h:Gd l)(a:Nat):Gd (l.drop a):=⟨by have:=h.len;simp;omega,fun v d=>h.val v (List.mem_of_mem_drop d)⟩
def ZdE(k:Int):Zai:=⟨k,endZ,0,0,[]⟩
def pt(c:Zaq)(x:Zao):Int:=ZuO x.fEnd.fAddr c.fSecret c.fShards
section
variable {c:Zaq} {x:Zao} (hx:x.ok)
include hx
theorem pt_le:0<=pt c x/\pt c x<=7:=by
 obtain⟨_,_,d,e⟩:=Zor x.fEnd.fAddr hx.2.1.1 c.fSecret c.fShards;have:ZnO c.fShards<=8:=by
  unfold ZnO
  repeat' split
  all_goals omega
 unfold pt;omega
theorem Zpp:Zau 2 (pt c x)=2+pt c x:=by
 have:=pt_le (c:=c) hx;exact Zbs (by omega) (by omega)
end
def ZwY(n:Int)(e:Zah):Pr (List Zaa×Int):=(keyP 1 (2+n) false).bind fun _=>(ZsC n).bind fun l=>.ret (l,ZdU l e)
def ZGE(p:Zaa)(ae:Int):Zaa:=(Zkr p ae).getD p
theorem ZLq(p:Zaa)(ae:Int):Zkr p ae=some (ZGE p ae)/\Zcq p ae=some (ZGE p ae):=by
 obtain⟨q,d,e⟩:=ZIf p ae;unfold ZGE;rw[d,e];exact⟨rfl,rfl⟩
def ZDA(p:Zaa)(ms:Int):Zaa:=(ZlX p ms).getD p
theorem ZMr(p:Zaa)(ms:Int):ZlX p ms=some (ZDA p ms)/\Zda p ms=some (ZDA p ms):=by
 obtain⟨q,d,e⟩:=ZOP p ms;unfold ZDA;rw[d,e];exact⟨rfl,rfl⟩
def ZzU(n:Int):Pr Zai:=(keyP 3 (2+n) true).bind fun _=>.ret (ZdE 6)
def ZHr(n i:Int)(p:Zaa):Pr Unit:=Zlg ⟨6,n,i⟩ ⟨0,p,[],[]⟩ true
def atP(r:List Zaa×Int):Zaa:=r.1.getD r.2.toNat Zaa.d
def ZOT(n:Int)(x:Zao):Pr Zai:=(ZwY n x.fEnd).bind fun r=>if r.2<0 then ZzU n else if x.fKind=11 then(ZHr n r.2 (ZDA (atP r) x.fNum)).bind fun _=>(keyP 3 (2+n) false).bind fun _=>.ret ⟨0,endZ,(ZDA (atP r) x.fNum).fPing,0,[]⟩else(ZHr n r.2 (ZGE (atP r) x.fNow)).bind fun _=>(keyP 3 (2+n) false).bind fun _=>.ret repZ
def ZKC(ap:List Zah):Pr Unit:=(Zli ⟨4,0,0⟩).bind fun v=>Zlg ⟨4,0,0⟩ ⟨0,ZkG,[],v.fBook.map (ZHK ap)⟩ false
def ZzN(n:Int)(e:Zah):Pr Zai:=(ZwY n e).bind fun r=>if r.2<0 then ZzU n else(ZlQ n r.1 (Zqm r.1 [e])).bind fun _=>(if(atP r).fIn=true then Zsg 1 (-1) true 1000000 else(ZKC [e]).bind fun _=>Zsg 2 (-1) true 1000000).bind fun _=>(keyP 3 (2+n) false).bind fun _=>.ret repZ
def ZJL(n:Int)(e:Zah):Pr Zai:=(ZwY n e).bind fun r=>if r.2<0 then ZzU n else if(atP r).fIn=true then(ZlQ n r.1 (Zqm r.1 [e])).bind fun _=>(Zsg 1 (-1) true 1000000).bind fun _=>(keyP 3 (2+n) false).bind fun _=>.ret repZ else(keyP 3 (2+n) false).bind fun _=>(keyP 1 1 false).bind fun _=>(ZzN n e).bind fun q=>(keyP 3 1 false).bind fun _=>.ret q
def ZNl(ap:List Zaa):Pr Unit:=if cntP ap false>0 then(ZKC (Zvc ap)).bind fun _=>Zsg 2 (-(cntP ap false)) false 1000000 else .ret ()
def ZHT(ap:List Zaa):Pr Unit:=(if cntP ap true>0 then Zsg 1 (-(cntP ap true)) false 1000000 else .ret ()).bind fun _=>ZNl ap
def ZxV(n:Int)(l ap:List Zaa):Pr Unit:=(ZlQ n l (Zqm l (Zvc ap))).bind fun _=>ZHT ap
def ZiX(c:Zaq)(x:Zao):Zac:=⟨ZBv x.fEnd.fAddr,addT x.fNow c.fBanFor⟩
def ZCk(c:Zaq)(x:Zao):Pr Int:=(Zli ⟨3,0,0⟩).bind fun v=>if(addB v.fBans (ZiX c x) c.fMaxBans).2=0 then(Zlg ⟨3,0,0⟩ ⟨0,ZkG,(addB v.fBans (ZiX c x) c.fMaxBans).1,[]⟩ false).bind fun _=>.ret (ZiX c x).fUntil else .ret 0
def Ztz(n:Int)(c:Zaq)(x:Zao):Pr (Zai×Bool):=(ZwY n x.fEnd).bind fun r=>if r.2<0 then .ret (ZdE 6,true)else if Zri (Zle c x (atP r)).fScore c.fLimit=true then(ZCk c x).bind fun u=>(ZxV n r.1 (ofP r.1 (ZiX c x).fNet true)).bind fun _=>.ret (⟨0,x.fEnd,((ofP r.1 (ZiX c x).fNet true).length:Int),u,[]⟩,true)else(ZHr n r.2 (Zle c x (atP r))).bind fun _=>.ret (⟨0,endZ,Zvi (Zle c x (atP r)).fScore,0,[]⟩,false)
def ZKW(n:Int)(c:Zaq)(x:Zao):Pr Zai:=(ZwY n x.fEnd).bind fun r=>if r.2<0 then ZzU n else if Zri (Zle c x (atP r)).fScore c.fLimit=true then(keyP 3 (2+n) false).bind fun _=>(keyP 1 0 false).bind fun _=>(keyP 1 1 false).bind fun _=>(Ztz n c x).bind fun q=>(keyP 3 (2+n) q.2).bind fun _=>(keyP 3 1 false).bind fun _=>(keyP 3 0 false).bind fun _=>.ret q.1 else(ZHr n r.2 (Zle c x (atP r))).bind fun _=>(keyP 3 (2+n) false).bind fun _=>.ret ⟨0,endZ,Zvi (Zle c x (atP r)).fScore,0,[]⟩
def ZmQ:Pr Zai:=(keyP 8 0 true).bind fun _=>.ret (ZdE 1)
def ZvK(c:Zaq)(x:Zao):Pr Zai:=if Zlu x=true then(if x.fKind=2 then ZJL (pt c x) x.fEnd else if x.fKind=5 then ZKW (pt c x) c x else if x.fKind=11\/x.fKind=12 then ZOT (pt c x) x else ZmQ)else ZmQ
section
variable {c:Zaq} {x:Zao} (hx:x.ok) {l:List Zae} (hl:Gd l)
include hx hl
end
theorem ZFI{n:Int}(h0:0<=n)(d:n<=1000000):IntKind.wrap .i64 (0-n) = -n:=by
 have:=ZcC (a:=0) (b:=n) (by omega) (by omega);unfold Zbl at this;omega
theorem Zur(l:List Zaa):(Zvc l).length=l.length:=by simp[Zvc]
section
variable {c:Zaq} {x:Zao} (hx:x.ok) {l:List Zae} (hl:Gd l)
include hx hl
omit hx hl in
theorem ZEK(a b:Int):okI .i64 (addT a b):=by
 have:=ZiH (fitI a+fitI b);unfold addT;simp only[okI,Lit.wf,IntKind.min,IntKind.max,IntKind.bits,IntKind.signed];simp;omega
omit hx hl in
theorem ZsX(a:Zaf)(h:a.ok):(ZBv a).ok:=by
 unfold ZBv;split
 .refine⟨h,?_,trivial⟩;have:wid a<=128:=Zss a;simp only[okI,Lit.wf,IntKind.min,IntKind.max,IntKind.bits,IntKind.signed];simp;omega
 .exact⟨⟨trivial,rfl,rfl,trivial⟩,rfl,trivial⟩
end
def Zpg(l:List Zac)(a:Zaf)(ae:Int):Int:=(Znc l a ae).getD 0
theorem Zpf(l:List Zac)(a:Zaf)(ae:Int)(hl:l.length<=maxLen)(ar:∀b∈l,b.ok)(ha:a.ok):Znc l a ae=some (Zpg l a ae)/\Zcm l a ae=some (Zpg l a ae):=by
 obtain⟨r,u1,u2⟩:=ZLu l a ae hl ar ha;obtain⟨s,u3,u4⟩:=Zts l a ae hl ar ha;have hrs:r=s:=ZHo u2 u4 fun b=>Iff.rfl;subst hrs;unfold Zpg;rw[u1,u3];exact⟨rfl,rfl⟩
def ZKE(x:Zao):Zaa:=⟨x.fEnd,true,fitI x.fNow,⟨0,fitI x.fNow⟩,0,0⟩
def Zth(x:Zao)(l:List Zaa):List Zaa:=l++[ZKE x]
theorem Zpe(x:Zao)(l:List Zaa):(Zth x l).length=l.length+1:=by simp[Zth]
theorem ZpX(x:Zao)(l:List Zaa)(hl:l.length<=900000):Zbw l x=some (Zth x l):=by
 unfold Zbw;have en:ZeK x.fEnd true x.fNow=some (ZKE x):=by unfold ZeK;rw[Zkl];rfl
 have d:=Zpe x l;unfold Zth at d;rw[en,Zaw,List.nil_append,Zap ⟨by omega,by unfold maxLen;omega⟩,Zap ⟨by omega,by unfold maxLen;omega⟩];rfl
theorem ZJr{all:List (List Zaa)}{l:List Zaa}(h:l∈all):l.length<=all.flatten.length:=by
 induction all with
 |nil=>cases h
 |cons y r ih=>
  simp only[List.flatten_cons,List.length_append];rcases List.mem_cons.1 h with rfl|h
  .omega
  .have:=ih h;omega
def ZmR(all:List (List Zaa))(e:Zah):Int:=ixOf (fun l=>decide (ZdU l e>=0)) all 0
theorem ZEV(all:List (List Zaa))(e:Zah):ZmR all e<(all.length:Int):=by
 have:=Zxh (fun l=>decide (ZdU l e>=0)) all 0;unfold ZmR;omega
theorem ZLs{all:List (List Zaa)}{e:Zah}(h:∃p∈all.flatten,p.fEnd=e):0<=ZmR all e:=by
 by_cases g:ZmR all e<0
 .exfalso;obtain⟨p,i,j⟩:=h;obtain⟨l,hl,fH⟩:=List.mem_flatten.1 i;have o:=(Zqc (fun l=>decide (ZdU l e>=0)) all 0).1 g l hl;have r:ZdU l e<0:=by
   have:=of_decide_eq_false o;omega
  have d:=(Zqc (fun x:Zaa=>decide (x.fEnd=e)) l 0).1 r p fH;rw[j]at d;simp at d
 .omega
def ZfT(c:Zaq)(all:List (List Zaa)):Zah×Bool:=(ZkY all.flatten c.fQuota c.fSecret).getD (endZ,false)
theorem ZKN(c:Zaq)(all:List (List Zaa))(g:all.flatten.length<=800)(ho:∀p∈all.flatten,p.ok) :
  ZkY all.flatten c.fQuota c.fSecret=some (ZfT c all)/\ZfH all.flatten c.fQuota c.fSecret=some (ZfT c all)/\((ZfT c all).2=true->0<=ZmR all (ZfT c all).1):=by
 obtain⟨r,d,i,j⟩:=ZBB all.flatten c.fQuota c.fSecret g fun p o=>(ho p o).1.1;have e:ZfT c all=r:=by unfold ZfT;rw[d];rfl
 rw[e];refine⟨d,i,fun h=>ZLs ?_⟩;obtain⟨p,t,u,_⟩:=j h;exact⟨p,t,u⟩
def ZzL(c:Zaq)(x:Zao):Pr (Zai×Bool):=(keyP 1 (2+pt c x) false).bind fun _=>(ZsC (pt c x)).bind fun l=>if ZdU l x.fEnd>=0 then(keyP 3 (2+pt c x) true).bind fun _=>.ret (ZdE 7,true)else(Zot c.fMaxIn true 1000000).bind fun b=>if b=true then(ZlQ (pt c x) l (Zth x l)).bind fun _=>(keyP 3 (2+pt c x) false).bind fun _=>.ret (repZ,true)else(keyP 3 (2+pt c x) false).bind fun _=>.ret (repZ,false)
def ZmU(all:List (List Zaa))(i:Int):List Zaa:=all.getD i.toNat []
def ZrB(all:List (List Zaa))(e:Zah):List (List Zaa):=all.set (ZmR all e).toNat (Zqm (ZmU all (ZmR all e)) [e])
def ZsK(c:Zaq)(x:Zao)(all:List (List Zaa)):Pr (Zai×Bool):=if ZdU (ZmU all (pt c x)) x.fEnd>=0 then .ret (ZdE 7,true)else(Zot c.fMaxIn true 1000000).bind fun b=>if b=true then(ZlQ (pt c x) (ZmU all (pt c x)) (Zth x (ZmU all (pt c x)))).bind fun _=>.ret (repZ,false)else if(ZfT c all).2=true then(ZlQ (ZmR all (ZfT c all).1) (ZmU all (ZmR all (ZfT c all).1)) (Zqm (ZmU all (ZmR all (ZfT c all).1)) [(ZfT c all).1])).bind fun _=>(ZlQ (pt c x) (ZmU (ZrB all (ZfT c all).1) (pt c x)) (Zth x (ZmU (ZrB all (ZfT c all).1) (pt c x)))).bind fun _=>.ret (⟨0,(ZfT c all).1,1,0,[]⟩,true)else .ret (ZdE 5,true)
def ZwF(c:Zaq)(x:Zao)(all:List (List Zaa)):Pr Zai:=(ZsK c x all).bind fun q=>(Zla c.fShards q.2).bind fun _=>.ret q.1
def ZDi(c:Zaq)(x:Zao):Pr Zai:=(ZoB c.fShards).bind fun _=>(Zve c.fShards.toNat 0 []).bind fun all=>ZwF c x all
def Zwq(c:Zaq)(x:Zao):Pr Zai:=if Zlu x=true then(keyP 2 0 false).bind fun _=>(Zli ⟨3,0,0⟩).bind fun v=>if Zpg v.fBans x.fEnd.fAddr x.fNow>0 then(keyP 4 0 true).bind fun _=>.ret ⟨8,endZ,0,Zpg v.fBans x.fEnd.fAddr x.fNow,[]⟩else(ZzL c x).bind fun q=>if q.2=true then(keyP 4 0 false).bind fun _=>.ret q.1 else(ZDi c x).bind fun r=>(keyP 4 0 false).bind fun _=>.ret r else ZmQ
section
variable {c:Zaq} {x:Zao} (hx:x.ok) {l:List Zae} (hl:Gl l)
include hx hl
variable (bM:1<=c.fShards) (hs:c.fShards<=8)
include bM hs
omit hl in
theorem pt_lt:0<=pt c x/\pt c x<c.fShards:=by
 obtain⟨_,_,d,e⟩:=Zor x.fEnd.fAddr hx.2.1.1 c.fSecret c.fShards;have:ZnO c.fShards=c.fShards:=by unfold ZnO;rw[iNa,iNa]
 unfold pt;omega
end
theorem Gl.gd{l:List Zae}(h:Gl l):Gd l:=⟨by have:=h.len;omega,fun v d=>⟨(h.val v d).1,by have:=(h.val v d).2.1;omega,by have:=(h.val v d).2.2;omega⟩⟩
def fewL(b:List (List Zaa)):Prop:=b.length<=1000/\b.flatten.length<=900000
theorem ZsB{got:List Zae}(q:Zat)(n:Nat)(u:n<=1000)(b4:Zad):∀(k i fu:Nat)(ls:List (List Zaa)),n-i=k->i<=n->k+1<=fu->ls.length<=i->∃fC,Zba (n:Int) fu (i:Int) ls (wt got q) b4=some (wt got q,fC)/\fC.length<=n/\fC.flatten=ls.flatten:=by
 intro k;induction k with
 |zero=>
  intro i fu ls d e g hl;obtain⟨fu,rfl⟩:=sC fu;unfold Zba;rw[Zag,iNa];exact⟨_,rfl,by omega,rfl⟩
 |succ k ih=>
  intro i fu ls d e g hl;obtain⟨fu,rfl⟩:=sC fu;unfold Zba;have j:Zau (i:Int) 1=((i+1:Nat):Int):=add1 (n:=i+1) (by omega) (by simp only[maxLen];omega);rw[Zag,iNb,Zon,Zaw,Zap ⟨by simp only[List.length_append,List.length_singleton];omega,by simp only[List.length_append,List.length_singleton,maxLen];omega⟩,j];obtain⟨fC,o,r,t⟩:=ih (i+1) fu (ls++[[]]) (by omega) (by omega) (by omega) (by simp only[List.length_append,List.length_singleton];omega);exact⟨fC,o,r,by rw[t];simp⟩
theorem ZLl{got:List Zae}(hL:got.length<=800)(n:Nat)(d:n<=1000)(b4:Zad):∀(k i fu a:Nat)(ls:List (List Zaa)),n-i=k->i<=n->k+1<=fu->ls.length=i->ls.flatten.length<=i * 801->a<=got.length ->
  Wlk got a eqP fewL (Zve k i ls) (Zba (n:Int) fu (i:Int) ls (wk got a) b4):=by
 intro k;induction k with
 |zero=>
  intro i fu a ls e g j hl hs ha;obtain⟨fu,rfl⟩:=sC fu;unfold Zba;rw[Zag,iNa];exact Wlk.ret ha rfl
 |succ k ih=>
  intro i fu a ls e g j hl hs ha;obtain⟨fu,rfl⟩:=sC fu;unfold Zba Zve;have o:Zau (i:Int) 1=((i+1:Nat):Int):=add1 (n:=i+1) (by omega) (by simp only[maxLen];omega);rw[Zag,iNb,o];refine Wlk.seqP (ZCu (by omega) ha _) (fun x b a' v r t=>?_) (fun q b hb=>?_)
  .obtain⟨rfl,y,_⟩:=t;dsimp only;rw[Zap ⟨by simp only[List.length_append,List.length_singleton];omega,by simp only[List.length_append,List.length_singleton,maxLen];omega⟩];refine ih (i+1) fu a' (ls++[x]) (by omega) (by omega) (by omega) (by simp only[List.length_append,List.length_singleton];omega) ?_ r;simp only[List.flatten_append,List.length_append,List.flatten_cons,List.flatten_nil,List.append_nil];omega
  .dsimp only;rw[Zap ⟨by simp only[List.length_append,List.length_singleton];omega,by simp only[List.length_append,List.length_singleton,maxLen];omega⟩];obtain⟨fC,h,A,u⟩:=ZsB (got:=got) q n d b4 k (i+1) fu (ls++[b]) (by omega) (by omega) (by omega) (by simp only[List.length_append,List.length_singleton];omega);refine⟨fC,h,by omega,?_⟩;rw[u];simp only[List.flatten_append,List.length_append,List.flatten_cons,List.flatten_nil,List.append_nil];have:i * 801<=1000 * 801:=Nat.mul_le_mul_right _ (by omega);omega
section
variable {c:Zaq} {x:Zao} (bH:0<=c.fShards) (hs:c.fShards<=1000) {got:List Zae} (hG:Gl got) {a:Nat} (ha:a<=got.length)
include bH hs hG ha
omit hG ha in
theorem ZuL(q:Zat):∃ls,ZbK (wt got q) c.fShards=some (wt got q,ls)/\fewL ls:=by
 obtain⟨n,d⟩ : ∃n:Nat,c.fShards=(n:Int):=⟨c.fShards.toNat,by omega⟩;unfold ZbK;rw[d];obtain⟨ls,e,i,g⟩:=ZsB (got:=got) q n (by omega) ⟨[],0,opZ,false⟩ n 0 (((n:Int)-(0:Int)).toNat+2) [] (by omega) (by omega) (by omega) (by simp);exact⟨ls,e,by omega,by rw[g];simp⟩
theorem ZLm:Wlk got a (fun x b=>x=b/\b.length<=1000/\b.flatten.length<=800/\∀p∈b.flatten,p.ok) fewL (Zve c.fShards.toNat 0 []) (ZbK (wk got a) c.fShards):=by
 have hL:=hG.len;obtain⟨n,d⟩ : ∃n:Nat,c.fShards=(n:Int):=⟨c.fShards.toNat,by omega⟩;unfold ZbK;rw[d,Int.toNat_natCast];have h:=Wlk.run (ZLl hL n (by omega) ⟨[],0,opZ,false⟩ n 0 (((n:Int)-(0:Int)).toNat+2) a [] (by omega) (by omega) (by omega) rfl (by simp) ha);refine Wlk.mono h (fun y b e=>?_) (fun b hb=>hb);obtain⟨i,g,j⟩:=e;cases i;obtain⟨h0,o,r⟩:=ZoY _ _ _ _ _ _ j;simp only[List.length_nil]at h0;refine⟨rfl,by omega,?_,r Zaa.ok (by simp) fun v t=>(hG.val v (List.mem_of_mem_drop t)).1.2.1⟩;simp only[List.length_drop,List.flatten_nil,List.length_nil]at o;omega
end
end Go.Proofs.YtnigiacmmedkhaaGreat
