import Derived.Test.YtnigiacmmedkhaaGreatGPlMc
import Derived.Test.YtnigiacmmedkhaaGreatGPlXa
namespace Go.Proofs.YtnigiacmmedkhaaGreat
set_option linter.unusedSectionVars false
set_option linter.unusedVariables false
set_option linter.unusedSimpArgs false
theorem ZDJ(n a b:Int):Zbh n a b=some (decide (n>=a)&&decide (n<=b)):=by
 unfold Zbh;cases decide (n>=a)<;>rfl
theorem ZxB{α:Type}{c:Bool}{x y:Option α}(d:∃b,x=some b)(e:∃b,y=some b):∃b,(bif c then x else y)=some b:=by
 cases c
 .exact e
 .exact d
theorem ZOG(c:Zaq):∃b,ZdX c=some b:=by
 unfold ZdX;simp only[ZbW,ZcW,ZDJ,Zaw]
 repeat' first|exact⟨_,rfl⟩|apply ZxB
theorem ZGU(c:Zaq):ZbW false c=some false:=by
 simp[ZbW,ZcW,ZDJ]
theorem ZLX{c:Zaq}(h:ZdX c=some true):1<=c.fShards/\c.fShards<=8:=by
 unfold ZdX at h;simp only[ZDJ,Zaw,ZGU]at h;cases d:(decide (c.fMaxIn>=0)&&decide (c.fMaxIn<=65535))with
 |false=>rw[d]at h;simp at h
 |true=>
  rw[d,cond_true]at h;cases e:(decide (c.fMaxOut>=0)&&decide (c.fMaxOut<=65535))with
  |false=>rw[e]at h;simp at h
  |true=>
   rw[e,cond_true]at h;cases g:(decide (c.fShards>=1)&&decide (c.fShards<=8))with
   |false=>rw[g]at h;simp at h
   |true=>
    rw[Bool.and_eq_true,decide_eq_true_eq,decide_eq_true_eq]at g;omega
theorem ZOH(p:Zaa)(h:p.ok):∃b,ZhL p=some b:=by
 unfold ZhL;rw[Zpn _ h.1,Zaw]
 repeat' first|exact⟨_,rfl⟩|apply ZxB
theorem ZOF(l:Prs)(hl:l.length<=1000)(ar:∀p∈l,p.ok):∃b,Zjz l=some b/\(b=true->StrP l):=by
 have bZ:∀(v3:Nat)(kg:Int->Option Bool)(Q:Prop),v3<l.length->(∃b,kg ((v3+1:Nat):Int)=some b/\(b=true->Q))->∀(k i fu:Nat),v3-i=k->i<=v3->k+1<=fu ->
   ∃b,ZdK l (v3:Int) kg fu (i:Int)=some b/\(b=true->Q/\∀j,i<=j->j<v3->cmpE (l.getD j Zaa.d).fEnd (l.getD v3 Zaa.d).fEnd<0):=by
  intro v3 kg Q G hkg k;induction k with
  |zero=>
   intro i fu u v y;obtain⟨fu,rfl⟩:=sC fu;have A:Zau (v3:Int) 1=((v3+1:Nat):Int):=add1 (n:=v3+1) (by omega) (by simp only[maxLen];omega);unfold ZdK;rw[Zag,iNa,A];obtain⟨b,o,g⟩:=hkg;exact⟨b,o,fun hb=>⟨g hb,fun j B r=>by omega⟩⟩
  |succ k ih=>
   intro i fu u v y;obtain⟨fu,rfl⟩:=sC fu;have A:Zau (i:Int) 1=((i+1:Nat):Int):=add1 (n:=i+1) (by omega) (by simp only[maxLen];omega);unfold ZdK;rw[Zag,iNb,Zap ⟨by omega,by omega⟩,Zap ⟨by omega,by omega⟩,Int.toNat_natCast,Int.toNat_natCast,Zou,Zaw,Zag,A];by_cases h:cmpE (l.getD i Zaa.d).fEnd (l.getD v3 Zaa.d).fEnd>=0
   .rw[if_pos h];exact⟨_,rfl,fun e=>by cases e⟩
   .rw[if_neg h];obtain⟨b,o,g⟩:=ih (i+1) fu (by omega) (by omega) (by omega);refine⟨b,o,fun hb=>⟨(g hb).1,fun j B r=>?_⟩⟩;by_cases C:j=i
    .subst C;omega
    .exact(g hb).2 j (by omega) r
 have cK:∀(k i fu:Nat),l.length-i=k->i<=l.length->k+1<=fu->∃b,ZcU l fu (i:Int)=some b/\(b=true->∀q j,i<=q->j<q->q<l.length->cmpE (l.getD j Zaa.d).fEnd (l.getD q Zaa.d).fEnd<0):=by
  intro k;induction k with
  |zero=>
   intro i fu u v y;obtain⟨fu,rfl⟩:=sC fu;unfold ZcU;rw[Zag,iNa];exact⟨_,rfl,fun _ q j o g B=>by omega⟩
  |succ k ih=>
   intro i fu u v y;obtain⟨fu,rfl⟩:=sC fu;obtain⟨b1,bo⟩:=ZOH _ (ar _ (ZbU l Zaa.d i (by omega)));unfold ZcU;rw[Zag,iNb,Zap ⟨by omega,by omega⟩,Int.toNat_natCast,bo,Zaw];cases b1 with
   |false=>exact⟨_,rfl,fun e=>by cases e⟩
   |true=>
    rw[Bool.not_true,cond_false];obtain⟨b,o,g⟩:=bZ i (ZcU l fu) _ (by omega) (ih (i+1) fu (by omega) (by omega) (by omega)) i 0 (((i:Int)-(0:Int)).toNat+2) (by omega) (by omega) (by omega);refine⟨b,o,fun hb q j B r D=>?_⟩;obtain⟨E,F⟩:=g hb;by_cases t:q=i
    .subst t;exact F j (Nat.zero_le _) r
    .exact E q j (by omega) r D
 obtain⟨b,o,g⟩:=cK l.length 0 ((((l.length:Nat):Int)-(0:Int)).toNat+2) (by omega) (by omega) (by omega);refine⟨b,o,fun hb=>?_⟩;unfold StrP;rw[List.pairwise_iff_getElem];intro j q C t hlt;have:=g hb q j (Nat.zero_le _) hlt t;rw[ZbH l _ j C,ZbH l _ q t]at this;exact ZtN.2 this
def upR(l:Prs)(e:Zab):Prop:=e.fState=3↔0<=ZdU l e.fEnd/\(l.getD (ZdU l e.fEnd).toNat Zaa.d).fIn=false
structure RtS (c:Zaq) (s:ZaN):Prop where
 conf:ZdX c=some true
 peers:StrP s.fPeers
 book:ZIP s.fBook=true
 up:∀e∈s.fBook,upR s.fPeers e
theorem ZOE(c:Zaq)(s:ZaN)(hs:s.ok)(G:s.fBans.length<=20)(H:s.fBook.length<=20)(I:s.fPeers.length<=20):∃b,ZhF c s=some b/\(b=true->RtS c s):=by
 obtain⟨⟨_,okb⟩,⟨_,oke⟩,⟨_,okp⟩,_⟩:=hs;have A:∀(v5:Int)(kg:Int->ZaN->Option Bool)(k i fu:Nat),s.fPeers.length-i=k->i<=s.fPeers.length->k+1<=fu->∃b,ZcR v5 s kg fu (i:Int)=some b:=by
  intro v5 kg k;induction k with
  |zero=>
   intro i fu r t u;obtain⟨fu,rfl⟩:=sC fu;unfold ZcR;rw[Zag,iNa];exact⟨_,rfl⟩
  |succ k ih=>
   intro i fu r t u;obtain⟨fu,rfl⟩:=sC fu;have v:Zau (i:Int) 1=((i+1:Nat):Int):=add1 (n:=i+1) (by omega) (by simp only[maxLen];omega);unfold ZcR;rw[Zag,iNb,Zap ⟨by omega,by omega⟩,Int.toNat_natCast,v,Zrg _ _ (by unfold maxLen;omega),Zaw];exact ZxB (ZxB ⟨_,rfl⟩ (ih (i+1) fu (by omega) (by omega) (by omega))) (ih (i+1) fu (by omega) (by omega) (by omega))
 have B:∀(k i fu:Nat),s.fBook.length-i=k->i<=s.fBook.length->k+1<=fu->∃b,ZbV fu (i:Int) s=some b/\(b=true->∀j,i<=j->j<s.fBook.length->upR s.fPeers (s.fBook.getD j Zab.d)):=by
  intro k;induction k with
  |zero=>
   intro i fu r t u;obtain⟨fu,rfl⟩:=sC fu;unfold ZbV;rw[Zag,iNa];obtain⟨b,hb⟩:=A (i:Int) (ZbV fu) s.fPeers.length 0 1000000 (by omega) (by omega) (by omega);exact⟨b,hb,fun _ j C y=>by omega⟩
  |succ k ih=>
   intro i fu r t u;obtain⟨fu,rfl⟩:=sC fu;have v:Zau (i:Int) 1=((i+1:Nat):Int):=add1 (n:=i+1) (by omega) (by simp only[maxLen];omega);obtain⟨b,bo,bk⟩:=ih (i+1) fu (by omega) (by omega) (by omega);have hlt:=ZoV s.fPeers (s.fBook.getD i Zab.d).fEnd;have bm:∀{P:Prop},(P↔upR s.fPeers (s.fBook.getD i Zab.d))->P->b=true->∀j,i<=j->j<s.fBook.length->upR s.fPeers (s.fBook.getD j Zab.d):=fun D E hb j C y=>by
    by_cases o:j=i
    .subst o;exact D.1 E
    .exact bk hb j (by omega) y
   unfold ZbV;rw[Zag,iNb,Zap ⟨by omega,by omega⟩,Int.toNat_natCast,v,ZgU _ _ (by unfold maxLen;omega),Zaw,Zag];by_cases hf0:ZdU s.fPeers (s.fBook.getD i Zab.d).fEnd>=0
   .rw[if_pos hf0,Zap ⟨hf0,hlt⟩];cases g:(((s.fBook.getD i Zab.d).fState==3) == !(s.fPeers.getD (ZdU s.fPeers (s.fBook.getD i Zab.d).fEnd).toNat Zaa.d).fIn)with
    |false=>exact⟨_,rfl,fun e=>by cases e⟩
    |true=>
     refine⟨b,bo,bm Iff.rfl ?_⟩;rw[beq_iff_eq]at g;unfold upR;rw[<-beq_iff_eq,g];generalize (s.fPeers.getD (ZdU s.fPeers (s.fBook.getD i Zab.d).fEnd).toNat Zaa.d).fIn=z;exact⟨fun h=>⟨hf0,by cases z<;>first|rfl|cases h⟩,fun h=>by rw[h.2];rfl⟩
   .rw[if_neg hf0];cases g:(((s.fBook.getD i Zab.d).fState==3)==false)with
    |false=>exact⟨_,rfl,fun e=>by cases e⟩
    |true=>
     refine⟨b,bo,bm Iff.rfl ?_⟩;rw[beq_iff_eq]at g;unfold upR;rw[<-beq_iff_eq,g];exact⟨fun h=>(by cases h),fun h=>absurd h.1 hf0⟩
 obtain⟨b1,bo⟩:=ZOG c;obtain⟨b2,bk,_⟩:=ZGX s.fBans (by unfold maxLen;omega) okb;obtain⟨b4,hb4,kw⟩:=ZOF s.fPeers (by omega) okp;obtain⟨b7,hb7,kx⟩:=B s.fBook.length 0 1000000 (by omega) (by omega) (by omega);unfold ZhF;rw[bo,Zaw];cases b1 with
 |false=>exact⟨_,rfl,fun e=>by cases e⟩
 |true=>
  rw[Bool.not_true,cond_false,bk,Zaw];cases b2 with
  |false=>exact⟨_,rfl,fun e=>by cases e⟩
  |true=>
   rw[Bool.not_true,cond_false,ZwK _ (by unfold maxLen;omega) oke,Zaw];cases hb3:ZIP s.fBook with
   |false=>exact⟨_,rfl,fun e=>by cases e⟩
   |true=>
    rw[Bool.not_true,cond_false,hb4,Zaw];cases b4 with
    |false=>exact⟨_,rfl,fun e=>by cases e⟩
    |true=>
     rw[Bool.not_true,cond_false,ZiZ _ _ (by unfold maxLen;omega),Zaw,ZBU _ (by omega) (by omega),Zaw];cases decide (((s.fBans.length:Nat):Int)>c.fMaxBans)with
     |true=>exact⟨_,rfl,fun e=>by cases e⟩
     |false=>
      rw[cond_false];cases decide (((s.fBook.length:Nat):Int)>c.fMaxBook)with
      |true=>exact⟨_,rfl,fun e=>by cases e⟩
      |false=>
       rw[cond_false];cases decide (cntP s.fPeers true>c.fMaxIn)with
       |true=>exact⟨_,rfl,fun e=>by cases e⟩
       |false=>
        rw[cond_false];cases decide (cntP s.fPeers false+Zly s.fBook 2>c.fMaxOut)with
        |true=>exact⟨_,rfl,fun e=>by cases e⟩
        |false=>
         rw[cond_false];refine⟨b7,hb7,fun hb=>⟨bo,kw rfl,hb3,fun e F=>?_⟩⟩;obtain⟨j,o,rfl⟩:=List.getElem_of_mem F;have:=kx hb j (Nat.zero_le _) o;rwa [ZbH s.fBook _ j o]at this
theorem ZOl(s:ZaN):∃b,ZhQ s=some b/\(b=true->s.fBans.length<=20/\s.fBook.length<=20/\s.fPeers.length<=20):=by
 unfold ZhQ;rw[Zag,Zag];by_cases d:((s.fBans.length:Nat):Int)<=20
 .rw[if_pos d];by_cases g:((s.fBook.length:Nat):Int)<=20
  .rw[if_pos g];exact⟨_,rfl,fun h=>by rw[decide_eq_true_eq]at h;omega⟩
  .rw[if_neg g];exact⟨_,rfl,fun e=>by cases e⟩
 .rw[if_neg d];exact⟨_,rfl,fun e=>by cases e⟩
theorem ZdF{α:Type}{P:α->Prop}{c:Prop}[Decidable c]{a b:Option α}(d:c->∃r,a=some r/\P r)(e:¬c->∃r,b=some r/\P r):∃r,(if c then a else b)=some r/\P r:=by
 by_cases h:c
 .rw[if_pos h];exact d h
 .rw[if_neg h];exact e h
theorem ZjL{α:Type}(x y:Int)(a b:α):(bif(x==y)then a else b)=if x=y then a else b:=by
 by_cases h:x=y
 .rw[beq_iff_eq.2 h,if_pos h];rfl
 .rw[beq_eq_false_iff_ne.2 h,if_neg h];rfl
theorem Zlr{α:Type}(x y:Int)(a b:α):(bif(x != y)then a else b)=if x=y then b else a:=by
 by_cases h:x=y
 .rw[if_pos h,show (x != y)=false by rw[bne_eq_false_iff_eq];exact h];rfl
 .rw[if_neg h,show (x != y)=true by rw[bne_iff_ne];exact h];rfl
def GA(b:Nat)(o:Zat)(v:Zae):Prop:=v.ok/\v.fBans.length<=b/\v.fBook.length<=b/\(o.fLoc.fKind=5->v.fN<=(b:Int))
def GO(b:Nat)(o:Zat):Prop:=o.fVal.ok/\o.fVal.fBans.length<=b+1/\o.fVal.fBook.length<=b+1/\(o.fLoc.fKind=5->o.fVal.fN<=(b:Int)+1)/\okI .i64 o.fNew/\(o.fLoc.fKind=5->o.fKind=5\/o.fKind=6\/o.fKind=7)
theorem ZnS{n:Int}(d : -9223372036854775808<=n)(e:n<=9223372036854775807):okI .i64 n:=by
 simp only[okI,Lit.wf,IntKind.min,IntKind.max,IntKind.bits,IntKind.signed];simp;omega
theorem ZpY:ZkG.ok:=⟨⟨⟨trivial,rfl,rfl,trivial⟩,rfl,trivial⟩,trivial,rfl,⟨rfl,rfl,trivial⟩,rfl,rfl,trivial⟩
theorem ZwT:Zaa.d.ok:=ZpY
theorem ZPq:Zab.d.ok:=⟨⟨⟨trivial,rfl,rfl,trivial⟩,rfl,trivial⟩,rfl,rfl,rfl,trivial⟩
theorem nilL{α:Type}{ok:α->Prop}:okL ok ([]:List α):=⟨by simp[maxLen],fun a h=>by cases h⟩
theorem ZNG{l:List Zac}(h:∀x∈l,x.ok)(hl:l.length<=1000000):Zae.ok ⟨0,ZkG,l,[]⟩:=⟨rfl,ZpY,⟨by show l.length<=_;unfold maxLen;omega,h⟩,nilL,trivial⟩
theorem ZNF{l:List Zab}(h:∀x∈l,x.ok)(hl:l.length<=1000000):Zae.ok ⟨0,ZkG,[],l⟩:=⟨rfl,ZpY,nilL,⟨by show l.length<=_;unfold maxLen;omega,h⟩,trivial⟩
theorem ZEW{p:Zaa}(h:p.ok):Zae.ok ⟨0,p,[],[]⟩:=⟨rfl,h,nilL,nilL,trivial⟩
theorem v_n{n:Int}(h:okI .i64 n):Zae.ok ⟨n,ZkG,[],[]⟩:=⟨h,ZpY,nilL,nilL,trivial⟩
theorem ZlR:valZ.ok:=v_n rfl
theorem ZqJ{α:Type}{ok:α->Prop}{l:List α}{d:α}(h:∀x∈l,ok x)(e:ok d)(i:Nat):ok (l.getD i d):=by
 by_cases g:i<l.length
 .exact h _ (ZbU l d i g)
 .simp only[List.getD_eq_getElem?_getD,List.getElem?_eq_none (by omega:l.length<=i),Option.getD_none];exact e
theorem GA.up{b c:Nat}{o:Zat}{v:Zae}(h:GA b o v)(d:b<=c):GA c o v:=⟨h.1,by have:=h.2.1;omega,by have:=h.2.2.1;omega,fun e=>by have:=h.2.2.2 e;omega⟩
theorem ZOe{k:Int}{v:Zae}(h:v.ok):(valN k v).ok:=by
 unfold valN
 repeat' split
 .exact v_n h.1
 .exact⟨rfl,ZpY,h.2.2.1,nilL,trivial⟩
 .exact⟨rfl,ZpY,nilL,h.2.2.2.1,trivial⟩
 .exact ZEW h.2.1
 .exact ZlR
theorem ZLt(k:Int)(v:Zae):(valN k v).fBans.length<=v.fBans.length/\(valN k v).fBook.length<=v.fBook.length/\(k=5->(valN k v).fN=v.fN):=by
 unfold valN
 repeat' split
 .exact⟨Nat.zero_le _,Nat.zero_le _,fun _=>rfl⟩
 .exact⟨Nat.le_refl _,Nat.zero_le _,fun e=>by omega⟩
 .exact⟨Nat.zero_le _,Nat.le_refl _,fun e=>by omega⟩
 .exact⟨Nat.zero_le _,Nat.zero_le _,fun e=>by omega⟩
 .exact⟨Nat.zero_le _,Nat.zero_le _,fun e=>by omega⟩
theorem ZtQ(l:Zas):((locN l).fKind=5↔l.fKind=5):=by
 unfold locN
 repeat' split
 all_goals simp only[locZ]<;>omega
theorem ZJu(b:Nat):GO b opZ:=⟨ZlR,Nat.zero_le _,Nat.zero_le _,fun e=>(by cases e),rfl,fun e=>(by cases e)⟩
theorem GO.n{b:Nat}{o:Zat}(h:GO b o):GO b (opN o):=by
 obtain⟨g,i,j,r,t,d⟩:=h;obtain⟨u,v,y⟩:=ZLt o.fLoc.fKind o.fVal;unfold opN
 repeat' split
 .exact⟨ZlR,Nat.zero_le _,Nat.zero_le _,fun e=>(by cases e),rfl,fun e=>(by cases e)⟩
 .exact⟨ZlR,Nat.zero_le _,Nat.zero_le _,fun e=>(by show (0:Int)<=_;omega),rfl,fun e=>d ((ZtQ _).1 e)⟩
 .exact⟨ZOe g,Nat.le_trans u i,Nat.le_trans v j,fun e=>(by have e:=(ZtQ _).1 e;show (valN _ _).fN<=_;rw[y e];exact r e),rfl,fun e=>d ((ZtQ _).1 e)⟩
 .exact⟨ZlR,Nat.zero_le _,Nat.zero_le _,fun e=>(by show (0:Int)<=_;omega),t,fun e=>d ((ZtQ _).1 e)⟩
 .exact⟨ZlR,Nat.zero_le _,Nat.zero_le _,fun e=>(by cases e),rfl,fun e=>(by cases e)⟩
 .exact ZJu b
theorem GA.n{b:Nat}{o:Zat}{v:Zae}(h:GA b (opN o) v)(ho:GO b o):GA b o v:=by
 refine⟨h.1,h.2.1,h.2.2.1,fun e=>h.2.2.2 ?_⟩;have d:=ho.2.2.2.2.2 e;unfold opN;rw[iNa]
 repeat' split
 .exact(ZtQ _).2 e
 .exact(ZtQ _).2 e
 .exact(ZtQ _).2 e
 .omega
 .omega
theorem Zub{α:Type}(l:List α)(d:α)(i:Nat):l.getD i d∈l\/l.getD i d=d:=by
 by_cases e:i<l.length
 .exact .inl (ZbU l d i e)
 .right;simp only[List.getD_eq_getElem?_getD,List.getElem?_eq_none (by omega:l.length<=i),Option.getD_none]
def Pr.sf{α:Type}(b:Nat)(Q:α->Prop):Pr α->Prop | .ret x=>Q x | .ask o k=>GO b o/\∀v,GA b o v->(k v).sf b Q | .no=>True
section
variable {α β:Type} {b:Nat} {Q:α->Prop} {R:β->Prop} {p:Pr α} {f:α->Pr β}
theorem ZfP(h:p.sf b Q)(d:∀x,Q x->(f x).sf b R):(p.bind f).sf b R:=by
 induction p with
 |ret x=>exact d x h
 |ask o k ih=>exact⟨h.1,fun v e=>ih v (h.2 v e)⟩
 |no=>trivial
theorem ZIz{Q':α->Prop}(h:p.sf b Q)(d:∀x,Q x->Q' x):p.sf b Q':=by
 induction p with
 |ret x=>exact d x h
 |ask o k ih=>exact⟨h.1,fun v e=>ih v (h.2 v e)⟩
 |no=>trivial
theorem ZaD(h:p.sf b Q)(d:∀x,(f x).sf b R):(p.bind f).sf b R:=ZfP h fun x _=>d x
theorem Zfz{c:Prop}[Decidable c]{p q:Pr α}(d:c->p.sf b Q)(e:¬c->q.sf b Q):(if c then p else q).sf b Q:=by
 split
 .rename_i h;exact d h
 .rename_i h;exact e h
end
abbrev tt{α:Type}:α->Prop:=fun _=>True
section
variable {b:Nat}
theorem ZjT(l:Zas):(Zli l).sf b (GA b ⟨5,0,l,0,0,valZ,false⟩):=⟨⟨ZlR,by simp[valZ],by simp[valZ],fun _=>(by show (0:Int)<=_;omega),rfl,fun _=>.inl rfl⟩,fun v d=>d⟩
theorem Zcu(k l:Int)(m:Bool):(keyP k l m).sf b tt:=⟨⟨ZlR,by simp[valZ],by simp[valZ],fun _=>(by show (0:Int)<=_;omega),rfl,fun e=>(by cases e)⟩,fun _ _=>trivial⟩
theorem ZIw(k old ae:Int)(m:Bool)(d:okI .i64 ae):(ZLC k old ae m).sf b tt:=⟨⟨ZlR,by simp[valZ],by simp[valZ],fun _=>(by show (0:Int)<=_;omega),d,fun _=>.inr (.inr rfl)⟩,fun _ _=>trivial⟩
theorem ZqY{l:Zas}{v:Zae}{m:Bool}(d:v.ok)(e:v.fBans.length<=b+1)(g:v.fBook.length<=b+1)(i:l.fKind=5->v.fN<=(b:Int)+1):(Zlg l v m).sf b tt:=⟨⟨d,e,g,i,rfl,fun _=>.inr (.inl rfl)⟩,fun _ _=>trivial⟩
end
abbrev PsOk(b:Nat)(l:List Zaa):Prop:=(∀p∈l,p.ok)/\l.length<=b
section
variable {b:Nat} (hb:b<=100000)
theorem ZwA{l:Zas}{x:List Zac}{m:Bool}(h:∀y∈x,y.ok)(hl:x.length<=b+1)(hb:b<=100000)(d:l.fKind≠5):(Zlg l ⟨0,ZkG,x,[]⟩ m).sf b tt:=ZqY (ZNG h (by omega)) hl (by simp) (fun e=>absurd e d)
theorem ZDo{l:Zas}{x:List Zab}{m:Bool}(h:∀y∈x,y.ok)(hl:x.length<=b+1)(hb:b<=100000)(d:l.fKind≠5):(Zlg l ⟨0,ZkG,[],x⟩ m).sf b tt:=ZqY (ZNF h (by omega)) (by simp) hl (fun e=>absurd e d)
theorem ZFe(part:Int):∀(k i:Nat)(w:List Zaa),(∀p∈w,p.ok)->(Zqs part k i w).sf b fun l=>(∀p∈l,p.ok)/\l.length=w.length+k
 | 0,i,w,h=>⟨h,rfl⟩
 |k+1,i,w,h=>ZfP (ZjT _) fun v d=>ZIz (ZFe part k (i+1) (w++[v.fPeer]) fun p hp=>(by
   rcases List.mem_append.1 hp with hp|hp
   .exact h p hp
   .rw[List.mem_singleton.1 hp];exact d.1.2.1)) fun l hl=>⟨hl.1,by rw[hl.2];simp;omega⟩
theorem Ztj(n:Int):(ZsC n).sf b (PsOk b):=ZfP (ZjT _) fun v d=>ZIz (ZFe n _ 0 [] fun p e=>by cases e) fun l hl=>⟨hl.1,by have:=d.2.2.2 rfl;rw[hl.2];simp;omega⟩
theorem Zzq(part:Int)(ae:List Zaa)(h:∀p∈ae,p.ok):∀l:List Int,(ZrX part ae l).sf b tt
 | []=>trivial
 |i :: r=>ZaD (ZqY (ZEW (ZqJ h ZwT _)) (by simp) (by simp) (fun e=>by cases e)) fun _=>Zzq part ae h r
theorem Zww(n:Int)(was ae:List Zaa)(h:∀p∈ae,p.ok)(hl:ae.length<=b+1)(hb:b<=100000):(ZlQ n was ae).sf b tt:=
 ZaD (Zzq n ae h _) fun _=>Zfz (fun _=>trivial) fun _=>ZqY (v_n (ZnS (by omega) (by omega))) (by simp) (by simp) (fun _=>by show (ae.length:Int)<=_;omega)
theorem Zya(x y:Int):okI .i64 (Zau x y):=wf_wrap .i64 (x+y)
theorem Zph(k cg:Int)(m:Bool):∀n:Nat,(Zsg k cg m n).sf b tt
 | 0=>trivial
 |n+1=>ZaD (ZjT _) fun v=>ZaD (ZIw _ _ _ _ (Zya _ _)) fun c=>by
  cases c
  .exact Zph k cg m n
  .trivial
theorem ZrZ(most:Int)(m:Bool):∀n:Nat,(Zot most m n).sf b tt
 | 0=>trivial
 |n+1=>ZaD (ZjT _) fun v=>Zfz (fun _=>trivial) fun _=>ZaD (ZIw _ _ _ _ (Zya _ _)) fun c=>by
  cases c
  .exact ZrZ most m n
  .trivial
theorem ZFf:∀k i:Nat,(ZFM i k).sf b tt
 | 0,i=>trivial
 |k+1,i=>ZaD (Zcu _ _ _) fun _=>ZFf k (i+1)
theorem ZFh(m:Bool)(q:Nat):∀k:Nat,(ZBw m q k).sf b tt
 | 0=>trivial
 |k+1=>ZaD (Zcu _ _ _) fun _=>ZFh m q k
theorem ZpR(p:Int):(ZoB p).sf b tt:=ZFf _ _
theorem ZpS(p:Int)(m:Bool):(Zla p m).sf b tt:=ZFh _ _ _
theorem ZIE:∀(k i:Nat)(w:List Zaa),(∀p∈w,p.ok)->(ZCn k i w).sf b fun l=>∀p∈l,p.ok
 | 0,i,w,h=>h
 |k+1,i,w,h=>ZfP (Ztj _) fun x hx=>ZIE k (i+1) (w++x) fun p d=>(List.mem_append.1 d).elim (h p) (hx.1 p)
theorem ZsL:∀(k i:Nat)(w:List (List Zaa)),(∀l∈w,PsOk b l)->(Zve k i w).sf b fun a=>∀l∈a,PsOk b l
 | 0,i,w,h=>h
 |k+1,i,w,h=>ZfP (Ztj _) fun x hx=>ZsL k (i+1) (w++[x]) fun p d=>(List.mem_append.1 d).elim (h p) fun e=>by rw[List.mem_singleton.1 e];exact hx
end
theorem ZoU(a:Int):okI .i64 (fitI a):=by
 have:=ZiH a;exact ZnS (by omega) (by omega)
theorem ZJC{x:Zao}(hx:x.ok):(ZHj x).ok:=⟨hx.2.1,trivial,ZoU _,⟨rfl,ZoU _,trivial⟩,rfl,rfl,trivial⟩
theorem ZHL{x:Zao}(hx:x.ok):(ZKE x).ok:=⟨hx.2.1,trivial,ZoU _,⟨rfl,ZoU _,trivial⟩,rfl,rfl,trivial⟩
theorem ZMB{x:Zao}(hx:x.ok):(newE x).ok:=⟨hx.2.1,rfl,rfl,ZoU _,trivial⟩
theorem ZIq{e:Zab}(d:e.ok)(k:Int)(g:okI .i64 k):(stE e k).ok:=⟨d.1,g,d.2.2.1,d.2.2.2.1,trivial⟩
theorem ZKd{e:Zab}(d:e.ok):(ZPg e).ok:=⟨d.1,rfl,rfl,d.2.2.2.1,trivial⟩
theorem ZKD{e:Zab}(d:e.ok)(l:List Zah):(ZHK l e).ok:=by
 unfold ZHK;split
 .split
  .exact⟨d.1,rfl,d.2.2.1,d.2.2.2.1,trivial⟩
  .exact d
 .exact d
theorem ZJm{p:Zaa}(d:p.ok){n:Int}(e:okI .i64 n):(ZDA p n).ok:=by
 unfold ZDA ZlX;simp only[Zag,Zdn]
 repeat' split
 all_goals first|exact d|exact⟨d.1,d.2.1,d.2.2.1,d.2.2.2.1,e,d.2.2.2.2.2.1,trivial⟩
theorem ZIg{p:Zaa}(d:p.ok)(n:Int):(ZGE p n).ok:=by
 unfold ZGE Zkr;rw[Zlh,Zaw];refine⟨d.1,d.2.1,d.2.2.1,d.2.2.2.1,d.2.2.2.2.1,?_,trivial⟩;show okI .i64 (if fitI n>p.fWork then fitI n else p.fWork);split
 .exact ZoU _
 .exact d.2.2.2.2.2.1
theorem ZNf(s:Zan)(h ae:Int):okI .i64 (decS s h ae).fAt:=by
 have d:=ZiH s.fAt;have g:=ZiH ae;have i:Zrs s h ae*(ZnJ h).toNat<=(fitI ae-fitI s.fAt).toNat:=Nat.div_mul_le_self _ _;have e:(decS s h ae).fAt=fitI s.fAt+((Zrs s h ae*(ZnJ h).toNat:Nat):Int):=rfl;rw[e];exact ZnS (by omega) (by omega)
theorem Zvh{p:Zaa}(d:p.ok)(c:Zaq)(x:Zao):(Zle c x p).ok:=⟨d.1,d.2.1,d.2.2.1,⟨ZoU _,ZNf _ _ _,trivial⟩,d.2.2.2.2.1,d.2.2.2.2.2.1,trivial⟩
theorem ZKm{e:Zab}(i:e.ok)(c:Zaq)(ae r:Int):(ZuV c e ae r).ok:=by
 have h:=(ZKl c e ae r).1;unfold Zkf at h;obtain⟨t,d,h⟩:=Zbj h;have j:=Option.some.inj h;unfold ZkZ at d;obtain⟨x1,_,d⟩:=Zbj d;obtain⟨x2,_,d⟩:=Zbj d;obtain⟨x3,_,d⟩:=Zbj d;obtain⟨x4,g,d⟩:=Zbj d;have o:=Option.some.inj d;rw[(Ztl _ _).1]at g;have u:=Option.some.inj g;rw[<-j];refine⟨i.1,rfl,Zya _ _,?_,trivial⟩;show okI .i64 t;rw[<-o,<-u];exact ZEK _ _
theorem ZJM{x b:Zac}(hx:x.ok)(hb:b.ok):(ZMM x b).ok:=by
 refine⟨hx.1,?_,trivial⟩;unfold ZMM;show okI .i64 (if b.fUntil>x.fUntil then b.fUntil else x.fUntil);split
 .exact hb.2.1
 .exact hx.2.1
theorem ZGy{l:List Zac}(h:∀b∈l,b.ok){b:Zac}(hb:b.ok)(most:Int):∀y∈(addB l b most).1,y.ok:=by
 unfold addB;split
 .split
  .rename_i d;obtain⟨e,_⟩:=ZDV l b.fNet d;intro y hy;rcases List.mem_or_eq_of_mem_set hy with h2|h2
   .exact h y h2
   .rw[h2];exact ZJM (h _ (ZbU l _ _ e)) hb
  .split
   .intro y hy;cases hy
   .intro y hy;simp only[putB,List.mem_append,List.mem_singleton]at hy;rcases hy with (hy|hy)|hy
    .exact h y ((List.takeWhile_sublist _).mem hy)
    .rw[hy];exact hb
    .exact h y ((List.dropWhile_sublist _).mem hy)
 .intro y hy;cases hy
theorem ZKB{l:List Zac}(h:∀b∈l,b.ok)(n:Zav):∀y∈(ZrK l n).1,y.ok:=by
 unfold ZrK;split
 .intro y d;cases d
 .intro y d;rcases List.mem_append.1 d with h1|h1
  .exact h y (List.mem_of_mem_take h1)
  .exact h y (List.mem_of_mem_drop h1)
theorem ZNr{l:List Zab}(h:∀b∈l,b.ok){b:Zab}(hb:b.ok)(most:Int):∀y∈(addS l b most).1,y.ok:=by
 unfold addS;split
 .split
  .intro y hy;cases hy
  .split
   .intro y hy;cases hy
   .intro y hy;simp only[putS,List.mem_append,List.mem_singleton]at hy;rcases hy with (hy|hy)|hy
    .exact h y ((List.takeWhile_sublist _).mem hy)
    .rw[hy];exact hb
    .exact h y ((List.dropWhile_sublist _).mem hy)
 .intro y hy;cases hy
theorem Zpl{l:List Zaa}(h:∀p∈l,p.ok)(e:List Zah):(∀p∈Zqm l e,p.ok)/\(Zqm l e).length<=l.length:=⟨fun p d=>h p (List.mem_filter.1 d).1,List.length_filter_le ..⟩
theorem ZOS{l:List Zaa}(h:∀p∈l,p.ok)(n:Zav)(t:Bool):(∀p∈ofP l n t,p.ok)/\(ofP l n t).length<=l.length:=⟨fun p d=>h p (List.mem_filter.1 d).1,List.length_filter_le ..⟩
theorem ZKZ{x:Zao}(hx:x.ok)(c:Zaq):(ZiX c x).ok:=⟨ZsX _ hx.2.1.1,ZEK _ _,trivial⟩
section
variable {b:Nat} {c:Zaq} {x:Zao} (hb:b<=100000) (hx:x.ok)
include hb
theorem Ztk(n:Int)(e:Zah):(ZwY n e).sf b fun r=>PsOk b r.1:=ZaD (Zcu _ _ _) fun _=>ZfP (Ztj n) fun l hl=>hl
theorem Zwx(n:Int):(ZzU n).sf b tt:=ZaD (Zcu _ _ _) fun _=>trivial
theorem ZGs{r:List Zaa×Int}(h:PsOk b r.1):(atP r).ok:=ZqJ h.1 ZwT _
theorem Zwz(n i:Int){p:Zaa}(h:p.ok):(ZHr n i p).sf b tt:=ZqY (ZEW h) (by simp) (by simp) (fun e=>by cases e)
theorem ZIC(ap:List Zah):(ZKC ap).sf b tt:=ZfP (ZjT _) fun v d=>ZDo (fun y g=>by
  obtain⟨e,i,rfl⟩:=List.mem_map.1 g
  exact ZKD (d.1.2.2.2.1.2 e i) _) (by have:=d.2.2.1;simp;omega) hb (by decide)
theorem ZLR(ap:List Zaa):(ZNl ap).sf b tt:=Zfz (fun _=>ZaD (ZIC hb _) fun _=>Zph _ _ _ _) fun _=>trivial
theorem ZFj(ap:List Zaa):(ZHT ap).sf b tt:=ZaD (Zfz (fun _=>Zph _ _ _ _) fun _=>trivial) fun _=>ZLR hb _
theorem ZIv(n:Int){l ae:List Zaa}(h:(∀p∈ae,p.ok)/\ae.length<=l.length)(hl:PsOk b l):(ZlQ n l ae).sf b tt:=Zww n l ae h.1 (by have:=h.2;have:=hl.2;omega) hb
theorem ZOv(n:Int){l ap:List Zaa}(h:PsOk b l):(ZxV n l ap).sf b tt:=ZaD (ZIv hb n (Zpl h.1 _) h) fun _=>ZFj hb _
theorem Zos:ZmQ.sf b tt:=ZaD (Zcu _ _ _) fun _=>trivial
theorem ZLK(n:Int)(e:Zah):(ZzN n e).sf b tt:=ZfP (Ztk hb n e) fun r d=>Zfz (fun _=>Zwx hb n) fun _=>
 ZaD (ZIv hb n (Zpl d.1 _) d) fun _=>ZaD (Zfz (fun _=>Zph _ _ _ _) fun _=>ZaD (ZIC hb _) fun _=>Zph _ _ _ _) fun _=>ZaD (Zcu _ _ _) fun _=>trivial
theorem ZLL(n:Int)(e:Zah):(ZJL n e).sf b tt:=ZfP (Ztk hb n e) fun r d=>Zfz (fun _=>Zwx hb n) fun _=>Zfz
 (fun _=>ZaD (ZIv hb n (Zpl d.1 _) d) fun _=>ZaD (Zph _ _ _ _) fun _=>ZaD (Zcu _ _ _) fun _=>trivial)
 fun _=>ZaD (Zcu _ _ _) fun _=>ZaD (Zcu _ _ _) fun _=>ZaD (ZLK hb n e) fun _=>ZaD (Zcu _ _ _) fun _=>trivial
include hx
theorem ZOp(n:Int):(ZOT n x).sf b tt:=ZfP (Ztk hb n _) fun r d=>Zfz (fun _=>Zwx hb n) fun _=>Zfz
 (fun _=>ZaD (Zwz hb _ _ (ZJm (ZGs hb d) hx.2.2.2.2.1)) fun _=>ZaD (Zcu _ _ _) fun _=>trivial)
 fun _=>ZaD (Zwz hb _ _ (ZIg (ZGs hb d) _)) fun _=>ZaD (Zcu _ _ _) fun _=>trivial
theorem ZLQ:(ZCk c x).sf b tt:=ZfP (ZjT _) fun v d=>Zfz (fun _=>ZaD (ZwA (ZGy d.1.2.2.1.2 (ZKZ hx c) _) (by have:=Ztc v.fBans (ZiX c x) c.fMaxBans;have:=d.2.1;omega) hb (by decide)) fun _=>trivial) fun _=>trivial
theorem ZIy(n:Int):(Ztz n c x).sf b tt:=ZfP (Ztk hb n _) fun r d=>Zfz (fun _=>trivial) fun _=>Zfz
 (fun _=>ZaD (ZLQ hb hx) fun _=>ZaD (ZOv hb n d) fun _=>trivial) fun _=>ZaD (Zwz hb _ _ (Zvh (ZGs hb d) c x)) fun _=>trivial
theorem ZLO(n:Int):(ZKW n c x).sf b tt:=ZfP (Ztk hb n _) fun r d=>Zfz (fun _=>Zwx hb n) fun _=>Zfz
 (fun _=>ZaD (Zcu _ _ _) fun _=>ZaD (Zcu _ _ _) fun _=>ZaD (Zcu _ _ _) fun _=>ZaD (ZIy hb hx n) fun _=>ZaD (Zcu _ _ _) fun _=>ZaD (Zcu _ _ _) fun _=>ZaD (Zcu _ _ _) fun _=>trivial)
 fun _=>ZaD (Zwz hb _ _ (Zvh (ZGs hb d) c x)) fun _=>ZaD (Zcu _ _ _) fun _=>trivial
theorem ZIA:(ZvK c x).sf b tt:=Zfz (fun _=>Zfz (fun _=>ZLL hb _ _) fun _=>Zfz (fun _=>ZLO hb hx _) fun _=>Zfz (fun _=>ZOp hb hx _) fun _=>Zos hb) fun _=>Zos hb
omit hx in
theorem Zwy{l:List Zab}{e:Zab}(h:∀y∈l,y.ok)(hl:l.length<=b)(d:e.ok):(ZAc l e).sf b tt:=ZDo (ZOx h d) (by rw[ZFl];omega) hb (by decide)
omit hx in
theorem ZFg{l:List Zab}{e:Zab}(h:∀y∈l,y.ok)(hl:l.length<=b)(d:e.ok):(ZAa l e).sf b tt:=ZaD (Zwy hb h hl d) fun _=>Zph _ _ _ _
omit hx in
theorem ZFi{l:List Zab}{e:Zab}(h:∀y∈l,y.ok)(hl:l.length<=b)(d:e.ok)(k:Int):(ZBz c x l e k).sf b tt:=ZaD (ZFg hb h hl (ZKm d c _ _)) fun _=>trivial
omit hx in
theorem ZOo(n:Nat):(ZOy n).sf b fun v=>(∀y∈v.fBook,y.ok)/\v.fBook.length<=b:=ZaD (ZjT _) fun _=>ZfP (ZjT _) fun v d=>ZaD (ZIE _ _ [] fun p e=>by cases e) fun _=>⟨d.1.2.2.2.1.2,d.2.2.1⟩
omit hx in
theorem ZKA{l:List Zab}(h:∀y∈l,y.ok)(e:Zah):(entA l e).ok:=ZqJ h ZPq _
omit hx in
theorem ZLJ:(ZJo c x).sf b tt:=ZfP (ZOo hb _) fun v d=>ZaD (ZjT _) fun o=>Zfz (fun _=>trivial) fun _=>Zfz
 (fun _=>ZaD (Zph _ _ _ _) fun _=>ZaD (Zwy hb d.1 d.2 (ZIq (ZKA hb d.1 _) _ rfl)) fun _=>trivial) fun _=>trivial
omit hx in
theorem ZOt(r:Zai×Bool):(ZNc c r).sf b tt:=ZaD (ZpS _ _) fun _=>ZaD (Zcu _ _ _) fun _=>ZaD (Zcu _ _ _) fun _=>trivial
omit hx in
theorem ZOu:(ZNd c x).sf b tt:=ZaD (Zcu _ _ _) fun _=>ZaD (Zcu _ _ _) fun _=>ZaD (ZpR _) fun _=>ZaD (ZLJ hb) fun r=>ZOt hb r
theorem ZOr(n:Int){l:List Zab}{e:Zab}(h:∀y∈l,y.ok)(hl:l.length<=b)(d:e.ok):(ZMX n x l e).sf b tt:=ZfP (Ztj n) fun ps g=>Zfz (fun _=>ZaD (ZFg hb h hl (ZIq d _ rfl)) fun _=>trivial) fun _=>
 ZaD (Zwy hb h hl (ZKd d)) fun _=>ZaD (Zww n _ _ (fun p i=>(List.mem_append.1 i).elim (g.1 p) fun e=>by rw[List.mem_singleton.1 e];exact ZJC hx) (by have:=g.2;simp;omega) hb) fun _=>trivial
theorem ZOs(n:Int){l:List Zab}{e:Zab}(h:∀y∈l,y.ok)(hl:l.length<=b)(d:e.ok):(ZKi n c x l e).sf b tt:=Zfz (fun _=>ZaD (ZjT _) fun _=>Zfz (fun _=>ZFi hb h hl d _) fun _=>ZOr hb hx n h hl d) fun _=>ZFi hb h hl d _
theorem ZPS(n:Int):(resP n c x).sf b tt:=ZfP (ZjT _) fun v d=>Zfz (fun _=>trivial) fun _=>Zfz (fun _=>ZOs hb hx n d.1.2.2.2.1.2 d.2.2.1 (ZKA hb d.1.2.2.2.1.2 _)) fun _=>trivial
omit hx in
theorem ZIB(n:Int)(r:Zai×Bool):(ZFZ n r).sf b tt:=ZaD (Zcu _ _ _) fun _=>ZaD (Zcu _ _ _) fun _=>ZaD (Zcu _ _ _) fun _=>trivial
theorem ZIx:(ZwE c x).sf b tt:=ZaD (Zcu _ _ _) fun _=>ZaD (Zcu _ _ _) fun _=>ZaD (Zcu _ _ _) fun _=>ZaD (ZPS hb hx _) fun r=>ZIB hb _ r
theorem ZLM:(ZFS c x).sf b tt:=ZaD (Zcu _ _ _) fun _=>ZfP (ZjT _) fun v d=>Zfz
 (fun _=>ZaD (ZDo (ZNr d.1.2.2.2.1.2 (ZMB hx) _) (by have:=ZGx v.fBook (newE x) c.fMaxBook;have:=d.2.2.1;omega) hb (by decide)) fun _=>ZaD (Zcu _ _ _) fun _=>trivial) fun _=>ZaD (Zcu _ _ _) fun _=>trivial
theorem ZLH:(ZGT c x).sf b tt:=Zfz (fun _=>Zfz (fun _=>ZOu hb) fun _=>Zfz (fun _=>ZIx hb hx) fun _=>Zfz (fun _=>ZLM hb hx) fun _=>Zos hb) fun _=>Zos hb
theorem ZEU{l:List Zaa}(h:PsOk b l):(∀p∈Zth x l,p.ok)/\(Zth x l).length<=b+1:=⟨fun p d=>(List.mem_append.1 d).elim (h.1 p) fun e=>by rw[List.mem_singleton.1 e];exact ZHL hx,by have:=h.2;simp[Zth];omega⟩
theorem ZDn(n:Int){l:List Zaa}(h:PsOk b l):(ZlQ n l (Zth x l)).sf b tt:=Zww n _ _ (ZEU hb hx h).1 (ZEU hb hx h).2 hb
theorem ZLI:(ZzL c x).sf b tt:=ZaD (Zcu _ _ _) fun _=>ZfP (Ztj _) fun l hl=>Zfz (fun _=>ZaD (Zcu _ _ _) fun _=>trivial) fun _=>ZaD (ZrZ _ _ _) fun r=>Zfz
 (fun _=>ZaD (ZDn hb hx _ hl) fun _=>ZaD (Zcu _ _ _) fun _=>trivial) fun _=>ZaD (Zcu _ _ _) fun _=>trivial
omit hx in
theorem Zpr{all:List (List Zaa)}(h:∀l∈all,PsOk b l)(i:Int):PsOk b (ZmU all i):=ZqJ h ⟨fun p d=>(by cases d),Nat.zero_le _⟩ _
omit hx in
theorem ZHA{all:List (List Zaa)}(h:∀l∈all,PsOk b l)(e:Zah):∀l∈ZrB all e,PsOk b l:=fun l hl=>by
 rcases List.mem_or_eq_of_mem_set hl with h1|h1
 .exact h l h1
 .have d:=Zpr hb h (ZmR all e)
  have g:=Zpl d.1 [e]
  rw[h1]
  exact⟨g.1,by have:=g.2;have:=d.2;omega⟩
theorem ZGO{all:List (List Zaa)}(h:∀l∈all,PsOk b l):(ZsK c x all).sf b tt:=Zfz (fun _=>trivial) fun _=>ZaD (ZrZ _ _ _) fun r=>Zfz
 (fun _=>ZaD (ZDn hb hx _ (Zpr hb h _)) fun _=>trivial) fun _=>Zfz (fun _=>ZaD (ZIv hb _ (Zpl (Zpr hb h _).1 _) (Zpr hb h _)) fun _=>ZaD (ZDn hb hx _ (Zpr hb (ZHA hb h _) _)) fun _=>trivial) fun _=>trivial
theorem ZOn:(ZDi c x).sf b tt:=ZaD (ZpR _) fun _=>ZfP (ZsL _ _ [] fun l hl=>by cases hl) fun all h=>ZaD (ZGO hb hx h) fun q=>ZaD (ZpS _ _) fun _=>trivial
theorem ZIF:(Zwq c x).sf b tt:=Zfz (fun _=>ZaD (Zcu _ _ _) fun _=>ZaD (ZjT _) fun v=>Zfz (fun _=>ZaD (Zcu _ _ _) fun _=>trivial) fun _=>ZaD (ZLI hb hx) fun q=>Zfz
 (fun _=>ZaD (Zcu _ _ _) fun _=>trivial) fun _=>ZaD (ZOn hb hx) fun _=>ZaD (Zcu _ _ _) fun _=>trivial) fun _=>Zos hb
omit hx in
theorem ZqZ:ZtR.sf b fun l=>(∀y∈l,y.ok)/\l.length<=b:=ZfP (ZjT _) fun v d=>⟨d.1.2.2.1.2,d.2.1⟩
omit hx in
theorem ZLF:(ZEX x).sf b tt:=ZaD (Zcu _ _ _) fun _=>ZfP (ZqZ hb) fun l hl=>Zfz
 (fun _=>ZaD (ZwA (ZKB hl.1 _) (by have:=ZBT l x.fNet;have:=hl.2;omega) hb (by decide)) fun _=>ZaD (Zcu _ _ _) fun _=>trivial) fun _=>ZaD (Zcu _ _ _) fun _=>trivial
omit hx in
theorem ZID:(ZxU x).sf b tt:=ZaD (Zcu _ _ _) fun _=>ZaD (ZqZ hb) fun l=>ZaD (Zcu _ _ _) fun _=>trivial
omit hx in
theorem ZOm:(ZLz x).sf b tt:=ZaD (Zcu _ _ _) fun _=>ZfP (ZqZ hb) fun l hl=>Zfz
 (fun _=>ZaD (ZwA (fun y d=>hl.1 y (List.mem_filter.1 d).1) (by have:=Zvk l x.fNow;have:=hl.2;omega) hb (by decide)) fun _=>ZaD (Zcu _ _ _) fun _=>trivial) fun _=>ZaD (Zcu _ _ _) fun _=>trivial
omit hx in
theorem ZOq:(ZMJ c).sf b tt:=ZaD (Zcu _ _ _) fun _=>ZaD (Zcu _ _ _) fun _=>ZaD (ZpR _) fun _=>ZaD (ZqZ hb) fun _=>ZaD (ZjT _) fun v=>ZaD (ZsL _ _ [] fun l hl=>by cases hl) fun all=>
 ZaD (ZpS _ _) fun _=>ZaD (Zcu _ _ _) fun _=>ZaD (Zcu _ _ _) fun _=>trivial
omit hx in
theorem ZFd(n:Zav):∀(l:List (List Zaa))(i:Nat),(∀r∈l,PsOk b r)->(ZGD n i l).sf b tt
 | [],i,h=>trivial
 |was :: r,i,h=>ZaD (Zfz (fun _=>ZIv hb _ (ZOS (h was List.mem_cons_self).1 _ _) (h was List.mem_cons_self)) fun _=>trivial) fun _=>ZFd n r (i+1) fun q d=>h q (List.mem_cons_of_mem _ d)
theorem ZLP:(ZPz c x).sf b tt:=ZfP (ZqZ hb) fun l hl=>Zfz (fun _=>ZfP (ZsL _ _ [] fun l hl=>by cases hl) fun all ha=>
 ZaD (ZwA (ZGy hl.1 (b:=⟨x.fNet,x.fNum⟩) ⟨hx.2.2.1,hx.2.2.2.2.1,trivial⟩ _) (by have:=Ztc l ⟨x.fNet,x.fNum⟩ c.fMaxBans;have:=hl.2;omega) hb (by decide)) fun _=>ZaD (ZFd hb _ all 0 ha) fun _=>ZaD (ZFj hb _) fun _=>trivial) fun _=>trivial
theorem ZPT:(banP c x).sf b tt:=Zfz (fun _=>ZaD (Zcu _ _ _) fun _=>trivial) fun _=>ZaD (Zcu _ _ _) fun _=>ZaD (Zcu _ _ _) fun _=>ZaD (ZpR _) fun _=>ZaD (ZLP hb hx) fun r=>
 ZaD (ZpS _ _) fun _=>ZaD (Zcu _ _ _) fun _=>ZaD (Zcu _ _ _) fun _=>trivial
theorem ZLG:(ZGQ c x).sf b tt:=Zfz (fun _=>Zfz (fun _=>ZPT hb hx) fun _=>Zfz (fun _=>ZLF hb) fun _=>Zfz (fun _=>ZID hb) fun _=>Zfz (fun _=>ZOm hb) fun _=>Zfz (fun _=>ZOq hb) fun _=>Zos hb) fun _=>Zos hb
def _root_.Go.Proofs.YtnigiacmmedkhaaGreat.callC(c:Zaq)(x:Zao):Pr Zai:=if x.fKind=1 then Zwq c x else if x.fKind=3\/x.fKind=4\/x.fKind=13 then ZGT c x else if x.fKind=6\/x.fKind=7\/x.fKind=8\/x.fKind=9\/x.fKind=10 then ZGQ c x else ZvK c x
theorem ZLN:(callC c x).sf b tt:=Zfz (fun _=>ZIF hb hx) fun _=>Zfz (fun _=>ZLH hb hx) fun _=>Zfz (fun _=>ZLG hb hx) fun _=>ZIA hb hx
end
structure ShOk (b:Nat) (s:Zam):Prop where
 size:okI .i64 s.fSize
 most:s.fSize<=(b:Int)
 slots:∀p∈s.fSlots,p.ok
 few:s.fSlots.length<=b
structure MI (n b:Nat) (m:ZaW):Prop where
 inn:okI .i64 m.fIn
 out:okI .i64 m.fOut
 bans:∀x∈m.fBans,x.ok
 nbans:m.fBans.length<=b
 book:∀x∈m.fBook,x.ok
 nbook:m.fBook.length<=b
 nsh:m.fShards.length=n
 sh:∀s∈m.fShards,ShOk b s
 nlk:m.fLocks.length=n+2
 lk:∀k∈m.fLocks,k.fShare.length<=b
theorem ShOk.up{b c:Nat}(hbc:b<=c){s:Zam}(h:ShOk b s):ShOk c s:=⟨h.size,by have:=h.most;omega,h.slots,by have:=h.few;omega⟩
theorem MI.up{n b c:Nat}(hbc:b<=c){m:ZaW}(h:MI n b m):MI n c m:=
 ⟨h.inn,h.out,h.bans,by have:=h.nbans;omega,h.book,by have:=h.nbook;omega,h.nsh,fun s hs=>(h.sh s hs).up hbc,h.nlk,fun k d=>by have:=h.lk k d;omega⟩
theorem ZNH{b:Nat}:ShOk b Zam.d:=⟨rfl,by show (0:Int)<=_;omega,fun p e=>(by cases e),Nat.zero_le _⟩
section
variable {n b:Nat} {m:ZaW} (h:MI n b m) (hb:b<=100000) (bV:1<=n) (bW:n<=8)
include h hb bV bW
theorem ZFN(k:Int):∃l,Zgu m k=some l/\l.fShare.length<=b:=by
 have hl:=h.nlk;unfold Zgu;rw[Zag,Zag];by_cases d:k<0
 .rw[if_pos d];exact⟨_,rfl,Nat.zero_le _⟩
 rw[if_neg d];by_cases e:k>=(m.fLocks.length:Int)
 .rw[if_pos e];exact⟨_,rfl,Nat.zero_le _⟩
 rw[if_neg e,Zap (by omega)];exact⟨_,rfl,h.lk _ (ZbU _ _ _ (by omega))⟩
theorem ZJn(l:Zas):∃r,ZfX l (n:Int)=some r/\(r=true->1<=l.fKind/\l.fKind<=6/\(5<=l.fKind->0<=l.fShard/\l.fShard<(n:Int))/\(6<=l.fKind->0<=l.fSlot)):=by
 unfold ZfX;simp only[Zag]
 repeat' refine ZdF (fun _=>?_) (fun _=>?_)
 all_goals refine⟨_,rfl,fun e=>?_⟩
 all_goals first
  |exact absurd e (by decide)
  | (rw[decide_eq_true_iff]at e;omega)
  |omega
theorem ZIO(o:Zat):∃r,ZhD o (n:Int)=some r/\(r=true->(o.fKind=5\/o.fKind=6->1<=o.fLoc.fKind/\o.fLoc.fKind<=6/\(5<=o.fLoc.fKind->0<=o.fLoc.fShard/\o.fLoc.fShard<(n:Int))/\(6<=o.fLoc.fKind->0<=o.fLoc.fSlot))/\(o.fKind=6->2<o.fLoc.fKind)):=by
 obtain⟨p,j,a4⟩:=ZJn h hb bV bW o.fLoc;have g:∀v:Bool,(v=true->o.fKind=2\/o.fKind=4)->∃r,ZeG (n:Int) o.fKind o v=some r/\(r=true->(o.fKind=5\/o.fKind=6->1<=o.fLoc.fKind/\o.fLoc.fKind<=6/\(5<=o.fLoc.fKind->0<=o.fLoc.fShard/\o.fLoc.fShard<(n:Int))/\(6<=o.fLoc.fKind->0<=o.fLoc.fSlot))/\(o.fKind=6->2<o.fLoc.fKind)):=fun v d=>by
  unfold ZeG;cases v with
  |true=>
   have:=d rfl;exact⟨_,rfl,fun _=>⟨fun e=>by omega,fun e=>by omega⟩⟩
  |false=>
   simp only[cond_false,ZjL,j,Option.bind_some];refine ZdF (fun t=>?_) (fun t=>?_)
   .exact⟨p,rfl,fun e=>⟨fun _=>a4 e,fun e=>by omega⟩⟩
   refine ZdF (fun u=>?_) (fun u=>?_)
   .cases p with
    |false=>exact⟨false,rfl,fun e=>by cases e⟩
    |true=>exact⟨_,rfl,fun e=>⟨fun _=>a4 rfl,fun _=>by rw[decide_eq_true_iff]at e;omega⟩⟩
   repeat' refine ZdF (fun _=>?_) (fun _=>?_)
   all_goals exact⟨_,rfl,fun _=>⟨fun e=>by omega,fun e=>by omega⟩⟩
 have i:∀v:Bool,(v=true->o.fKind=1\/o.fKind=3)->∃r,ZeH (n:Int) o.fKind v o=some r/\(r=true->(o.fKind=5\/o.fKind=6->1<=o.fLoc.fKind/\o.fLoc.fKind<=6/\(5<=o.fLoc.fKind->0<=o.fLoc.fShard/\o.fLoc.fShard<(n:Int))/\(6<=o.fLoc.fKind->0<=o.fLoc.fSlot))/\(o.fKind=6->2<o.fLoc.fKind)):=fun v d=>by
  unfold ZeH;cases v with
  |true=>
   have:=d rfl;simp only[cond_true,Zag];refine ZdF (fun _=>?_) (fun _=>?_)
   all_goals exact⟨_,rfl,fun _=>⟨fun e=>by omega,fun e=>by omega⟩⟩
  |false=>
   simp only[cond_false,ZjL];refine ZdF (fun e=>?_) (fun e=>?_)
   .exact g _ (fun e=>by rw[beq_iff_eq]at e;omega)
   .exact g _ (fun e=>by rw[beq_iff_eq]at e;omega)
 unfold ZhD;simp only[Zag,ZjL];refine ZdF (fun e=>?_) (fun e=>?_)
 .omega
 refine ZdF (fun e=>?_) (fun e=>?_)
 .omega
 refine ZdF (fun e=>?_) (fun e=>?_)
 .exact i _ (fun e=>by rw[beq_iff_eq]at e;omega)
 .exact i _ (fun e=>by rw[beq_iff_eq]at e;omega)
theorem ZJF(o:Zat):∃r,Zhc m o=some r/\(r=true->(o.fKind=5\/o.fKind=6->1<=o.fLoc.fKind/\o.fLoc.fKind<=6/\(5<=o.fLoc.fKind->0<=o.fLoc.fShard/\o.fLoc.fShard<(n:Int))/\(6<=o.fLoc.fKind->0<=o.fLoc.fSlot))/\(o.fKind=6->2<o.fLoc.fKind)):=by
 obtain⟨r,d,g⟩:=ZIO h hb bV bW o;obtain⟨l,i,_⟩:=ZFN h hb bV bW o.fLock;unfold Zhc;rw[h.nsh,d,Option.bind_some];cases r with
 |false=>exact⟨_,rfl,fun e=>by cases e⟩
 |true=>
  rw[Bool.not_true,cond_false,i,Option.bind_some];simp only[Zlr,ZjL]
  repeat' refine ZdF (fun _=>?_) (fun _=>?_)
  all_goals exact⟨_,rfl,fun _=>g rfl⟩
theorem ZLr(k:Int)(l:Zay)(hl:l.fShare.length<=b+1):∃m',ZcQ m k l=some m'/\MI n (b+1) m':=by
 have hlk:=h.nlk;have d:=h.up (Nat.le_succ b);unfold ZcQ;rw[Zag,Zag];by_cases g:k>=0
 .rw[if_pos g];by_cases i:k<(m.fLocks.length:Int)
  .rw[if_pos i,Zap (by simp only[List.nil_append,maxLen];omega),Zap (by simp only[List.nil_append];omega)];refine⟨_,rfl,⟨h.inn,h.out,h.bans,d.nbans,h.book,d.nbook,h.nsh,d.sh,?_,fun k' hk'=>?_⟩⟩
   .show (([]++m.fLocks).set k.toNat l).length=n+2;rw[List.length_set,List.nil_append];exact hlk
   .rcases List.mem_or_eq_of_mem_set hk' with e|e
    .exact d.lk _ e
    .rw[e];exact hl
  .rw[if_neg i];exact⟨_,rfl,d⟩
 .rw[if_neg g];exact⟨_,rfl,d⟩
theorem ZMI(l:Zas)(hl:1<=l.fKind/\l.fKind<=6/\(5<=l.fKind->0<=l.fShard/\l.fShard<(n:Int))/\(6<=l.fKind->0<=l.fSlot)):∃v,Zit m l=some v/\v.ok/\v.fBans.length<=b/\v.fBook.length<=b/\(l.fKind=5->v.fN<=(b:Int)):=by
 obtain⟨l1,l2,l3,l4⟩:=hl;have g:=h.nbans;have i:=h.nbook;have j:=h.nsh;unfold Zit;simp only[ZjL,Zag];refine ZdF (fun e=>?_) (fun o=>?_)
 .exact⟨_,rfl,v_n h.inn,Nat.zero_le _,Nat.zero_le _,fun e=>by omega⟩
 refine ZdF (fun e=>?_) (fun r=>?_)
 .exact⟨_,rfl,v_n h.out,Nat.zero_le _,Nat.zero_le _,fun e=>by omega⟩
 refine ZdF (fun e=>?_) (fun t=>?_)
 .exact⟨_,rfl,ZNG h.bans (by omega),g,Nat.zero_le _,fun e=>by omega⟩
 refine ZdF (fun e=>?_) (fun u=>?_)
 .exact⟨_,rfl,ZNF h.book (by omega),Nat.zero_le _,i,fun e=>by omega⟩
 have hs:ShOk b (m.fShards.getD l.fShard.toNat Zam.d):=ZqJ h.sh ZNH _;refine ZdF (fun e=>?_) (fun y=>?_)
 .rw[Zap (by omega)];exact⟨_,rfl,v_n hs.size,Nat.zero_le _,Nat.zero_le _,fun _=>hs.most⟩
 .rw[Zap (by omega)];refine ZdF (fun e=>?_) (fun e=>?_)
  .rw[Zap (by omega)];exact⟨_,rfl,ZEW (ZqJ hs.slots ZwT _),Nat.zero_le _,Nat.zero_le _,fun e=>by omega⟩
  .exact⟨_,rfl,ZlR,Nat.zero_le _,Nat.zero_le _,fun e=>by omega⟩
theorem ZIo(l:Zas)(v:Zae)(hl:1<=l.fKind/\l.fKind<=6/\(5<=l.fKind->0<=l.fShard/\l.fShard<(n:Int))/\(6<=l.fKind->0<=l.fSlot))(r:2<l.fKind)(i:v.ok)(v1:v.fBans.length<=b+1)(v2:v.fBook.length<=b+1)(v3:l.fKind=5->v.fN<=(b:Int)+1) :
  ∃m',ZhB m l v=some m'/\MI n (b+1) m':=by
 obtain⟨l1,l2,l3,l4⟩:=hl;have g:=h.up (Nat.le_succ b);have hns:=h.nsh;unfold ZhB;simp only[ZjL,Zag,List.nil_append];refine ZdF (fun e=>?_) (fun t=>?_)
 .exact⟨_,rfl,⟨h.inn,h.out,i.2.2.1.2,v1,h.book,g.nbook,h.nsh,g.sh,h.nlk,g.lk⟩⟩
 refine ZdF (fun e=>?_) (fun u=>?_)
 .exact⟨_,rfl,⟨h.inn,h.out,h.bans,g.nbans,i.2.2.2.1.2,v2,h.nsh,g.sh,h.nlk,g.lk⟩⟩
 have hs:ShOk b (m.fShards.getD l.fShard.toNat Zam.d):=ZqJ h.sh ZNH _;have o:=hs.few;have put:∀s,ShOk (b+1) s->MI n (b+1) ⟨m.fIn,m.fOut,m.fBans,m.fBook,m.fShards.set l.fShard.toNat s,m.fLocks⟩:=fun s iG=>⟨h.inn,h.out,h.bans,g.nbans,h.book,g.nbook,by show (m.fShards.set _ s).length=n;rw[List.length_set];exact hns,fun s' cn=>by
  rcases List.mem_or_eq_of_mem_set cn with e|e
  .exact g.sh _ e
  .rw[e];exact iG,h.nlk,g.lk⟩
 rw[Zap (by unfold maxLen;omega),Zap (by omega)];refine ZdF (fun e=>?_) (fun y=>?_)
 .exact⟨_,rfl,put _ ⟨i.1,by have:=v3 e;show v.fN<=_;omega,hs.slots,Nat.le_succ_of_le o⟩⟩
 have A:=hs.most;have c9:(m.fShards.getD l.fShard.toNat Zam.d).fSize<=((b+1:Nat):Int):=by omega
 refine ZdF (fun e=>?_) (fun e=>?_)
 .rw[Zap (by unfold maxLen;omega),Zap (by omega)];refine⟨_,rfl,put _ ⟨hs.size,c9,fun p j=>?_,by show List.length (List.set _ _ _)<=b+1;rw[List.length_set];omega⟩⟩;rcases List.mem_or_eq_of_mem_set j with e|e
  .exact hs.slots _ e
  .rw[e];exact i.2.1
 refine ZdF (fun e=>?_) (fun e=>?_)
 .rw[Zap (by unfold maxLen;omega),Zap (by simp only[List.length_append,List.length_singleton,maxLen];omega)];refine⟨_,rfl,put _ ⟨hs.size,c9,fun p j=>?_,by show List.length (_++_)<=b+1;simp only[List.length_append,List.length_singleton];omega⟩⟩;rcases List.mem_append.1 j with e|e
  .exact hs.slots _ e
  .rw[List.mem_singleton.1 e];exact i.2.1
 .exact⟨_,rfl,put _ (hs.up (Nat.le_succ b))⟩
omit h hb bV bW in
theorem ZCZ(l:List Int)(x:Int)(hl:l.length<=200000):∃r,ZgB l x=some r/\r.length<=l.length:=by
 have au:∀(fu i:Nat)(w:List Int),l.length-i<fu->i<=l.length->w.length<=i->∃r,Zde l x fu (i:Int) w=some r/\r.length<=l.length:=by
  intro fu;induction fu with
  |zero=>intro i w h;omega
  |succ fu ih=>
   intro i w d e g;simp only[Zde];by_cases h:i<l.length
   .rw[Zag,iNb,Zap (by omega),add1 h (by unfold maxLen;omega),Zlr];refine ZdF (fun _=>?_) (fun _=>?_)
    .exact ih (i+1) w (by omega) (by omega) (by omega)
    .rw[Zap (by simp only[List.length_append,List.length_singleton,maxLen];omega)];exact ih (i+1) _ (by omega) (by omega) (by simp only[List.length_append,List.length_singleton];omega)
   .rw[Zag,iNa];exact⟨w,rfl,by omega⟩
 exact au _ 0 [] (by omega) (by omega) (by simp)
omit h hb bV bW in
theorem ZGS(l:List Int)(x:Int)(hl:l.length<=200000):∃r,Zhb l x=some r/\r.length<=l.length+1:=by
 have au:∀(fu i:Nat)(d:Bool)(w:List Int),l.length-i<fu->i<=l.length->w.length<=i+(if d=true then 1 else 0)->∃r,Zbz l x fu d (i:Int) w=some r/\r.length<=l.length+1:=by
  intro fu;induction fu with
  |zero=>intro i d w h;omega
  |succ fu ih=>
   intro i d w g j e;simp only[Zbz];by_cases h:i<l.length
   .rw[Zag,iNb,add1 h (by unfold maxLen;omega)];cases d with
    |false=>
     simp only[Bool.not_false,cond_true,Bool.false_eq_true,if_false]at e ⊢;rw[Zap (by omega),Zag,Zlr,Zlr];refine ZdF (fun _=>?_) (fun _=>?_)
     .rw[Zap (by simp only[List.length_append,List.length_singleton,maxLen];omega)];refine ZdF (fun _=>?_) (fun _=>?_)
      .exact ih (i+1) true _ (by omega) (by omega) (by simp only[List.length_append,List.length_singleton,if_true];omega)
      .rw[Zap (by simp only[List.length_append,List.length_singleton,maxLen];omega)];exact ih (i+1) true _ (by omega) (by omega) (by simp only[List.length_append,List.length_singleton,if_true];omega)
     .refine ZdF (fun _=>?_) (fun _=>?_)
      .exact ih (i+1) false _ (by omega) (by omega) (by simp only[Bool.false_eq_true,if_false];omega)
      .rw[Zap (by simp only[List.length_append,List.length_singleton,maxLen];omega)];exact ih (i+1) false _ (by omega) (by omega) (by simp only[List.length_append,List.length_singleton,Bool.false_eq_true,if_false];omega)
    |true=>
     simp only[Bool.not_true,cond_false,if_true]at e ⊢;rw[Zap (by omega),Zlr];refine ZdF (fun _=>?_) (fun _=>?_)
     .exact ih (i+1) true _ (by omega) (by omega) (by simp only[if_true];omega)
     .rw[Zap (by simp only[List.length_append,List.length_singleton,maxLen];omega)];exact ih (i+1) true _ (by omega) (by omega) (by simp only[List.length_append,List.length_singleton,if_true];omega)
   .rw[Zag,iNa];cases d with
    |false=>
     simp only[Bool.not_false,cond_true,Bool.false_eq_true,if_false]at e ⊢;rw[Zap (by simp only[List.length_append,List.length_singleton,maxLen];omega)];exact⟨_,rfl,by simp only[List.length_append,List.length_singleton];omega⟩
    |true=>
     simp only[if_true]at e;exact⟨w,rfl,by omega⟩
 exact au _ 0 false [] (by omega) (by omega) (by simp)
theorem ZQo(o:Zat)(who:Int)(ho:GO b o):∃r,Zjm m o who=some r/\MI n (b+1) r.1/\GA (b+1) o r.2:=by
 obtain⟨r,A,B⟩:=ZJF h hb bV bW o;obtain⟨l,C,L⟩:=ZFN h hb bV bW o.fLock;obtain⟨D,E,F,G,j,_⟩:=ho;have d:=h.up (Nat.le_succ b);have z:GA (b+1) o valZ:=⟨ZlR,Nat.zero_le _,Nat.zero_le _,fun _=>by show (0:Int)<=_;omega⟩;have one:∀k:Int,o.fLoc.fKind=k->k≠5->GA (b+1) o ⟨1,ZkG,[],[]⟩:=fun k t u=>⟨v_n rfl,Nat.zero_le _,Nat.zero_le _,fun e=>absurd (t.symm.trans e) u⟩;unfold Zjm;rw[A,Option.bind_some];cases r with
 |false=>exact⟨_,rfl,d,z⟩
 |true=>
  obtain⟨y,H⟩:=B rfl;have wt:∀k:Zay,k.fShare.length<=b+1->∃r,((ZcQ m o.fLock k).bind fun x=>some (x,valZ))=some r/\MI n (b+1) r.1/\GA (b+1) o r.2:=fun k I=>by
   obtain⟨m',g,i⟩:=ZLr h hb bV bW o.fLock k I;rw[g,Option.bind_some];exact⟨_,rfl,i,z⟩
  rw[Bool.not_true,cond_false,C,Option.bind_some];simp only[ZjL];refine ZdF (fun e=>?_) (fun t=>?_)
  .exact wt _ (by show l.fShare.length<=_;omega)
  refine ZdF (fun e=>?_) (fun u=>?_)
  .obtain⟨q,g,i⟩:=ZGS l.fShare who (by omega);rw[g,Option.bind_some];exact wt _ (by show q.length<=_;omega)
  refine ZdF (fun e=>?_) (fun M=>?_)
  .refine ZdF (fun e=>?_) (fun e=>?_)
   .exact wt _ (by show l.fShare.length<=_;omega)
   .exact wt _ (by omega)
  refine ZdF (fun e=>?_) (fun O=>?_)
  .obtain⟨q,g,i⟩:=ZCZ l.fShare who (by omega);rw[g,Option.bind_some];exact wt _ (by show q.length<=_;omega)
  refine ZdF (fun e=>?_) (fun U=>?_)
  .obtain⟨v,g,i,V,W,J⟩:=ZMI h hb bV bW o.fLoc (y (.inl e));rw[g,Option.bind_some];exact⟨_,rfl,d,i,by show v.fBans.length<=_;omega,by show v.fBook.length<=_;omega,fun e=>by have:=J e;show v.fN<=_;omega⟩
  refine ZdF (fun e=>?_) (fun Z=>?_)
  .obtain⟨m',g,i⟩:=ZIo h hb bV bW o.fLoc o.fVal (y (.inr e)) (H e) D E F G;rw[g,Option.bind_some];exact⟨_,rfl,i,z⟩
  have mi:MI n (b+1) ⟨o.fNew,m.fOut,m.fBans,m.fBook,m.fShards,m.fLocks⟩:=⟨j,h.out,h.bans,d.nbans,h.book,d.nbook,h.nsh,d.sh,h.nlk,d.lk⟩;have mo:MI n (b+1) ⟨m.fIn,o.fNew,m.fBans,m.fBook,m.fShards,m.fLocks⟩:=⟨h.inn,j,h.bans,d.nbans,h.book,d.nbook,h.nsh,d.sh,h.nlk,d.lk⟩
  repeat' refine ZdF (fun _=>?_) (fun _=>?_)
  all_goals first
   |exact⟨_,rfl,d,z⟩
   |exact⟨_,rfl,mi,one 1 (by omega) (by omega)⟩
   |exact⟨_,rfl,mo,one 2 (by omega) (by omega)⟩
end
structure iR (c:Zaq) (cM:Zao->List Zae->Nat->Prop):Prop where
 new:∀{x:Zao}{b:Nat},x.ok->b<=700->cM x [] b
 up:∀{x:Zao}{got:List Zae}{b d:Nat},cM x got b->b<=d->cM x got d
 run:∀{x:Zao}{got:List Zae}{b:Nat},x.ok->cM x got b->got.length<=700->b<=700->∃y,Zdr c x got=some y/\GO b y.1.fOp /\
  ∀v,GA b y.1.fOp v->∃z,Zdr c x (got++[v])=some z/\(z.1.fWait=true->cM x (got++[v]) b)/\(z.1.fWait=false->z.2.fPeers.length<=900000)
structure TkI (cM:Zao->List Zae->Nat->Prop) (b:Nat) (t:Zar):Prop where
 calls:∀x∈t.fCalls,x.ok
 few:t.fCalls.length<=12
 lo:0<=t.fNth
 hi:t.fNth<=(t.fCalls.length:Int)
 reps:(t.fReplies.length:Int)=t.fNth
 got:t.fGot.length<=b
 peers:∀r∈t.fReplies,r.fPeers.length<=900000
 res:t.fNth<(t.fCalls.length:Int)->cM (t.fCalls.getD t.fNth.toNat Zao.d) t.fGot b
structure ky (ts:List Zar) (s:Zak):Prop where
 who0:0<=s.fWho
 who1:s.fWho<(ts.length:Int)
 nth0:0<=s.fNth
 nth1:s.fNth<((ts.getD s.fWho.toNat Zar.d).fCalls.length:Int)
 last:s.fLast=true->s.fNth<((ts.getD s.fWho.toNat Zar.d).fReplies.length:Int)
structure WdI (c:Zaq) (cM:Zao->List Zae->Nat->Prop) (n b:Nat) (w:Zaz):Prop where
 conf:w.fConf=c
 mem:MI n b w.fMem
 ntask:w.fTasks.length<=8
 tasks:∀t∈w.fTasks,TkI cM b t
 nlog:w.fLog.length<=b
 log:∀s∈w.fLog,ky w.fTasks s
section
variable {c:Zaq} {cM:Zao->List Zae->Nat->Prop} (hA:iR c cM) {n b:Nat} (bV:1<=n) (bW:n<=8)
include hA bV bW
theorem TkI.up{t:Zar}(h:TkI cM b t){d:Nat}(g:b<=d):TkI cM d t:=⟨h.calls,h.few,h.lo,h.hi,h.reps,by have:=h.got;omega,h.peers,fun e=>hA.up (h.res e) g⟩
theorem WdI.up{w:Zaz}(h:WdI c cM n b w){d:Nat}(e:b<=d):WdI c cM n d w:=⟨h.conf,h.mem.up e,h.ntask,fun t g=>TkI.up hA bV bW (h.tasks t g) e,by have:=h.nlog;omega,h.log⟩
omit bV bW in
theorem ZMz{t:Zar}(h:TkI cM b t)(hb:b<=700):∃y,Zel c t=some y/\GO b y.1/\(y.2=true->t.fNth<(t.fCalls.length:Int)):=by
 simp only[Zel,Zfp,Option.bind_some];by_cases ho:t.fNth>=(t.fCalls.length:Int)
 .rw[decide_eq_true ho,cond_true];exact⟨_,rfl,ZJu b,fun e=>by cases e⟩
 .have hlo:=h.lo;have hlt:t.fNth<(t.fCalls.length:Int):=by omega
  rw[decide_eq_false ho,cond_false,Zap ⟨hlo,hlt⟩];have hx:=h.calls _ (ZbU t.fCalls Zao.d t.fNth.toNat (by omega));obtain⟨y,g,i,_⟩:=hA.run hx (h.res hlt) (by have:=h.got;omega) hb;rw[g,Option.bind_some];exact⟨_,rfl,i,fun _=>hlt⟩
theorem ZEy{w:Zaz}(h:WdI c cM n b w)(hb:b<=700):∃l,Zfe w=some l/\l.length<=8/\∀i∈l,0<=i/\i<(w.fTasks.length:Int)/\(w.fTasks.getD i.toNat Zar.d).fNth<((w.fTasks.getD i.toNat Zar.d).fCalls.length:Int):=by
 have B:=h.ntask;have au:∀(fu i:Nat)(l:List Int),w.fTasks.length-i<fu->i<=w.fTasks.length->l.length<=i->(∀i∈l,0<=i/\i<(w.fTasks.length:Int)/\(w.fTasks.getD i.toNat Zar.d).fNth<((w.fTasks.getD i.toNat Zar.d).fCalls.length:Int)) ->
   ∃l',Zcs fu (i:Int) l w=some l'/\l'.length<=8/\∀i∈l',0<=i/\i<(w.fTasks.length:Int)/\(w.fTasks.getD i.toNat Zar.d).fNth<((w.fTasks.getD i.toNat Zar.d).fCalls.length:Int):=by
  intro fu;induction fu with
  |zero=>intro i l h;omega
  |succ fu ih=>
   intro i l C g hl bq;simp only[Zcs];by_cases hi1:i<w.fTasks.length
   .have o:=h.tasks _ (ZbU w.fTasks Zar.d i hi1);obtain⟨y,r,D,t⟩:=ZMz hA o hb;obtain⟨m,u,_⟩:=ZJF h.mem (by omega) bV bW y.1;rw[Zag,iNb,Zap (by omega),h.conf,Int.toNat_natCast,r,Option.bind_some,add1 hi1 (by unfold maxLen;omega),u,Option.bind_some];have skip:=ih (i+1) l (by omega) (by omega) (by omega) bq;cases v:y.2 with
    |false=>exact skip
    |true=>
     cases m with
     |false=>exact skip
     |true=>
      simp only[cond_true];rw[Zap (by simp only[List.length_append,List.length_singleton,maxLen];omega)];refine ih (i+1) _ (by omega) (by omega) (by simp only[List.length_append,List.length_singleton];omega) fun j A=>?_;rcases List.mem_append.1 A with e|e
      .exact bq j e
      .rw[List.mem_singleton.1 e,Int.toNat_natCast];exact⟨by omega,by omega,t v⟩
   .rw[Zag,iNa];exact⟨l,rfl,by omega,bq⟩
 unfold Zfe;exact au 1000000 0 [] (by omega) (by omega) (by simp) (fun i g=>by cases g)
omit hA bV bW in
theorem ZMs(l b5:List Int)(k:Nat)(hl:l≠[])(e:l.length<=100):∃i,Zim l b5 (k:Int)=some i/\i∈l:=by
 have h0:0<l.length:=List.length_pos_iff.2 hl;simp only[Zim];rw[Zag,Zag];by_cases h:(k:Int)>=(b5.length:Int)
 .rw[if_pos h,Zap (by omega)];exact⟨_,rfl,ZbU l 0 0 h0⟩
 .rw[if_neg h,Zap (by omega),Zap (by omega)];have bo:=Int.tmod_lt_of_pos (b5.getD (k:Int).toNat 0) (show (0:Int)<(l.length:Int)by omega);have bk : -(l.length:Int)<Int.tmod (b5.getD (k:Int).toNat 0) (l.length:Int):=by
   have:=Int.lt_tmod_of_pos (b5.getD (k:Int).toNat 0) (show (0:Int)<(l.length:Int)by omega);omega
  generalize Int.tmod (b5.getD (k:Int).toNat 0) (l.length:Int)=r at bo bk ⊢;by_cases d:r<0
  .rw[if_pos d,Zbs (by omega) (by omega),Zap (by omega)];exact⟨_,rfl,ZbU l 0 _ (by omega)⟩
  .rw[if_neg d,Zap (by omega)];exact⟨_,rfl,ZbU l 0 _ (by omega)⟩
theorem ZLD{w:Zaz}(h:WdI c cM n b w)(hb:b<=690){i:Int}(h0:0<=i)(G:i<(w.fTasks.length:Int))(hlt:(w.fTasks.getD i.toNat Zar.d).fNth<((w.fTasks.getD i.toNat Zar.d).fCalls.length:Int)) :
  ∃w',Zil w i=some w'/\WdI c cM n (b+1) w':=by
 have B:=h.ntask;have hnl:=h.nlog;obtain⟨k,rfl⟩ : ∃k:Nat,i=(k:Int):=⟨i.toNat,by omega⟩;rw[Int.toNat_natCast]at hlt;have u:k<w.fTasks.length:=by omega
 have g:=h.tasks _ (ZbU w.fTasks Zar.d k u)
 revert hlt g
 generalize o:w.fTasks.getD k Zar.d=t;intro hlt g;have hlo:=g.lo;have hx:=g.calls _ (ZbU t.fCalls Zao.d t.fNth.toNat (by omega));obtain⟨y,y1,y2,y3⟩:=hA.run hx (g.res hlt) (by have:=g.got;omega) (by omega);obtain⟨d,d1,d2,d3⟩:=ZQo h.mem (by omega) bV bW y.1.fOp (k:Int) y2;obtain⟨y',y1',y2',y3'⟩:=hA.run hx (hA.up (g.res hlt) (Nat.le_succ b)) (by have:=g.got;omega) (by omega);rw[y1]at y1';cases y1';obtain⟨z,z1,z2,z3⟩:=y3' d.2 d3;have hgl:=g.got;have eK:=g.reps;have cZ:=g.few
 -- the task,behind it
 have take:∃q:Zar×Bool,Zin c t d.2=some q/\TkI cM (b+1) q.1/\q.1.fCalls=t.fCalls/\t.fReplies.length<=q.1.fReplies.length/\(q.2=true->t.fNth<(q.1.fReplies.length:Int)):=by
  simp only[Zin,Zfp,Option.bind_some,List.nil_append];rw[decide_eq_false (by omega),cond_false,Zap (by unfold maxLen;omega),Zap (by simp only[List.length_append,List.length_singleton,maxLen];omega),Zap ⟨hlo,hlt⟩,z1,Option.bind_some];cases v:z.1.fWait with
  |true=>
   exact⟨_,rfl,⟨g.calls,g.few,g.lo,g.hi,g.reps,by show (t.fGot++[d.2]).length<=b+1;simp only[List.length_append,List.length_singleton];omega,g.peers,fun _=>z2 v⟩,rfl,Nat.le_refl _,fun e=>by cases e⟩
  |false=>
   simp only[cond_false];rw[Zap (by unfold maxLen;omega),Zap (by simp only[List.length_append,List.length_singleton,maxLen];omega),Zbs (by omega) (by omega)];refine⟨_,rfl,⟨g.calls,g.few,by show 0<=t.fNth+1;omega,by show t.fNth+1<=(t.fCalls.length:Int);omega,by show ((t.fReplies++[z.2]).length:Int)=t.fNth+1;simp only[List.length_append,List.length_singleton];omega,Nat.zero_le _,fun r C=>(List.mem_append.1 C).elim (g.peers r) (fun er=>by rw[List.mem_singleton.1 er];exact z3 v),fun e=>?_⟩,rfl,by simp,fun _=>by show t.fNth<((t.fReplies++[z.2]).length:Int);simp only[List.length_append,List.length_singleton];omega⟩;have e:t.fNth+1<(t.fCalls.length:Int):=e;exact hA.new (g.calls _ (ZbU t.fCalls Zao.d (t.fNth+1).toNat (by omega))) (by omega)
 obtain⟨q,D,E,A,H,F⟩:=take;have fw:Zel c t=some (y.1.fOp,true):=by
  simp only[Zel,Zfp,Option.bind_some];rw[decide_eq_false (by omega),cond_false,Zap ⟨hlo,hlt⟩,y1,Option.bind_some]
 simp only[Zil,List.nil_append,h.conf];rw[Zap (by omega),Int.toNat_natCast,o,fw,Option.bind_some,d1,Option.bind_some,D,Option.bind_some,Zap (by unfold maxLen;omega),Zap (by omega),Zap (by unfold maxLen;omega),Zap (by simp only[List.length_append,List.length_singleton,maxLen];omega)];have hset:∀j,(w.fTasks.set k q.1).getD j Zar.d=if j=k then q.1 else w.fTasks.getD j Zar.d:=fun j=>by
  by_cases e:j=k
  .rw[if_pos e,e];simp[List.getD_eq_getElem?_getD,u]
  .rw[if_neg e];simp only[List.getD_eq_getElem?_getD];rw[List.getElem?_set_ne (Ne.symm e)]
 refine⟨_,rfl,⟨rfl,d2,by show (w.fTasks.set k q.1).length<=8;rw[List.length_set];exact B,fun t' kz=>?_,by show (w.fLog++[_]).length<=b+1;simp only[List.length_append,List.length_singleton];omega,fun s hs=>?_⟩⟩
 .rcases List.mem_or_eq_of_mem_set kz with e|e
  .exact TkI.up hA bV bW (h.tasks _ e) (Nat.le_succ b)
  .rw[e];exact E
 .rcases List.mem_append.1 hs with e|e
  .have l1:=h.log s e;refine⟨l1.who0,by show s.fWho<((w.fTasks.set k q.1).length:Int);rw[List.length_set];exact l1.who1,l1.nth0,?_,fun el=>?_⟩
   .show s.fNth<(((w.fTasks.set k q.1).getD s.fWho.toNat Zar.d).fCalls.length:Int);have:=l1.nth1;rw[hset];split
    .rename_i ek;rw[ek,o]at this;rw[A];exact this
    .exact this
   .show s.fNth<(((w.fTasks.set k q.1).getD s.fWho.toNat Zar.d).fReplies.length:Int);have:=l1.last el;rw[hset];split
    .rename_i ek;rw[ek,o]at this;omega
    .exact this
  .rw[List.mem_singleton.1 e];refine⟨by show (0:Int)<=(k:Int);omega,by show (k:Int)<((w.fTasks.set k q.1).length:Int);rw[List.length_set];omega,hlo,?_,fun el=>?_⟩
   .show t.fNth<(((w.fTasks.set k q.1).getD (k:Int).toNat Zar.d).fCalls.length:Int);rw[hset,Int.toNat_natCast,if_pos rfl,A];exact hlt
   .show t.fNth<(((w.fTasks.set k q.1).getD (k:Int).toNat Zar.d).fReplies.length:Int);rw[hset,Int.toNat_natCast,if_pos rfl];exact F el
theorem ZOz(b5:List Int)(most:Int)(g:most<=300)(z:Zaz):∀(fu k:Nat)(w:Zaz),(most-(k:Int)).toNat<fu->k<=300->WdI c cM n (20+k) w->∃w',ZfD b5 most fu (k:Int) w z=some w'/\WdI c cM n 330 w':=by
 intro fu;induction fu with
 |zero=>intro k w h;omega
 |succ fu ih=>
  intro k w j o d;simp only[ZfD];have bm:∃w',(some w:Option Zaz)=some w'/\WdI c cM n 330 w':=⟨w,rfl,WdI.up hA bV bW d (by omega)⟩;by_cases h:(k:Int)<most
  .rw[Zag,if_pos h];obtain⟨l,l1,l3,l2⟩:=ZEy hA bV bW d (by omega);rw[l1,Option.bind_some,ZjL];by_cases hl:(l.length:Int)=0
   .rw[if_pos hl];exact bm
   .rw[if_neg hl];have hne:l≠[]:=fun e=>hl (by rw[e];rfl);have hlen:l.length<=100:=by omega
    obtain⟨i,i1,i2⟩:=ZMs l b5 k hne hlen;obtain⟨j1,j2,j3⟩:=l2 i i2;obtain⟨w',w1,w2⟩:=ZLD hA bV bW d (by omega) j1 j2 j3;rw[i1,Option.bind_some,w1,Option.bind_some,add1 (n:=301) (by omega) (by unfold maxLen;omega)];exact ih (k+1) w' (by omega) (by omega) w2
  .rw[Zag,if_neg h];exact bm
end
def Pr.all{α:Type}(Q:α->Prop):Pr α->Prop | .ret x=>Q x | .ask _ k=>∀v,(k v).all Q | .no=>True
theorem Pr.all_bind{α β:Type}{Q:α->Prop}{Q':β->Prop}{p:Pr α}{f:α->Pr β}(h:p.all Q)(d:∀x,Q x->(f x).all Q'):(p.bind f).all Q':=by
 induction p with
 |ret x=>exact d x h
 |ask o k ih=>exact fun v=>ih v (h v)
 |no=>trivial
theorem Pr.all_any{α:Type}(p:Pr α):p.all fun _=>True:=by
 induction p with
 |ret x=>trivial
 |ask o k ih=>exact fun v=>ih v
 |no=>trivial
theorem Pr.all_then{α β:Type}{Q':β->Prop}{p:Pr α}{f:α->Pr β}(d:∀x,(f x).all Q'):(p.bind f).all Q':=Pr.all_bind (Pr.all_any p) fun x _=>d x
theorem Pr.all_run{α:Type}{Q:α->Prop}:∀{p:Pr α}{l:List Zae}{x:α}{g:Zbc},p.all Q->runT p l=some (.ret x g)->Q x
 | .ret y,l,x,g,h,e=>by simp[runT]at e;rw[<-e.1];exact h
 | .ask o k,[],x,g,h,e=>by simp[runT]at e
 | .ask o k,v :: l,x,g,h,e=>Pr.all_run (h v) e
 | .no,l,x,g,h,e=>by simp[runT]at e
theorem ZHq(c:Zaq)(x:Zao):(ZvK c x).all fun v=>v.fPeers.length<=900000:=by
 have none:∀n,(ZzU n).all fun v=>v.fPeers.length<=900000:=fun n=>Pr.all_then fun _=>Nat.zero_le _;have a6:ZmQ.all fun v=>v.fPeers.length<=900000:=Pr.all_then fun _=>Nat.zero_le _;have iS:∀n e,(ZzN n e).all fun v=>v.fPeers.length<=900000:=fun n e=>by
  refine Pr.all_then fun r=>?_;split
  .exact none n
  .exact Pr.all_then fun _=>Pr.all_then fun _=>Pr.all_then fun _=>Nat.zero_le _
 have g3:∀n,(Ztz n c x).all fun v=>v.1.fPeers.length<=900000:=fun n=>by
  refine Pr.all_then fun r=>?_;split
  .exact Nat.zero_le _
  .split
   .exact Pr.all_then fun _=>Pr.all_then fun _=>Nat.zero_le _
   .exact Pr.all_then fun _=>Nat.zero_le _
 unfold ZvK;split;rotate_left
 .exact a6
 split
 .refine Pr.all_then fun r=>?_;split
  .exact none _
  .split
   .exact Pr.all_then fun _=>Pr.all_then fun _=>Pr.all_then fun _=>Nat.zero_le _
   .exact Pr.all_then fun _=>Pr.all_then fun _=>Pr.all_bind (iS _ _) fun v d=>Pr.all_then fun _=>d
 .split
  .refine Pr.all_then fun r=>?_;split
   .exact none _
   .split
    .exact Pr.all_then fun _=>Pr.all_then fun _=>Pr.all_then fun _=>Pr.all_bind (g3 _) fun q g=>Pr.all_then fun _=>Pr.all_then fun _=>Pr.all_then fun _=>g
    .exact Pr.all_then fun _=>Pr.all_then fun _=>Nat.zero_le _
  .split
   .refine Pr.all_then fun r=>?_;split
    .exact none _
    .split
     .exact Pr.all_then fun _=>Pr.all_then fun _=>Nat.zero_le _
     .exact Pr.all_then fun _=>Pr.all_then fun _=>Nat.zero_le _
   .exact a6
theorem ZIN(c:Zaq)(x:Zao):(ZGT c x).all fun v=>v.fPeers.length<=900000:=by
 have a6:ZmQ.all fun v=>v.fPeers.length<=900000:=Pr.all_then fun _=>Nat.zero_le _;have gw:∀l e k,(ZBz c x l e k).all fun r=>r.1.fPeers.length<=900000:=fun l e k=>Pr.all_then fun _=>Nat.zero_le _;unfold ZGT;split;rotate_left
 .exact a6
 split
 .refine Pr.all_then fun _=>Pr.all_then fun _=>Pr.all_then fun _=>Pr.all_bind (Q:=fun r=>r.1.fPeers.length<=900000) (Pr.all_then fun v=>Pr.all_then fun o=>?_) fun r d=>Pr.all_then fun _=>Pr.all_then fun _=>Pr.all_then fun _=>d;split
  .exact Nat.zero_le _
  .split
   .exact Pr.all_then fun _=>Pr.all_then fun _=>Nat.zero_le _
   .exact Nat.zero_le _
 .split
  .refine Pr.all_then fun _=>Pr.all_then fun _=>Pr.all_then fun _=>Pr.all_bind (Q:=fun r=>r.1.fPeers.length<=900000) (Pr.all_then fun v=>?_) fun r d=>Pr.all_then fun _=>Pr.all_then fun _=>Pr.all_then fun _=>d;split
   .exact Nat.zero_le _
   .split
    .unfold ZKi;split
     .refine Pr.all_then fun b=>?_;split
      .exact gw _ _ _
      .refine Pr.all_then fun ps=>?_;split
       .exact Pr.all_then fun _=>Nat.zero_le _
       .exact Pr.all_then fun _=>Pr.all_then fun _=>Nat.zero_le _
     .exact gw _ _ _
    .exact Nat.zero_le _
  .split
   .refine Pr.all_then fun _=>Pr.all_then fun v=>?_;split
    .exact Pr.all_then fun _=>Pr.all_then fun _=>Nat.zero_le _
    .exact Pr.all_then fun _=>Nat.zero_le _
   .exact a6
def Pr.on{α:Type}(Q:α->Prop)(p:Pr α)(l:List Zae):Prop:=∀v g,runT p l=some (.ret v g)->Q v
theorem Pr.on_bind{α β:Type}{Q:β->Prop}{p:Pr α}{f:α->Pr β}{l:List Zae}(h:∀x g,runT p l=some (.ret x g)->(f x).on Q g.fgot):(p.bind f).on Q l:=fun v g d=>by
 obtain⟨x,e,i,j⟩:=ZDr d
 exact h x e i v g j
theorem Pr.on_all{α:Type}{Q:α->Prop}{p:Pr α}{l:List Zae}(h:p.all Q):p.on Q l:=fun v g d=>Pr.all_run h d
theorem ZLW(c:Zaq)(x:Zao)(got:List Zae)(hG:got.length<=800):(ZGQ c x).on (fun v=>v.fPeers.length<=900000) got:=by
 have a6:ZmQ.on (fun v=>v.fPeers.length<=900000) got:=Pr.on_all (Pr.all_then fun _=>Nat.zero_le _);have any:∀{p:Pr Zai},(p.all fun v=>v.fPeers.length<=900000)->p.on (fun v=>v.fPeers.length<=900000) got:=fun h=>Pr.on_all h;unfold ZGQ;split;rotate_left
 .exact a6
 split
 .refine any ?_;unfold banP;split
  .exact Pr.all_then fun _=>Nat.zero_le _
  .refine Pr.all_then fun _=>Pr.all_then fun _=>Pr.all_then fun _=>Pr.all_bind (Q:=fun r=>r.fPeers.length<=900000) (Pr.all_then fun l=>?_) fun r d=>Pr.all_then fun _=>Pr.all_then fun _=>Pr.all_then fun _=>d;split
   .exact Pr.all_then fun _=>Pr.all_then fun _=>Pr.all_then fun _=>Pr.all_then fun _=>Nat.zero_le _
   .exact Nat.zero_le _
 split
 .refine any (Pr.all_then fun _=>Pr.all_then fun l=>?_);split
  .exact Pr.all_then fun _=>Pr.all_then fun _=>Nat.zero_le _
  .exact Pr.all_then fun _=>Nat.zero_le _
 split
 .exact any (Pr.all_then fun _=>Pr.all_then fun l=>Pr.all_then fun _=>Nat.zero_le _)
 split
 .refine any (Pr.all_then fun _=>Pr.all_then fun l=>?_);split
  .exact Pr.all_then fun _=>Pr.all_then fun _=>Nat.zero_le _
  .exact Pr.all_then fun _=>Nat.zero_le _
 split
 .have sh:∀{α:Type}{p:Pr α}{l:List Zae}{v:α}{g:Zbc},runT p l=some (.ret v g)->l.length<=800->g.fgot.length<=800:=fun h hl=>by
   obtain⟨a,A,rfl⟩:=Zto _ _ _ _ h;simp only[List.length_drop];omega
  refine Pr.on_bind fun _ B e=>Pr.on_bind fun _ C i=>Pr.on_bind fun _ D j=>Pr.on_bind fun b E o=>Pr.on_bind fun v F t=>Pr.on_bind fun all G u=>Pr.on_all ?_;have hl:=sh t (sh o (sh j (sh i (sh e hG))));obtain⟨_,y,_⟩:=ZoY _ _ _ _ _ _ u;simp only[List.flatten_nil,List.length_nil]at y;refine Pr.all_then fun _=>Pr.all_then fun _=>Pr.all_then fun _=>?_;show (ZqI all.flatten).length<=900000;rw[ZAg];omega
 .exact a6
theorem ZHU(c:Zaq)(x:Zao):(Zwq c x).all fun v=>v.fPeers.length<=900000:=by
 have slow:((ZDi c x).bind fun r=>(keyP 4 0 false).bind fun _=>Pr.ret r).all fun v=>v.fPeers.length<=900000:=by
  unfold ZDi;simp only[Pr.bind_assoc];refine Pr.all_then fun _=>Pr.all_then fun all=>?_;unfold ZwF;simp only[Pr.bind_assoc,Pr.bind_ret];refine Pr.all_bind (Q:=fun q:Zai×Bool=>q.1.fPeers.length<=900000) ?_ fun q d=>Pr.all_then fun _=>Pr.all_then fun _=>d;unfold ZsK;split
  .exact Nat.zero_le _
  .refine Pr.all_then fun b=>?_;split
   .exact Pr.all_then fun _=>Nat.zero_le _
   .split
    .exact Pr.all_then fun _=>Pr.all_then fun _=>Nat.zero_le _
    .exact Nat.zero_le _
 unfold Zwq;split
 .refine Pr.all_then fun _=>Pr.all_then fun v=>?_;split
  .exact Pr.all_then fun _=>Nat.zero_le _
  .refine Pr.all_bind (Q:=fun q:Zai×Bool=>q.1.fPeers.length<=900000) ?_ fun q d=>?_
   .unfold ZzL;refine Pr.all_then fun _=>Pr.all_then fun l=>?_;split
    .exact Pr.all_then fun _=>Nat.zero_le _
    .refine Pr.all_then fun b=>?_;split
     .exact Pr.all_then fun _=>Pr.all_then fun _=>Nat.zero_le _
     .exact Pr.all_then fun _=>Nat.zero_le _
   .split
    .exact Pr.all_then fun _=>d
    .exact slow
 .exact Pr.all_then fun _=>Nat.zero_le _
theorem ZGn(c:Zaq)(x:Zao)(got:List Zae)(hG:got.length<=800):(callC c x).on (fun v=>v.fPeers.length<=900000) got:=by
 unfold callC;split
 .exact Pr.on_all (ZHU c x)
 .split
  .exact Pr.on_all (ZIN c x)
  .split
   .exact ZLW c x got hG
   .exact Pr.on_all (ZHq c x)
section
variable {c:Zaq} {x:Zao} {got:List Zae} (hx:x.ok) (s1:1<=c.fShards) (s2:c.fShards<=8) (hG:Gl got)
include hx s1 s2 hG
theorem Zyb:Wlk got 0 eqP anyW (callC c x) (Zdr c x got):=by
 have h0:0<=c.fShards:=by omega
 have B:c.fShards<=1000:=by omega
 have C:Gd got:=⟨by have:=hG.len;omega,fun v o=>⟨(hG.val v o).1,by have:=(hG.val v o).2.1;omega,by have:=(hG.val v o).2.2;omega⟩⟩;have e:∀r:Option (Zad×Zai),(r.bind fun y=>some (y.1,y.2))=r:=fun r=>by cases r<;>rfl
 unfold callC Zdr Zff;simp only[e,ZjL];have W1:=ZND hx s1 (by omega) hG (c:=c);have W2:=ZNv hx h0 B hG (c:=c);have W3:=ZNu hx h0 B hG (c:=c);have W4:=ZNw hx C (c:=c);by_cases d:x.fKind=1
 .rw[if_pos d,if_pos d];exact W1
 rw[if_neg d,if_neg d];by_cases g:x.fKind=3
 .rw[if_pos (.inl g),if_pos g,if_pos g];exact W2
 rw[if_neg g];by_cases i:x.fKind=4
 .rw[if_pos (.inr (.inl i)),if_pos i,if_pos i];exact W2
 rw[if_neg i];by_cases k13:x.fKind=13
 .rw[if_pos (.inr (.inr k13)),if_pos k13];exact W2
 rw[iNa,if_neg k13];by_cases j:x.fKind=6
 .rw[if_pos (.inl j),if_pos j,if_pos j];exact W3
 rw[if_neg j];by_cases t:x.fKind=7
 .rw[iNb,if_pos t,if_pos t];exact W3
 rw[if_neg t];by_cases u:x.fKind=8
 .rw[iNb,if_pos u,if_pos u];exact W3
 rw[if_neg u];by_cases A:x.fKind=9
 .rw[iNb,if_pos A,if_pos A];exact W3
 rw[if_neg A];by_cases k10:x.fKind=10
 .rw[iNb,if_pos k10];exact W3
 rw[if_neg k10,iNa];exact W4
end
def ResT(c:Zaq)(x:Zao)(got:List Zae)(b:Nat):Prop:=(∃r,(∀l,runT (callC c x) (got++l)=runT r l)/\∀d,b<=d->d<=100000->r.sf d tt)/\∀v∈got,v.ok/\v.fBans.length<=b/\v.fBook.length<=b
theorem autoT{c:Zaq}(s1:1<=c.fShards)(s2:c.fShards<=8):iR c (ResT c):=by
 refine⟨fun{x b} hx hb=>⟨⟨callC c x,fun l=>rfl,fun d i j=>ZLN j hx⟩,fun v g=>by cases g⟩,
  fun{x got b d} h F=>⟨?_,fun v g=>⟨(h.2 v g).1,by have:=(h.2 v g).2.1;omega,by have:=(h.2 v g).2.2;omega⟩⟩,fun{x got b} hx h hl hb=>?_⟩
 .obtain⟨r,i,j⟩:=h.1;exact⟨r,i,fun e G=>j e (by omega)⟩
 obtain⟨⟨r,i,j⟩,t⟩:=h;have hG:Gl got:=⟨by omega,fun v g=>⟨(t v g).1,by have:=(t v g).2.1;omega,by have:=(t v g).2.2;omega⟩⟩;have A:=i [];rw[List.append_nil]at A;have W:=Zyb hx s1 s2 hG;unfold Wlk at W;rw[List.drop_zero]at W;have hb0:b<=100000:=by omega
 have ju:∀v:Zae,v.ok/\v.fBans.length<=b/\v.fBook.length<=b->Gl (got++[v]):=fun v g=>⟨by rw[List.length_append,List.length_singleton];omega,fun u B=>by
  rcases List.mem_append.1 B with e|e
  .exact hG.val u e
  .rw[List.mem_singleton.1 e];exact⟨g.1,by have:=g.2.1;omega,by have:=g.2.2;omega⟩⟩
 -- one more value
 have iT:∀v:Zae,v.ok/\v.fBans.length<=b/\v.fBook.length<=b->∀r':Pr Zai,(∀l,runT (callC c x) ((got++[v])++l)=runT r' l)->(∀d,b<=d->d<=100000->r'.sf d tt) ->
   ∃z,Zdr c x (got++[v])=some z/\(z.1.fWait=true->ResT c x (got++[v]) b)/\(z.1.fWait=false->z.2.fPeers.length<=900000):=fun v g r' D E=>by
  have kF:(got++[v]).length<=800:=(ju v g).len;have kG:=ZGn c x (got++[v]) kF;have W1:=Zyb hx s1 s2 (ju v g);unfold Wlk at W1;rw[List.drop_zero]at W1;rcases W1 with⟨a,a',k,t1,t2,t3,t4,t5⟩|⟨q,a',t1,t2,t3,t4⟩
  .cases t5;exact⟨_,t2,fun e=>(by cases e),fun _=>kG _ _ t1⟩
  .refine⟨_,t2,fun _=>⟨⟨r',D,E⟩,fun u B=>?_⟩,fun e=>by cases e⟩;rcases List.mem_append.1 B with e|e
   .exact t u e
   .rw[List.mem_singleton.1 e];exact g
 rcases W with⟨a,a',k,t1,t2,t3,t4,t5⟩|⟨q,a',t1,t2,t3,t4⟩
 .refine⟨_,t2,ZJu b,fun v g=>?_⟩;rw[A]at t1;cases r with
  |ret y=>
   have jv:v.ok/\v.fBans.length<=b/\v.fBook.length<=b:=⟨g.1,g.2.1,g.2.2.1⟩;have kG:=ZGn c x (got++[v]) (ju v jv).len;have W1:=Zyb hx s1 s2 (ju v jv);unfold Wlk at W1;rw[List.drop_zero]at W1;rcases W1 with⟨a,a',k,u1,u2,u3,u4,u5⟩|⟨q,a',u1,u2,u3,u4⟩
   .cases u5;exact⟨_,u2,fun e=>(by cases e),fun _=>kG _ _ u1⟩
   .rw[i]at u1;cases u1
  |ask o k=>cases t1
  |no=>cases t1
 .rw[A]at t1;cases r with
  |ret y=>cases t1
  |no=>cases t1
  |ask o k=>
   have C:q=opN o:=by cases t1;rfl
   have ho:GO b o:=(j b (Nat.le_refl b) hb0).1;refine⟨_,t2,by show GO b q;rw[C];exact ho.n,fun v g=>?_⟩;have g:GA b q v:=g;rw[C]at g;have jv:=g.n ho;refine iT v ⟨g.1,g.2.1,g.2.2.1⟩ (k v) (fun l=>?_) (fun d d1 d2=>(j d d1 d2).2 v (jv.up d1));rw[List.append_assoc,i];rfl
def effE(s:Zak):Bool:=s.fOp.fMark&&(s.fOp.fKind != 7||s.fGot.fN==1)
def ZzZ(s:Zak):Bool:=s.fOp.fKind==7&&s.fGot.fN != 1
theorem ZxN(s:Zak):ZjF s=some (effE s):=by
 unfold ZjF effE;cases s.fOp.fMark
 .rfl
 .cases h:s.fOp.fKind != 7
  .simp
  .simp
theorem Zwi(s:Zak):ZgV s=some (effE s):=ZxN s
theorem ZNa{s:Zak}(h:effE s=true):ZzZ s=false:=by
 unfold effE at h;unfold ZzZ;rw[Bool.and_eq_true,Bool.or_eq_true]at h;rcases h.2 with h|h
 .rw[show (s.fOp.fKind==7)=false by rw[beq_eq_false_iff_ne];exact bne_iff_ne.1 h];rfl
 .rw[show (s.fGot.fN != 1)=false by rw[bne_eq_false_iff_eq];exact beq_iff_eq.1 h,Bool.and_false]
abbrev ZKR:Zao:=Zao.mk (0:Int) (Zah.mk (Zaf.mk false (0:Int) (0:Int)) (0:Int)) (Zav.mk (Zaf.mk false (0:Int) (0:Int)) (0:Int)) (0:Int) (0:Int) false
abbrev ZIR:Zai:=Zai.mk (0:Int) (Zah.mk (Zaf.mk false (0:Int) (0:Int)) (0:Int)) (0:Int) (0:Int) ([]:(List Zaa))
def talS(d:Zal)(s:Zak)(k:Int):Zal:=⟨d.fWho,d.fNth,d.fCall,d.fReply,if d.fFirst<0 then k else d.fFirst,k,if effE s=true then k else d.fMark,d.fSteps+1,if ZzZ s=true then d.fLost+1 else d.fLost⟩
def tal(L:List Zak)(who nth:Int):Nat->Zal|0=>⟨who,nth,ZKR,ZIR,-1,0,-1,0,0⟩|k+1=>if(L.getD k Zak.d).fWho=who/\(L.getD k Zak.d).fNth=nth then talS (tal L who nth k) (L.getD k Zak.d) (k:Int)else tal L who nth k
theorem Zti(L:List Zak)(who nth:Int):∀k:Nat,(tal L who nth k=⟨who,nth,ZKR,ZIR,-1,0,-1,0,0⟩\/(0<(tal L who nth k).fSteps/\0<=(tal L who nth k).fFirst))/\(tal L who nth k).fSteps<=(k:Int)/\0<=(tal L who nth k).fSteps/\0<=(tal L who nth k).fLost/\(tal L who nth k).fLost<=(k:Int)/\(tal L who nth k).fWho=who/\(tal L who nth k).fNth=nth
 | 0=>⟨.inl rfl,Int.le_refl _,Int.le_refl _,Int.le_refl _,Int.le_refl _,rfl,rfl⟩
 |k+1=>by
  obtain⟨g,j,dP,i,o,d,e⟩:=Zti L who nth k
  unfold tal
  split
  .refine⟨.inr ⟨by show 0<(tal L who nth k).fSteps+1;omega,?_⟩,by show (tal L who nth k).fSteps+1<=_;omega,by show 0<=(tal L who nth k).fSteps+1;omega,?_,?_,d,e⟩
   .show 0<=if(tal L who nth k).fFirst<0 then(k:Int)else(tal L who nth k).fFirst
    split<;>omega
   .show 0<=if ZzZ _=true then(tal L who nth k).fLost+1 else(tal L who nth k).fLost
    split<;>omega
   .show (if ZzZ _=true then(tal L who nth k).fLost+1 else(tal L who nth k).fLost)<=_
    split<;>omega
  .exact⟨g,by omega,dP,i,by omega,d,e⟩
theorem ZJA{d:Zal}{s:Zak}{k:Nat}(g:k<=1000)(i:0<=d.fSteps)(j:d.fSteps<=(k:Int))(o:0<=d.fLost)(r:d.fLost<=(k:Int))(t:0<=d.fFirst)(z:Zal):Zje (k:Int) d s z=some (talS d s k):=by
 unfold Zje talS;rw[ZxN,Zaw,Zbs (by omega) (by omega),Zbs (by omega) (by omega),if_neg (by omega:¬d.fFirst<0)];cases e:effE s with
 |true=>rw[ZNa e];rfl
 |false=>
  unfold ZzZ;cases s.fOp.fKind==7
  .rfl
  .cases s.fGot.fN != 1<;>rfl
def MapI(L:List Zak)(k:Nat)(m:List (ZaJ×Zal)):Prop:=∀who nth:Int,mget m ⟨who,nth⟩ Zal.d=if(tal L who nth k).fSteps=0 then Zal.d else tal L who nth k
theorem ZJz{L:List Zak}{k:Nat}{m:List (ZaJ×Zal)}(i:MapI L k m)(g:k<=1000){s:Zak}(hs:s=L.getD k Zak.d):ZmY (mget m ⟨s.fWho,s.fNth⟩ Zal.d) s (k:Int)=some (tal L s.fWho s.fNth (k+1)):=by
 have j:tal L s.fWho s.fNth (k+1)=talS (tal L s.fWho s.fNth k) s k:=by
  show (if _ then _ else _)=_;rw[<-hs,if_pos ⟨rfl,rfl⟩]
 rw[j,i];obtain⟨h1,o,dP,r,t,u,v⟩:=Zti L s.fWho s.fNth k;unfold ZmY;rw[ZjL];by_cases h0:(tal L s.fWho s.fNth k).fSteps=0
 .rw[if_pos h0,if_pos (show Zal.d.fSteps=0 from rfl)];have e:tal L s.fWho s.fNth k=⟨s.fWho,s.fNth,ZKR,ZIR,-1,0,-1,0,0⟩:=by
   rcases h1 with h1|h1
   .exact h1
   .omega
  rw[ZJA g (Int.le_refl _) (by show (0:Int)<=_;omega) (Int.le_refl _) (by show (0:Int)<=_;omega) (by show (0:Int)<=(k:Int);omega),e];unfold talS;simp only[show ((-1:Int)<0)=True from by simp,if_true];rw[if_neg (by omega:¬(k:Int)<0)]
 .rw[if_neg h0,if_neg h0];refine ZJA g dP o r t ?_ _;rcases h1 with h1|h1
  .rw[h1]at h0;exact absurd rfl h0
  .exact h1.2
theorem ZzV{κ ν:Type}[DecidableEq κ](k g:κ)(v z:ν):∀l:List (κ×ν),mget (mput l k v) g z=if k=g then v else mget l g z
 | []=>by
  simp only[mput,mget]
 |p :: r=>by
  simp only[mput]
  by_cases h:p.1=k
  .rw[if_pos h]
   simp only[mget]
   by_cases d:k=g
   .simp[d]
   .rw[if_neg d,if_neg d,if_neg (by rw[h];exact d)]
  .rw[if_neg h]
   simp only[mget]
   rw[ZzV k g v z r]
   by_cases d:p.1=g
   .rw[if_pos d,if_pos d,if_neg (by rintro rfl;exact h d)]
   .rw[if_neg d,if_neg d]
theorem MapI.put{L:List Zak}{k:Nat}{m:List (ZaJ×Zal)}(g:MapI L k m){s:Zak}(hs:s=L.getD k Zak.d):MapI L (k+1) (mput m ⟨s.fWho,s.fNth⟩ (tal L s.fWho s.fNth (k+1))):=by
 intro who nth;rw[ZzV];obtain⟨r,t,dP,u,v,y,A⟩:=Zti L s.fWho s.fNth k;by_cases e:(⟨s.fWho,s.fNth⟩ : ZaJ)=⟨who,nth⟩
 .have i:s.fWho=who:=congrArg ZaJ.fwho e;have j:s.fNth=nth:=congrArg ZaJ.fnth e;rw[if_pos e,<-i,<-j,if_neg];show ¬(if _ then _ else _:Zal).fSteps=0;rw[<-hs,if_pos ⟨rfl,rfl⟩];show ¬(tal L s.fWho s.fNth k).fSteps+1=0;omega
 .have e':¬(s.fWho=who/\s.fNth=nth):=fun h=>e (by rw[h.1,h.2]);have o:tal L who nth (k+1)=tal L who nth k:=by
   show (if _ then _ else _)=_;rw[<-hs,if_neg e']
  rw[if_neg e,g,o]
def outS(w:Zaz)(k:Nat):Zal:=⟨(w.fLog.getD k Zak.d).fWho,(w.fLog.getD k Zak.d).fNth,(w.fTasks.getD (w.fLog.getD k Zak.d).fWho.toNat Zar.d).fCalls.getD (w.fLog.getD k Zak.d).fNth.toNat Zao.d,(w.fTasks.getD (w.fLog.getD k Zak.d).fWho.toNat Zar.d).fReplies.getD (w.fLog.getD k Zak.d).fNth.toNat Zai.d,(tal w.fLog (w.fLog.getD k Zak.d).fWho (w.fLog.getD k Zak.d).fNth (k+1)).fFirst,(k:Int),(tal w.fLog (w.fLog.getD k Zak.d).fWho (w.fLog.getD k Zak.d).fNth (k+1)).fMark,(tal w.fLog (w.fLog.getD k Zak.d).fWho (w.fLog.getD k Zak.d).fNth (k+1)).fSteps,(tal w.fLog (w.fLog.getD k Zak.d).fWho (w.fLog.getD k Zak.d).fNth (k+1)).fLost⟩
def begS(w:Zaz)(k:Nat):Zal:=⟨(w.fLog.getD k Zak.d).fWho,(w.fLog.getD k Zak.d).fNth,(w.fTasks.getD (w.fLog.getD k Zak.d).fWho.toNat Zar.d).fCalls.getD (w.fLog.getD k Zak.d).fNth.toNat Zao.d,(w.fTasks.getD (w.fLog.getD k Zak.d).fWho.toNat Zar.d).fReplies.getD (w.fLog.getD k Zak.d).fNth.toNat Zai.d,-1,(k:Int),-1,0,0⟩
def outL(w:Zaz):Nat->List Zal|0=>[]|k+1=>if(w.fLog.getD k Zak.d).fLast=true then outL w k++[outS w k]else outL w k
theorem ZsP(w:Zaz):∀k,(outL w k).length<=k
 | 0=>Nat.le_refl _
 |k+1=>by
  have:=ZsP w k
  unfold outL
  split
  .rw[List.length_append,List.length_singleton];omega
  .omega
section
variable {w:Zaz} (hL:w.fLog.length<=400) (hg : ∀ s ∈ w.fLog,ky w.fTasks s)
include hL hg
theorem ZNh:∀(fu k:Nat)(m:List (ZaJ×Zal)),w.fLog.length-k<fu->k<=w.fLog.length->MapI w.fLog k m ->
  ZgO fu w.fLog (w.fLog.length:Int) (k:Int) (outL w k) w m=some (outL w w.fLog.length):=by
 intro fu;induction fu with
 |zero=>intro k m h;omega
 |succ fu ih=>
  intro k m r t g;simp only[ZgO];by_cases h:k<w.fLog.length
  .rw[Zag,iNb,Zap (by omega),Int.toNat_natCast,ZJz g (by omega) rfl,Option.bind_some,add1 h (by unfold maxLen;omega)];have hs:=hg _ (ZbU w.fLog Zak.d k h);have go:=ih (k+1) _ (by omega) (by omega) (MapI.put g rfl);have ho:=ZsP w k
   revert go
   rw[show outL w (k+1)=if(w.fLog.getD k Zak.d).fLast=true then outL w k++[outS w k]else outL w k from rfl];cases hl:(w.fLog.getD k Zak.d).fLast with
   |true=>
    intro go;rw[if_pos rfl]at go;rw[cond_true,Zap ⟨hs.who0,hs.who1⟩,Zap ⟨hs.nth0,hs.nth1⟩,Zap ⟨hs.nth0,hs.last hl⟩,Zap (by simp only[List.length_append,List.length_singleton,maxLen];omega)];have e:(Zal.mk (tal w.fLog (w.fLog.getD k Zak.d).fWho (w.fLog.getD k Zak.d).fNth (k+1)).fWho (tal w.fLog (w.fLog.getD k Zak.d).fWho (w.fLog.getD k Zak.d).fNth (k+1)).fNth ((w.fTasks.getD (w.fLog.getD k Zak.d).fWho.toNat Zar.d).fCalls.getD (w.fLog.getD k Zak.d).fNth.toNat Zao.d) ((w.fTasks.getD (w.fLog.getD k Zak.d).fWho.toNat Zar.d).fReplies.getD (w.fLog.getD k Zak.d).fNth.toNat Zai.d)
      (tal w.fLog (w.fLog.getD k Zak.d).fWho (w.fLog.getD k Zak.d).fNth (k+1)).fFirst (tal w.fLog (w.fLog.getD k Zak.d).fWho (w.fLog.getD k Zak.d).fNth (k+1)).fLast (tal w.fLog (w.fLog.getD k Zak.d).fWho (w.fLog.getD k Zak.d).fNth (k+1)).fMark (tal w.fLog (w.fLog.getD k Zak.d).fWho (w.fLog.getD k Zak.d).fNth (k+1)).fSteps (tal w.fLog (w.fLog.getD k Zak.d).fWho (w.fLog.getD k Zak.d).fNth (k+1)).fLost)=outS w k:=by
     obtain⟨_,_,_,_,_,i,j⟩:=Zti w.fLog (w.fLog.getD k Zak.d).fWho (w.fLog.getD k Zak.d).fNth (k+1);have o:(tal w.fLog (w.fLog.getD k Zak.d).fWho (w.fLog.getD k Zak.d).fNth (k+1)).fLast=(k:Int):=by
      show (if _ then _ else _:Zal).fLast=_;rw[if_pos ⟨rfl,rfl⟩];rfl
     rw[i,j,o];rfl
    rw[e];exact go
   |false=>
    intro go;rw[if_neg Bool.false_ne_true]at go;exact go
  .rw[Zag,iNa];rw[show k=w.fLog.length by omega]
theorem ZHP:Zjl w=some (outL w w.fLog.length):=by
 unfold Zjl;exact ZNh hL hg _ 0 [] (by omega) (by omega) fun who nth=>rfl
theorem ZHQ{at_:Nat}(ha:at_<w.fLog.length)(g:Int->List Zal->Zaz->Option (List Zal)){o:List Zal}(ho:o.length<=400) :
  ∀(fu i:Nat)(b6:Zal),at_+1-i<fu->i<=at_+1->b6.fWho=(w.fLog.getD at_ Zak.d).fWho->b6.fNth=(w.fLog.getD at_ Zak.d).fNth ->
   b6.fCall=(w.fTasks.getD (w.fLog.getD at_ Zak.d).fWho.toNat Zar.d).fCalls.getD (w.fLog.getD at_ Zak.d).fNth.toNat Zao.d ->
   b6.fReply=(w.fTasks.getD (w.fLog.getD at_ Zak.d).fWho.toNat Zar.d).fReplies.getD (w.fLog.getD at_ Zak.d).fNth.toNat Zai.d ->
   b6.fFirst=(tal w.fLog (w.fLog.getD at_ Zak.d).fWho (w.fLog.getD at_ Zak.d).fNth i).fFirst->b6.fLast=(at_:Int) ->
   b6.fMark=(tal w.fLog (w.fLog.getD at_ Zak.d).fWho (w.fLog.getD at_ Zak.d).fNth i).fMark ->
   b6.fSteps=(tal w.fLog (w.fLog.getD at_ Zak.d).fWho (w.fLog.getD at_ Zak.d).fNth i).fSteps ->
   b6.fLost=(tal w.fLog (w.fLog.getD at_ Zak.d).fWho (w.fLog.getD at_ Zak.d).fNth i).fLost ->
   Zbv (at_:Int) w g fu (i:Int) o (w.fLog.getD at_ Zak.d) b6=g ((at_+1:Nat):Int) (o++[outS w at_]) w:=by
 generalize hs:w.fLog.getD at_ Zak.d=s;intro fu;induction fu with
 |zero=>intro i b6 h;omega
 |succ fu ih=>
  intro i b6 H I u v C D j y A r t;simp only[Zbv];by_cases h:i<=at_
  .rw[Zag,iNb,Zap (by omega),Int.toNat_natCast,Zlr,Zlr,add1 (n:=401) (by omega) (by unfold maxLen;omega)];have step:tal w.fLog s.fWho s.fNth (i+1)=if(w.fLog.getD i Zak.d).fWho=s.fWho/\(w.fLog.getD i Zak.d).fNth=s.fNth then talS (tal w.fLog s.fWho s.fNth i) (w.fLog.getD i Zak.d) (i:Int)else tal w.fLog s.fWho s.fNth i:=rfl;by_cases B:(w.fLog.getD i Zak.d).fWho=s.fWho/\(w.fLog.getD i Zak.d).fNth=s.fNth
   .rw[if_pos B.1,if_pos B.2];rw[if_pos B]at step;obtain⟨J,L,jw,M,O,U,V⟩:=Zti w.fLog s.fWho s.fNth i;have G:∀b:Zal,b.fSteps=(tal w.fLog s.fWho s.fNth i).fSteps->b.fLost=(tal w.fLog s.fWho s.fNth i).fLost ->
      ZdG (at_:Int) w (i:Int) s g (Zbv (at_:Int) w g fu) o b (w.fLog.getD i Zak.d) =
      Zbv (at_:Int) w g fu ((i+1:Nat):Int) o s ⟨b.fWho,b.fNth,b.fCall,b.fReply,b.fFirst,b.fLast,if effE (w.fLog.getD i Zak.d)=true then(i:Int)else b.fMark,b.fSteps+1,if ZzZ (w.fLog.getD i Zak.d)=true then b.fLost+1 else b.fLost⟩:=fun b b1 b2=>by
     unfold ZdG;rw[Zwi,Zaw];have s1:Zau b.fSteps 1=b.fSteps+1:=Zbs (by omega) (by omega);have s2:Zau b.fLost 1=b.fLost+1:=Zbs (by omega) (by omega);have s3:=add1 (i:=i) (n:=401) (by omega) (by unfold maxLen;omega);unfold Zgi;simp only[s1,s2,s3];unfold ZzZ;cases effE (w.fLog.getD i Zak.d)<;>cases(w.fLog.getD i Zak.d).fOp.fKind==7<;>cases(w.fLog.getD i Zak.d).fGot.fN != 1<;>rfl
    have bm:∀b:Zal,b.fWho=s.fWho->b.fNth=s.fNth->b.fCall=b6.fCall->b.fReply=b6.fReply->b.fFirst=(if(tal w.fLog s.fWho s.fNth i).fFirst<0 then(i:Int)else(tal w.fLog s.fWho s.fNth i).fFirst)->b.fLast=(at_:Int)->b.fMark=b6.fMark->b.fSteps=b6.fSteps->b.fLost=b6.fLost ->
      ZdG (at_:Int) w (i:Int) s g (Zbv (at_:Int) w g fu) o b (w.fLog.getD i Zak.d)=g ((at_+1:Nat):Int) (o++[outS w at_]) w:=fun b t1 t2 t3 t4 t5 t6 t7 t8 t9=>by
     rw[G b (t8.trans r) (t9.trans t)];refine ih (i+1) _ (by omega) (by omega) t1 t2 (t3.trans C) (t4.trans D) ?_ t6 ?_ ?_ ?_
     .rw[step];exact t5
     .rw[step];show (if _ then _ else _)=if _ then _ else _;rw[t7,A]
     .rw[step];show b.fSteps+1=_+1;rw[t8,r]
     .rw[step];show (if _ then _ else _)=if _ then _ else _;rw[t9,t]
    rw[Zag];by_cases E:b6.fFirst<0
    .rw[if_pos E];exact bm _ u v rfl rfl (by rw[<-j,if_pos E]) y rfl rfl rfl
    .rw[if_neg E];exact bm _ u v rfl rfl (by rw[<-j,if_neg E]) y rfl rfl rfl
   .rw[if_neg B]at step;have go:=ih (i+1) b6 (by omega) (by omega) u v C D (by rw[step];exact j) y (by rw[step];exact A) (by rw[step];exact r) (by rw[step];exact t);by_cases F:(w.fLog.getD i Zak.d).fWho=s.fWho
    .rw[if_pos F,if_neg fun e=>B ⟨F,e⟩];exact go
    .rw[if_neg F];exact go
  .rw[Zag,iNa,Zap (by simp only[List.length_append,List.length_singleton,maxLen];omega),add1 (n:=401) (by omega) (by unfold maxLen;omega)];have ei:i=at_+1:=by omega
   rw[ei]at j A r t;have e:b6=outS w at_:=by
    unfold outS;rw[hs];cases b6;simp only at u v C D j y A r t;subst u v C D j y A r t;rfl
   rw[e]
theorem ZHR:∀(fu k:Nat),w.fLog.length-k<fu->k<=w.fLog.length->ZdH fu (k:Int) (outL w k) w=some (outL w w.fLog.length):=by
 intro fu;induction fu with
 |zero=>intro k h;omega
 |succ fu ih=>
  intro k e g;simp only[ZdH];by_cases h:k<w.fLog.length
  .rw[Zag,iNb,Zap (by omega),Int.toNat_natCast];have hs:=hg _ (ZbU w.fLog Zak.d k h);have go:=ih (k+1) (by omega) (by omega);have ho:=ZsP w k
   revert go
   rw[show outL w (k+1)=if(w.fLog.getD k Zak.d).fLast=true then outL w k++[outS w k]else outL w k from rfl];cases hl:(w.fLog.getD k Zak.d).fLast with
   |true=>
    intro go;rw[if_pos rfl]at go;rw[Bool.not_true,cond_false,Zap ⟨hs.who0,hs.who1⟩,Zap ⟨hs.nth0,hs.nth1⟩,Zap ⟨hs.nth0,hs.last hl⟩];refine(ZHQ hL hg h _ (o:=outL w k) (by omega) (((k:Int)-0).toNat+2) 0 (begS w k) (by omega) (by omega) rfl rfl rfl rfl rfl rfl rfl rfl rfl).trans ?_;exact go
   |false=>
    intro go;rw[if_neg Bool.false_ne_true]at go;rw[Bool.not_false,cond_true,add1 h (by unfold maxLen;omega)];exact go
  .rw[Zag,iNa];rw[show k=w.fLog.length by omega]
theorem ZBY:ZfV w=some (outL w w.fLog.length):=by
 unfold ZfV;exact ZHR hL hg _ 0 (by omega) (by omega)
end
theorem ZDq(l:List Zal)(hl:l.length<=1000)(j:∀d∈l,d.fReply.fPeers.length<=900000):Zik l l=some true:=by
 have iU:∀(x:Int)(a b:Option Bool),(bif(x != x)then a else b)=b:=fun x a b=>by rw[Zlr,if_pos rfl]
 have iV:∀{α:Type}[DecidableEq α](x:α)(a b:Option Bool),(bif(!(decide (x=x)))then a else b)=b:=fun x a b=>by simp
 have nT:∀(a b:Option Bool),(bif(!(decide True))then a else b)=b:=fun a b=>rfl;unfold Zik;rw[iU];have o:∀(e:Int->Option Bool)(i:Nat)(d:Zal),i<1000->d.fReply.fPeers.length<=900000->∀(fu k:Nat),d.fReply.fPeers.length-k<fu->k<=d.fReply.fPeers.length->Zfc l l (i:Int) e fu (k:Int) d d=e ((i+1:Nat):Int):=by
  intro e i d r g fu;induction fu with
  |zero=>intro k h;omega
  |succ fu ih=>
   intro k t u;simp only[Zfc];by_cases h:k<d.fReply.fPeers.length
   .rw[Zag,Zag,iNb,iNb,Zap (by omega),Zap (by omega)];simp only[nT,iV];rw[add1 h (by unfold maxLen;omega)];exact ih (k+1) (by omega) (by omega)
   .rw[Zag,iNa,add1 r (by unfold maxLen;omega)]
 have v:∀(fu k:Nat),l.length-k<fu->k<=l.length->Zfd l l fu (k:Int)=some true:=by
  intro fu;induction fu with
  |zero=>intro k h;omega
  |succ fu ih=>
   intro k t u;simp only[Zfd,iU,iV];by_cases h:k<l.length
   .rw[Zag,Zag,iNb,iNb,Zap (by omega),Zap (by omega),Int.toNat_natCast];have g:=j _ (ZbU l Zal.d k h);rw[show (0:Int)=((0:Nat):Int)from rfl,o _ k _ (by omega) g 1000000 0 (by omega) (by omega)];exact ih (k+1) (by omega) (by omega)
   .rw[Zag,iNa]
 exact v _ 0 (by omega) (by omega)
def ZqF(l:List Zar):Nat->Nat|0=>0|k+1=>if 0<(l.getD k Zar.d).fGot.length then ZqF l k+1 else ZqF l k
theorem ZwZ(l:List Zar):∀k,ZqF l k<=k
 | 0=>Nat.le_refl _
 |k+1=>by
  have:=ZwZ l k
  unfold ZqF
  split<;>omega
theorem ZJt(w:Zaz)(g:w.fTasks.length<=8):Zlm w=some (ZqF w.fTasks w.fTasks.length:Int):=by
 have e:∀(fu k:Nat),w.fTasks.length-k<fu->k<=w.fTasks.length->ZhV fu (ZqF w.fTasks k:Int) w.fTasks (w.fTasks.length:Int) (k:Int)=some (ZqF w.fTasks w.fTasks.length:Int):=by
  intro fu;induction fu with
  |zero=>intro k h;omega
  |succ fu ih=>
   intro k i j;simp only[ZhV];by_cases h:k<w.fTasks.length
   .have ho:=ZwZ w.fTasks k;have go:=ih (k+1) (by omega) (by omega);have eo:ZqF w.fTasks (k+1)=if 0<(w.fTasks.getD k Zar.d).fGot.length then ZqF w.fTasks k+1 else ZqF w.fTasks k:=rfl;rw[Zag,iNb,Zap (by omega),Int.toNat_natCast,Zag,add1 h (by unfold maxLen;omega),add1 (n:=9) (by omega) (by unfold maxLen;omega)];by_cases hg:0<(w.fTasks.getD k Zar.d).fGot.length
    .rw[if_pos hg]at eo;rw[eo]at go;rw[iNb];exact go
    .rw[if_neg hg]at eo;rw[eo]at go;rw[iNa];exact go
   .rw[Zag,iNa,show k=w.fTasks.length by omega]
 unfold Zlm;exact e _ 0 (by omega) (by omega)
theorem ZLA(w:Zaz)(j:w.fTasks.length<=8)(hL:w.fLog.length<=400)(hg:∀s∈w.fLog,ky w.fTasks s)(o:∀t∈w.fTasks,∀r∈t.fReplies,r.fPeers.length<=900000)(hA:ZeU=some true) :
  ∀(fu k:Nat),w.fTasks.length-k<fu->k<=w.fTasks.length->Zcb fu (ZqF w.fTasks k:Int) (k:Int) w=some true:=by
 have bI:∀k,∀d∈outL w k,d.fReply.fPeers.length<=900000:=by
  intro k;induction k with
  |zero=>intro d g;cases g
  |succ k ih=>
   intro d g;unfold outL at g;split at g
   .rcases List.mem_append.1 g with e|e
    .exact ih d e
    .rw[List.mem_singleton.1 e];show ((w.fTasks.getD (w.fLog.getD k Zak.d).fWho.toNat Zar.d).fReplies.getD (w.fLog.getD k Zak.d).fNth.toNat Zai.d).fPeers.length<=900000;rcases Zub (w.fTasks.getD (w.fLog.getD k Zak.d).fWho.toNat Zar.d).fReplies Zai.d (w.fLog.getD k Zak.d).fNth.toNat with e1|e1
     .rcases Zub w.fTasks Zar.d (w.fLog.getD k Zak.d).fWho.toNat with e2|e2
      .exact o _ e2 _ e1
      .rw[e2]at e1;cases e1
     .rw[e1];exact Nat.zero_le _
   .exact ih d g
 have u:∀(v7:Int)(i:Int->Int->Zaz->Option Bool)(fu k:Nat),w.fLog.length-k<fu->k<=w.fLog.length->Zdm (ZqF w.fTasks w.fTasks.length:Int) v7 w i fu (k:Int)=some true:=by
  intro v7 i fu;induction fu with
  |zero=>intro k h;omega
  |succ fu ih=>
   intro k v y;simp only[Zdm];by_cases h:k<w.fLog.length
   .rw[Zag,iNb,Zap (by omega),ZxN,Zwi,Zaw,Zaw,beq_self_eq_true,Bool.not_true,cond_false,add1 h (by unfold maxLen;omega)];exact ih (k+1) (by omega) (by omega)
   .have ho:=ZsP w w.fLog.length;rw[Zag,iNa,ZHP hL hg,Zaw,ZBY hL hg,Zaw,ZDq _ (by omega) (bI _),Zaw,cond_true,ZJt w j,Zaw,beq_self_eq_true,cond_true,hA];rfl
 intro fu;induction fu with
 |zero=>intro k h;omega
 |succ fu ih=>
  intro k v y;simp only[Zcb];by_cases h:k<w.fTasks.length
  .have ho:=ZwZ w.fTasks k;have go:=ih (k+1) (by omega) (by omega);have eo:ZqF w.fTasks (k+1)=if 0<(w.fTasks.getD k Zar.d).fGot.length then ZqF w.fTasks k+1 else ZqF w.fTasks k:=rfl;rw[Zag,iNb,Zap (by omega),Int.toNat_natCast,Zag,add1 h (by unfold maxLen;omega),add1 (n:=9) (by omega) (by unfold maxLen;omega)];by_cases hg:0<(w.fTasks.getD k Zar.d).fGot.length
   .rw[if_pos hg]at eo;rw[eo]at go;rw[iNb];exact go
   .rw[if_neg hg]at eo;rw[eo]at go;rw[iNa];exact go
  .rw[Zag,iNa,show k=w.fTasks.length by omega];exact u _ _ 1000000 0 (by omega) (by omega)
theorem ZEI:ZeU=some true:=by decide +kernel
structure ZQu (st:ZaI):Prop where
 bans:st.fState.fBans.length<=20
 book:st.fState.fBook.length<=20
 peers:st.fState.fPeers.length<=20
 s1:1<=st.fConf.fShards
 s2:st.fConf.fShards<=8
 tasks:st.fCalls.length<=8
 calls:∀l∈st.fCalls,l.length<=12
theorem ZHp(st:ZaI)(bD:st.ok):∃b,ZhP st=some b/\(b=true->ZQu st):=by
 unfold ZhP;obtain⟨b1,r,B⟩:=ZOl st.fState;rw[r,Zaw];cases b1 with
 |false=>exact⟨false,rfl,fun e=>by cases e⟩
 |true=>
  obtain⟨p1,p2,p3⟩:=B rfl;obtain⟨b2,t,C⟩:=ZOE st.fConf st.fState bD.2.1 p1 p2 p3;rw[Bool.not_true,cond_false,t,Zaw];cases b2 with
  |false=>exact⟨false,rfl,fun e=>by cases e⟩
  |true=>
   obtain⟨s1,s2⟩:=ZLX (C rfl).conf;rw[Bool.not_true,cond_false,Zag,Zag];by_cases u:((st.fCalls.length:Nat):Int)>8
   .rw[if_pos u];exact⟨false,rfl,fun e=>by cases e⟩
   rw[if_neg u];by_cases y:((st.fPicks.length:Nat):Int)>400
   .rw[if_pos y];exact⟨false,rfl,fun e=>by cases e⟩
   rw[if_neg y];have D:∀(fu i:Nat)(v:Int),st.fCalls.length-i<fu->∃b,ZeP fu v (i:Int) st=some b/\(b=true->∀j,i<=j->j<st.fCalls.length->(st.fCalls.getD j []).length<=12):=by
    intro fu;induction fu with
    |zero=>intro i v h;omega
    |succ fu ih=>
     intro i v E;simp only[ZeP];by_cases h:i<st.fCalls.length
     .rw[Zag,iNb,Zap (by omega),Int.toNat_natCast,Zag,add1 (n:=9) (by omega) (by unfold maxLen;omega)];by_cases A:(((st.fCalls.getD i []).length:Nat):Int)>12
      .rw[if_pos A];exact⟨false,rfl,fun e=>by cases e⟩
      .rw[if_neg A];obtain⟨b,d,g⟩:=ih (i+1) (Zau v (((st.fCalls.getD i []).length:Nat):Int)) (by omega);exact⟨b,d,fun hb j o hl=>by
        by_cases e:j=i
        .rw[e];omega
        .exact g hb j (by omega) hl⟩
     .rw[Zag,iNa];exact⟨_,rfl,fun _ j r t=>by omega⟩
   obtain⟨b,d,g⟩:=D 1000000 0 0 (by omega);refine⟨b,d,fun hb=>⟨p1,p2,p3,s1,s2,by omega,fun l hl=>?_⟩⟩;obtain⟨j,o,rfl⟩:=List.mem_iff_getElem.1 hl;have:=g hb j (Nat.zero_le _) o;simpa[List.getD_eq_getElem?_getD,o]using this
theorem ZPZ(c:Zaq)(s:ZaN)(hs:s.ok)(g:s.fBans.length<=20)(j:s.fBook.length<=20)(t:s.fPeers.length<=20):∃m,ZfN c s=some m/\MI (Zcg c.fShards) 20 m:=by
 refine⟨_,ZMA c s hs.2.2.1.2 (by omega) (by omega),?_⟩;have u:=Zsq s.fPeers true;have v:=Zsq s.fPeers false;have A:0<=Zly s.fBook 2/\Zly s.fBook 2<=20:=by
  unfold Zly;have:=List.countP_le_length (p:=fun x:Zab=>decide (x.fState=2)) (l:=s.fBook);omega
 unfold memM;refine⟨ZnS (by show _<=cntP s.fPeers true;omega) (by show cntP s.fPeers true<=_;omega),ZnS (by show _<=cntP s.fPeers false+Zly s.fBook 2;omega) (by show cntP s.fPeers false+Zly s.fBook 2<=_;omega),hs.1.2,g,hs.2.1.2,j,by show (shP _).length=_;rw[ZDm,ZDz],fun x hx=>?_,by show (lks _ _).length=_;simp[lks],fun k d=>?_⟩
 .obtain⟨y,o,rfl⟩:=List.mem_map.1 hx;obtain⟨i,B,rfl⟩:=List.mem_map.1 o;have C:(Znf s.fPeers c.fSecret c.fShards i).length<=s.fPeers.length:=List.length_filter_le ..;have r:∀p∈Znf s.fPeers c.fSecret c.fShards i++[],p.ok:=fun p e=>by
   rw[List.append_nil]at e;exact hs.2.2.1.2 p (List.mem_filter.1 e).1
  exact⟨ZnS (by show _<=((Znf s.fPeers c.fSecret c.fShards i).length:Int);omega) (by show ((Znf s.fPeers c.fSecret c.fShards i).length:Int)<=_;omega),by show ((Znf s.fPeers c.fSecret c.fShards i).length:Int)<=_;omega,r,by show (Znf s.fPeers c.fSecret c.fShards i++[]).length<=20;rw[List.append_nil];omega⟩
 .have:k.fShare=[]:=by
   have d:k∈lks _ _:=d;simp only[lks,List.mem_map]at d;obtain⟨_,_,rfl⟩:=d;rfl
  rw[this];exact Nat.zero_le _
theorem ZJB(c:Zaq)(s:ZaN)(l:List (List Zao)){m:ZaW}(d:ZfN c s=some m)(hl:l.length<=8):ZgX c s l=some ⟨c,m,l.map fun x=>⟨x,0,[],[],false⟩,[]⟩:=by
 unfold ZgX;rw[d,Zaw];have au:∀(fu i:Nat)(z:Zaz),l.length-i<fu->i<=l.length->ZfE l fu (i:Int) z c m ((l.take i).map fun x=>⟨x,0,[],[],false⟩) []=some ⟨c,m,l.map fun x=>⟨x,0,[],[],false⟩,[]⟩:=by
  intro fu;induction fu with
  |zero=>intro i z h;omega
  |succ fu ih=>
   intro i z g j;simp only[ZfE];by_cases h:i<l.length
   .rw[Zag,iNb,Zap (by omega),Int.toNat_natCast,Zap (by simp only[List.length_append,List.length_map,List.length_take,List.length_singleton,maxLen];omega),add1 h (by unfold maxLen;omega)];have e:((l.take i).map fun x=>(⟨x,0,[],[],false⟩ : Zar))++[⟨l.getD i [],0,[],[],false⟩]=(l.take (i+1)).map fun x=>⟨x,0,[],[],false⟩:=by
     rw[List.take_succ_eq_append_getElem h,List.map_append];simp[List.getD_eq_getElem?_getD,h]
    rw[e];exact ih (i+1) z (by omega) (by omega)
   .rw[Zag,iNa,List.take_of_length_le (by omega)]
 exact au _ 0 _ (by omega) (by omega)
theorem ZsH(st:ZaI)(most:Int)(bD:st.ok)(dI:okI .i64 most):Zhs st most=some true:=by
 unfold Zhs;obtain⟨b,o,u⟩:=ZHp st bD;rw[o,Zaw];cases b with
 |false=>rw[Bool.not_false,cond_true,ZEI];rfl
 |true=>
  have hL:=u rfl;rw[Bool.not_true,cond_false,Zag];by_cases i:most>300
  .rw[if_pos i,ZEI];rfl
  rw[if_neg i];obtain⟨m,m1,m2⟩:=ZPZ st.fConf st.fState bD.2.1 hL.bans hL.book hL.peers;have j:=Zja st.fConf.fShards;have hA:=autoT hL.s1 hL.s2;rw[ZJB _ _ _ m1 hL.tasks,Zaw];have v:WdI st.fConf (ResT st.fConf) (Zcg st.fConf.fShards) 20 ⟨st.fConf,m,st.fCalls.map fun x=>⟨x,0,[],[],false⟩,[]⟩:=by
   refine⟨rfl,m2,by show (st.fCalls.map _).length<=8;rw[List.length_map];exact hL.tasks,fun t g=>?_,Nat.zero_le _,fun s hs=>by cases hs⟩;obtain⟨x,hx,rfl⟩:=List.mem_map.1 g;have ho:okL Zao.ok x:=bD.2.2.1.2 x hx;refine⟨ho.2,hL.calls x hx,Int.le_refl _,by show (0:Int)<=(x.length:Int);omega,rfl,Nat.zero_le _,fun r y=>(by cases y),fun e=>?_⟩;have e:(0:Int)<(x.length:Int):=e;exact hA.new (ho.2 _ (ZbU x Zao.d _ (by show (0:Int).toNat<_;omega))) (by omega)
  have A:∃w,ZgW ⟨st.fConf,m,st.fCalls.map fun x=>⟨x,0,[],[],false⟩,[]⟩ st.fPicks most=some w/\WdI st.fConf (ResT st.fConf) (Zcg st.fConf.fShards) 330 w:=by
   unfold ZgW;exact ZOz hA j.1 j.2 st.fPicks most (by omega) _ _ 0 _ (by omega) (by omega) v
  obtain⟨w,w1,w2⟩:=A;rw[w1,Zaw];exact ZLA w w2.ntask (by have:=w2.nlog;omega) w2.log (fun t g=>(w2.tasks t g).peers) ZEI 1000000 0 (by have:=w2.ntask;omega) (by omega)
end Go.Proofs.YtnigiacmmedkhaaGreat
