import Derived.Test.YtmnloegcpaahcaaGreatBPlTa
namespace Go.Proofs.YtmnloegcpaahcaaGreat
set_option linter.unusedVariables false
set_option linter.unusedSimpArgs false
def Zbk(p:Int):Nat:=if p<1 then 1 else if p>8 then 8 else p.toNat
theorem Zij(p:Int):1<=Zbk p/\Zbk p<=8:=by unfold Zbk;split<;>(try split)<;>omega
theorem ZtG(p:Int):ZiE p=some (Zbk p:Int):=by
 unfold ZiE Zbk;congr 1
 repeat' split
 all_goals omega
theorem Zxc(p:Int):Zdu p=some (Zbk p:Int):=by
 unfold Zdu Zbk;simp only[Zai]
 repeat' split
 all_goals first|rfl | (congr 1;omega)|omega
theorem ZJL{i:Nat}(h:i<=1000000):Zbd ((i+1:Nat):Int) 1=(i:Int):=by
 unfold Zbd;have:IntKind.i64.wrap (((i+1:Nat):Int)-1)=((i+1:Nat):Int)-1:=Zmp (by omega) (by omega);exact this.trans (by omega)
theorem sub0:Zbd 0 1 = -1:=by decide
theorem ZxQ(l:List Zae)(h:l.length<=1000000):ZgX l l=some true:=by
 have aK:∀(k i f:Nat),l.length-i=k->i<=l.length->k+1<=f->Zde l l f i=some true:=by
  intro k;induction k with
  |zero=>
   intro i f d hi g;obtain⟨f,rfl⟩ : ∃x,f=x+1:=⟨f-1,by omega⟩;have b:¬((i:Int)<(l.length:Int)):=by omega
   unfold Zde;simp only[Zai,if_neg b]
  |succ k ih=>
   intro i f d hi g;obtain⟨f,rfl⟩ : ∃x,f=x+1:=⟨f-1,by omega⟩;have b:(i:Int)<(l.length:Int):=by omega
   have j:Zan (i:Int) 1=((i+1:Nat):Int):=add1 (n:=i+1) (by omega) (by simp only[maxLen];omega);unfold Zde;simp only[Zai,if_pos b,j,decide_true,Bool.not_true,cond_false];rw[Zar (by omega),Zar (by omega)];exact ih (i+1) f (by omega) (by omega) (by omega)
 unfold ZgX;simp only[bne_self_eq_false,cond_false];exact aK l.length 0 _ (by omega) (by omega) (by omega)
theorem ZxP(l:List Zac)(h:l.length<=1000000):ZgW l l=some true:=by
 have aK:∀(k i f:Nat),l.length-i=k->i<=l.length->k+1<=f->Zdd l l f i=some true:=by
  intro k;induction k with
  |zero=>
   intro i f d hi g;obtain⟨f,rfl⟩ : ∃x,f=x+1:=⟨f-1,by omega⟩;have b:¬((i:Int)<(l.length:Int)):=by omega
   unfold Zdd;simp only[Zai,if_neg b]
  |succ k ih=>
   intro i f d hi g;obtain⟨f,rfl⟩ : ∃x,f=x+1:=⟨f-1,by omega⟩;have b:(i:Int)<(l.length:Int):=by omega
   have j:Zan (i:Int) 1=((i+1:Nat):Int):=add1 (n:=i+1) (by omega) (by simp only[maxLen];omega);unfold Zdd;simp only[Zai,if_pos b,j,decide_true,Bool.not_true,cond_false];rw[Zar (by omega),Zar (by omega)];exact ih (i+1) f (by omega) (by omega) (by omega)
 unfold ZgW;simp only[bne_self_eq_false,cond_false];exact aK l.length 0 _ (by omega) (by omega) (by omega)
theorem Zrt(l:List Zaa)(h:l.length<=1000000):Zfw l l=some true:=by
 have aK:∀(k i f:Nat),l.length-i=k->i<=l.length->k+1<=f->ZcR l l f i=some true:=by
  intro k;induction k with
  |zero=>
   intro i f d hi g;obtain⟨f,rfl⟩ : ∃x,f=x+1:=⟨f-1,by omega⟩;have b:¬((i:Int)<(l.length:Int)):=by omega
   unfold ZcR;simp only[Zai,if_neg b]
  |succ k ih=>
   intro i f d hi g;obtain⟨f,rfl⟩ : ∃x,f=x+1:=⟨f-1,by omega⟩;have b:(i:Int)<(l.length:Int):=by omega
   have j:Zan (i:Int) 1=((i+1:Nat):Int):=add1 (n:=i+1) (by omega) (by simp only[maxLen];omega);unfold ZcR;simp only[Zai,if_pos b,j,decide_true,Bool.not_true,cond_false];rw[Zar (by omega),Zar (by omega)];exact ih (i+1) f (by omega) (by omega) (by omega)
 unfold Zfw;simp only[bne_self_eq_false,cond_false];exact aK l.length 0 _ (by omega) (by omega) (by omega)
theorem Zwv(r:Zau)(h:r.fPeers.length<=1000000):Zfv r r=some true:=by
 unfold Zfv;simp only[beq_self_eq_true,decide_true,cond_true,Zrt _ h,ZaJ]
structure Cx where
 c:List Zaa
 b:Int
 s:Int
def InR(K:Cx)(x:Int):Prop:=(0<=x/\x<((K.c.length:Nat):Int))/\(K.c.getD x.toNat Zaa.d).fEnd.fAddr.ok
def Rg(K:Cx)(l:List Int):Prop:=∀x∈l,InR K x
theorem Rg.app{K:Cx}{l r:List Int}(h:Rg K l)(b:Rg K r):Rg K (l++r):=fun x hx=>(List.mem_append.1 hx).elim (h x) (b x)
theorem Rg.take{K:Cx}{l:List Int}(h:Rg K l)(k:Nat):Rg K (l.take k):=fun x hx=>h x (List.mem_of_mem_take hx)
theorem Rg.drop{K:Cx}{l:List Int}(h:Rg K l)(k:Nat):Rg K (l.drop k):=fun x hx=>h x (List.mem_of_mem_drop hx)
theorem Rg.get{K:Cx}{l:List Int}(h:Rg K l){i:Nat}(hi:i<l.length):InR K (l.getD i 0):=by rw[ZbT l _ i hi];exact h _ (List.getElem_mem hi)
def keyZ(s:Int)(p:Zaa):Int:=(ZmO s (grp p.fEnd.fAddr)).getD 0
def kv(b s:Int)(p:Zaa):Int:=if b=1 then-keyZ s p else if b=2 then p.fPing else if b=3 then-p.fWork else if b=4 then p.fSince else 0
def Zoi(b s:Int)(p q:Zaa):Int:=orI (cmpI (kv b s p) (kv b s q)) (cmpE p.fEnd q.fEnd)
theorem ZsO{b s:Int}{p q:Zaa}:Zoi b s p q<0↔kv b s p<kv b s q\/(kv b s p=kv b s q/\cmpE p.fEnd q.fEnd<0):=by simp only[Zoi,ZDc,ZyP,ZmZ]
theorem ZDM(a b:Int):cmpI b a=cmpI (-a) (-b):=by
 unfold cmpI
 repeat' split
 all_goals omega
theorem ZCX(p:Zaa)(s:Int)(h:p.fEnd.fAddr.ok):Zmw p s=some (keyZ s p):=by
 obtain⟨m,b,_,_⟩:=ZBB s (grp p.fEnd.fAddr);unfold Zmw keyZ;rw[Zuw _ h,ZaJ,b,ZaJ];rfl
theorem ZzE(p q:Zaa)(b s:Int)(hp:p.fEnd.fAddr.ok)(o:q.fEnd.fAddr.ok):ZjL p q b s=some (cmpI (kv b s p) (kv b s q)):=by
 unfold ZjL kv;simp only[ZCX _ _ hp,ZCX _ _ o,ZHp,Zwc,ZaJ,ZfN];by_cases d:b=1
 .simp only[if_pos d,<-ZDM]
 .simp only[if_neg d];by_cases g:b=2
  .simp only[if_pos g]
  .simp only[if_neg g];by_cases h:b=3
   .simp only[if_pos h,<-ZDM]
   .simp only[if_neg h];by_cases j:b=4
    .simp only[if_pos j]
    .simp only[if_neg j];rfl
theorem ZGg(p q:Zaa)(b s:Int)(hp:p.fEnd.fAddr.ok)(d:q.fEnd.fAddr.ok):ZmL p q b s=some (Zoi b s p q):=by
 unfold ZmL Zoi;simp only[ZzE _ _ _ _ hp d,ZDG,or2,ZaJ]
def cmpJ(K:Cx)(x y:Int):Int:=Zoi K.b K.s (K.c.getD x.toNat Zaa.d) (K.c.getD y.toNat Zaa.d)
def ltJ(K:Cx)(x y:Int):Bool:=decide (cmpJ K x y<0)
theorem ZrM{K:Cx}{x y:Int}:ltJ K x y=true↔cmpJ K x y<0:=by unfold ltJ;simp
theorem Zxl{K:Cx}{x y:Int}:ltJ K x y=false↔¬cmpJ K x y<0:=by unfold ltJ;simp
theorem Zuy{K:Cx}{x y:Int}(hx:InR K x)(d:InR K y):Zgs x y K.c K.b K.s=some (cmpJ K x y):=by
 unfold Zgs cmpJ;rw[Zar hx.1,Zar d.1,ZGg _ _ _ _ hx.2 d.2];rfl
theorem ZBM{b s:Int}{p q r:Zaa}(g:Zoi b s p q<0)(d:Zoi b s q r<0):Zoi b s p r<0:=by
 rw[ZsO]at *
 rcases g with g|⟨g,j⟩
 .rcases d with d|⟨d,h⟩
  .left;omega
  .left;omega
 .rcases d with d|⟨d,h⟩
  .left;omega
  .right;exact⟨by omega,ZoS j h⟩
theorem ZGR{b s:Int}{p q r:Zaa}(g:¬Zoi b s p q<0)(d:¬Zoi b s q r<0):¬Zoi b s p r<0:=by
 rw[ZsO]at *
 rintro (h|⟨h,j⟩)
 .by_cases e:kv b s p=kv b s q
  .exact d (.inl (by omega))
  .by_cases o:kv b s p<kv b s q
   .exact g (.inl o)
   .exact d (.inl (by omega))
 .by_cases e:kv b s p=kv b s q
  .have n1:¬cmpE p.fEnd q.fEnd<0:=fun x=>g (.inr ⟨e,x⟩);have n2:¬cmpE q.fEnd r.fEnd<0:=fun x=>d (.inr ⟨by omega,x⟩);have e4:cmpE p.fEnd q.fEnd=0\/0<cmpE p.fEnd q.fEnd:=by omega
   rcases e4 with e4|e4
   .rw[ZhM.1 e4]at j;exact n2 j
   .exact n2 (ZoS (ZiT.1 e4) j)
  .by_cases o:kv b s p<kv b s q
   .exact g (.inl o)
   .exact d (.inl (by omega))
theorem ZGS(b s:Int)(p:Zaa):¬Zoi b s p p<0:=by
 rw[ZsO];rintro (h|⟨_,h⟩)
 .omega
 .rw[ZhM.2 rfl]at h;omega
theorem Zst{K:Cx}{x y z:Int}(b:ltJ K x y=true)(d:ltJ K y z=true):ltJ K x z=true:=by
 rw[ZrM]at *;exact ZBM b d
theorem ZmF{K:Cx}{x y z:Int}(b:ltJ K x y=false)(d:ltJ K y z=false):ltJ K x z=false:=by
 rw[Zxl]at *;exact ZGR b d
theorem ZBG{K:Cx}(x:Int):ltJ K x x=false:=by rw[Zxl];exact ZGS _ _ _
theorem ZDp{K:Cx}{x y:Int}(h:ltJ K x y=true):ltJ K y x=false:=by
 cases b:ltJ K y x with
 |false=>rfl
 |true=>have:=Zst h b;rw[ZBG]at this;cases this
theorem ZIb{α:Type}(L R:List α)(x y:α):(L++x :: R).set L.length y=L++y :: R:=by
 induction L with
 |nil=>rfl
 |cons z L ih=>simp[ih]
theorem ZDy{α:Type}(L R:List α)(x d:α):(L++x :: R).getD L.length d=x:=by
 induction L with
 |nil=>rfl
 |cons z L ih=>simp
theorem Zqg{α:Type}{l L R:List α}{x y:α}{k:Nat}(h:l=L++x :: R)(b:k=L.length):l.set k y=L++y :: R:=by rw[h,b,ZIb]
theorem ZnT{α:Type}{l L R:List α}{x d:α}{k:Nat}(h:l=L++x :: R)(b:k=L.length):l.getD k d=x:=by rw[h,b,ZDy]
abbrev Ins:=List Int
variable {K:Cx}
theorem ZEk(P B Q:Ins):∀(k:Nat)(A1 A2 C1 C2:Ins)(fu:Nat),A2.length=k->C2.length=k->A1.length=C1.length->k+1<=fu->P.length+B.length+Q.length+2*(A1.length+k)<=1000000 ->
  Zbq (P.length:Int) ((P.length+(A1.length+k)+B.length:Nat):Int) ((A1.length+k:Nat):Int) fu (A1.length:Int) (P++(C1++(A2++(B++(A1++(C2++Q))))))=some (P++(C1++(C2++(B++(A1++(A2++Q)))))):=by
 intro k;induction k with
 |zero=>
  intro A1 A2 C1 C2 fu b d g h hb;obtain⟨fu,rfl⟩ : ∃x,fu=x+1:=⟨fu-1,by omega⟩;obtain rfl:=List.eq_nil_of_length_eq_zero b;obtain rfl:=List.eq_nil_of_length_eq_zero d;unfold Zbq;rw[Zai,if_neg (by omega)]
 |succ k ih=>
  intro A1 A2 C1 C2 fu b d g h hb;obtain⟨fu,rfl⟩ : ∃x,fu=x+1:=⟨fu-1,by omega⟩;cases A2 with
  |nil=>cases b
  |cons a A2=>
   cases C2 with
   |nil=>cases d
   |cons c C2=>
    simp only[List.length_cons,Nat.add_right_cancel_iff]at b d;unfold Zbq;have j:Zan (P.length:Int) (A1.length:Int)=((P.length+A1.length:Nat):Int):=by rw[Zcs (by omega) (by omega)];omega
    have o:Zan ((P.length+(A1.length+(k+1))+B.length:Nat):Int) (A1.length:Int)=((P.length+(A1.length+(k+1))+B.length+A1.length:Nat):Int):=by rw[Zcs (by omega) (by omega)];omega
    have p:Zan (A1.length:Int) 1=((A1.length+1:Nat):Int):=by rw[Zcs (by omega) (by omega)];omega
    have hl:(P++(C1++(a :: A2++(B++(A1++(c :: C2++Q)))))).length=P.length+B.length+Q.length+2*(A1.length+(k+1)):=by simp;omega
    rw[Zai,if_pos (by omega),j,o,p,Zar (by rw[hl];omega),Zar (by rw[hl];omega)];simp only[Int.toNat_natCast];have t:(P++(C1++(a :: A2++(B++(A1++(c :: C2++Q)))))).getD (P.length+(A1.length+(k+1))+B.length+A1.length) 0=c:=
     ZnT (L:=P++(C1++(a :: A2++(B++A1)))) (R:=C2++Q) (by simp) (by simp;omega)
    have u:(P++(C1++(a :: A2++(B++(A1++(c :: C2++Q)))))).getD (P.length+A1.length) 0=a:=
     ZnT (L:=P++C1) (R:=A2++(B++(A1++(c :: C2++Q)))) (by simp) (by simp;omega)
    have s1:(P++(C1++(a :: A2++(B++(A1++(c :: C2++Q)))))).set (P.length+A1.length) c=P++(C1++(c :: A2++(B++(A1++(c :: C2++Q))))):=by
     rw[Zqg (L:=P++C1) (x:=a) (R:=A2++(B++(A1++(c :: C2++Q)))) (by simp) (by simp;omega)];simp
    have s2:(P++(C1++(c :: A2++(B++(A1++(c :: C2++Q)))))).set (P.length+(A1.length+(k+1))+B.length+A1.length) a=P++(C1++(c :: A2++(B++(A1++(a :: C2++Q))))):=by
     rw[Zqg (L:=P++(C1++(c :: A2++(B++A1)))) (x:=c) (R:=C2++Q) (by simp) (by simp;omega)];simp
    rw[t,u,s1,s2];have:=ih (A1++[a]) A2 (C1++[c]) C2 fu b d (by simp;omega) (by omega) (by simp;omega);simp only[List.length_append,List.length_singleton,List.append_assoc,List.singleton_append,List.cons_append]at this ⊢;have x1:A1.length+1+k=A1.length+(k+1):=by omega
    rw[x1]at this;exact this
theorem ZxJ(P A B C Q:Ins)(h:A.length=C.length)(hb:P.length+B.length+Q.length+2*A.length<=1000000)(a b n:Int)(ha:a=(P.length:Int))(ir:b=((P.length+A.length+B.length:Nat):Int))(d:n=(A.length:Int)) :
  ZbN (P++(A++(B++(C++Q)))) a b n K.c K.b K.s=some (P++(C++(B++(A++Q)))):=by
 subst ha ir d;unfold ZbN;have:=ZEk P B Q A.length [] A [] C (((A.length:Int)-0).toNat+2) rfl h.symm rfl (by omega) (by simpa using hb);simpa using this
theorem ZFP(m:Nat):∀(s:Nat)(P X Y Q:Ins)(fu:Nat),X.length+Y.length<=s->0<X.length->0<Y.length->m=P.length+X.length->P.length+X.length+Y.length+Q.length<=1000000->s+1<=fu ->
  ZbC (m:Int) K.c K.b K.s fu (X.length:Int) (Y.length:Int) (P++(X++(Y++Q)))=some (P++(Y++(X++Q))):=by
 intro s;induction s with
 |zero=>intro P X Y Q fu p d;omega
 |succ s ih=>
  intro P X Y Q fu p d y t hb z;obtain⟨fu,rfl⟩ : ∃x,fu=x+1:=⟨fu-1,by omega⟩;unfold ZbC;have j:Zbd (m:Int) (X.length:Int)=(P.length:Int):=by rw[ZeA (by omega) (by omega)];omega
  by_cases he:X.length=Y.length
  .have g:((X.length:Int) != (Y.length:Int))=false:=by rw[he];simp
   rw[g,cond_false,j];have:=ZxJ (K:=K) P X [] Y Q he (by simp;omega) (P.length:Int) (m:Int) (X.length:Int) rfl (by simp[t]) rfl;simp only[List.nil_append]at this;rw[this];rfl
  .have g:((X.length:Int) != (Y.length:Int))=true:=by rw[bne_iff_ne];omega
   rw[g,cond_true,Zai,j];by_cases A:Y.length<X.length
   .obtain⟨X1,X2,rfl,hx⟩ : ∃X1 X2,X=X1++X2/\X1.length=Y.length:=⟨X.take Y.length,X.drop Y.length,(List.take_append_drop ..).symm,by simp;omega⟩;simp only[List.length_append]at *
    have h:Zbd ((X1.length+X2.length:Nat):Int) (Y.length:Int)=(X2.length:Int):=by rw[ZeA (by omega) (by omega)];omega
    rw[if_pos (by omega),h];have:=ZxJ (K:=K) P X1 X2 Y Q hx (by omega) (P.length:Int) (m:Int) (Y.length:Int) rfl (by omega) (by omega);simp only[List.append_assoc]at this ⊢;rw[this,ZaJ];have d:=ih (P++Y) X2 X1 Q fu (by omega) (by omega) (by omega) (by simp;omega) (by simp;omega) (by omega);simp only[List.append_assoc,hx]at d;exact d
   .obtain⟨Y1,Y2,rfl,o⟩ : ∃Y1 Y2,Y=Y1++Y2/\Y2.length=X.length:=⟨Y.take (Y.length-X.length),Y.drop (Y.length-X.length),(List.take_append_drop ..).symm,by simp;omega⟩;simp only[List.length_append]at *
    have h:Zbd ((Y1.length+Y2.length:Nat):Int) (X.length:Int)=(Y1.length:Int):=by rw[ZeA (by omega) (by omega)];omega
    have u:Zan (m:Int) ((Y1.length+Y2.length:Nat):Int)=((m+Y1.length+Y2.length:Nat):Int):=by rw[Zcs (by omega) (by omega)];omega
    have v:Zbd ((m+Y1.length+Y2.length:Nat):Int) (X.length:Int)=((P.length+X.length+Y1.length:Nat):Int):=by rw[ZeA (by omega) (by omega)];omega
    rw[if_neg (by omega),h,u,v];have:=ZxJ (K:=K) P X Y1 Y2 Q o.symm (by omega) (P.length:Int) ((P.length+X.length+Y1.length:Nat):Int) (X.length:Int) rfl rfl rfl;simp only[List.append_assoc]at this ⊢;rw[this,ZaJ];have d:=ih P Y2 Y1 (X++Q) fu (by omega) (by omega) (by omega) (by omega) (by simp;omega) (by omega);simp only[List.append_assoc,o]at d;exact d
theorem ZJU(P X Y Q:Ins)(d:0<X.length)(g:0<Y.length)(hb:P.length+X.length+Y.length+Q.length<=900000)(a m b:Int)(ha:a=(P.length:Int))(h:m=((P.length+X.length:Nat):Int))(ir:b=((P.length+X.length+Y.length:Nat):Int)) :
  ZcD (P++(X++(Y++Q))) a m b K.c K.b K.s=some (P++(Y++(X++Q))):=by
 subst ha h ir;unfold ZcD;have j:Zbd ((P.length+X.length:Nat):Int) (P.length:Int)=(X.length:Int):=by rw[ZeA (by omega) (by omega)];omega
 have o:Zbd ((P.length+X.length+Y.length:Nat):Int) ((P.length+X.length:Nat):Int)=(Y.length:Int):=by rw[ZeA (by omega) (by omega)];omega
 rw[j,o];exact ZFP _ (X.length+Y.length) P X Y Q 1000000 (Nat.le_refl _) d g rfl (by omega) (by omega)
theorem ZBF{x y z:Int}(b:ltJ K z x=true)(d:ltJ K y x=false):ltJ K z y=true:=by
 cases h:ltJ K z y with
 |true=>rfl
 |false=>rw[ZmF h d]at b;cases b
def mrgJ(K:Cx):Ins->Ins->Ins | [],ys=>ys|x :: xs,[]=>x :: xs|x :: xs,y :: ys=>if ltJ K y x=true then y :: mrgJ K (x :: xs) ys else x :: mrgJ K xs (y :: ys)
termination_by xs ys=>xs.length+ys.length
theorem Zhr(xs:Ins):mrgJ K xs []=xs:=by cases xs<;>simp[mrgJ]
theorem ZeB(xs:Ins):mrgJ K [] xs=xs:=by simp[mrgJ]
theorem ZhU{x y:Int}(xs ys:Ins)(h:ltJ K y x=true):mrgJ K (x :: xs) (y :: ys)=y :: mrgJ K (x :: xs) ys:=by rw[mrgJ,if_pos h]
theorem ZiC{x y:Int}(xs ys:Ins)(h:ltJ K y x=false):mrgJ K (x :: xs) (y :: ys)=x :: mrgJ K xs (y :: ys):=by rw[mrgJ,if_neg (by simp[h])]
theorem ZEK:∀(n:Nat)(a b c:Ins),a.length+b.length+c.length<=n->mrgJ K (mrgJ K a b) c=mrgJ K a (mrgJ K b c):=by
 intro n;induction n with
 |zero=>
  intro a b c h;obtain rfl:=List.eq_nil_of_length_eq_zero (show a.length=0 by omega);rw[ZeB,ZeB]
 |succ n ih=>
  intro a b c h;cases a with
  |nil=>rw[ZeB,ZeB]
  |cons x a=>
   cases b with
   |nil=>rw[Zhr,ZeB]
   |cons y b=>
    cases c with
    |nil=>rw[Zhr,Zhr]
    |cons z c=>
     simp only[List.length_cons]at h;cases g:ltJ K y x with
     |true=>
      rw[ZhU _ _ g];cases d:ltJ K z y with
      |true=>
       rw[ZhU _ _ d,ZhU _ _ d,ZhU _ _ (Zst d g),<-ZhU a b g,ih (x :: a) (y :: b) c (by simp only[List.length_cons];omega)]
      |false=>
       rw[ZiC _ _ d,ZiC _ _ d,ZhU _ _ g,ih (x :: a) b (z :: c) (by simp only[List.length_cons];omega)]
     |false=>
      rw[ZiC _ _ g];cases j:ltJ K z x with
      |true=>
       have d:=ZBF j g;rw[ZhU _ _ j,ZhU _ _ d,ZhU _ _ j,<-ZiC a b g,ih (x :: a) (y :: b) c (by simp only[List.length_cons];omega)]
      |false=>
       rw[ZiC _ _ j,ih a (y :: b) (z :: c) (by simp only[List.length_cons];omega)];cases d:ltJ K z y with
       |true=>rw[ZhU _ _ d,ZiC _ _ j]
       |false=>rw[ZiC _ _ d,ZiC _ _ g]
theorem Zop:∀(n:Nat)(x1 x2 y1 y2:Ins),x1.length+y1.length<=n->(∀y∈y1,∀x∈x2,ltJ K y x=true)->(∀x∈x1,∀y∈y2,ltJ K y x=false)->mrgJ K (x1++x2) (y1++y2)=mrgJ K x1 y1++mrgJ K x2 y2:=by
 intro n;induction n with
 |zero=>
  intro x1 x2 y1 y2 h _ _;obtain rfl:=List.eq_nil_of_length_eq_zero (show x1.length=0 by omega);obtain rfl:=List.eq_nil_of_length_eq_zero (show y1.length=0 by omega);simp[ZeB]
 |succ n ih=>
  intro x1 x2 y1 y2 h b d;cases x1 with
  |nil=>
   cases y1 with
   |nil=>simp[ZeB]
   |cons y y1=>
    cases x2 with
    |nil=>simp[ZeB]
    |cons x x2=>
     simp only[List.length_cons,List.length_nil]at h;rw[List.nil_append,List.cons_append,ZhU _ _ (b y (by simp) x (by simp)),ZeB];have:=ih [] (x :: x2) y1 y2 (by simp only[List.length_nil];omega) (fun y' f7=>b y' (by simp[f7])) (by simp);rw[List.nil_append,ZeB]at this;rw[this];rfl
  |cons x x1=>
   cases y1 with
   |nil=>
    cases y2 with
    |nil=>simp[Zhr]
    |cons y y2=>
     simp only[List.length_cons,List.length_nil]at h;rw[List.nil_append,List.cons_append,ZiC _ _ (d x (by simp) y (by simp)),Zhr];have:=ih x1 x2 [] (y :: y2) (by simp only[List.length_nil];omega) (by simp) (fun x' ge=>d x' (by simp[ge]));rw[List.nil_append,Zhr]at this;rw[this];rfl
   |cons y y1=>
    simp only[List.length_cons]at h;rw[List.cons_append,List.cons_append];cases g:ltJ K y x with
    |true=>
     rw[ZhU _ _ g,ZhU _ _ g,<-List.cons_append,ih (x :: x1) x2 y1 y2 (by simp only[List.length_cons];omega) (fun y' f7=>b y' (by simp[f7])) d];rfl
    |false=>
     have:=ih x1 x2 (y :: y1) y2 (by simp only[List.length_cons];omega) b (fun x' ge=>d x' (by simp[ge]));rw[List.cons_append]at this;rw[ZiC _ _ g,ZiC _ _ g,this];rfl
theorem ZDj:∀(n:Nat)(a b:Ins),a.length+b.length<=n->(mrgJ K a b).length=a.length+b.length:=by
 intro n;induction n with
 |zero=>
  intro a b h;obtain rfl:=List.eq_nil_of_length_eq_zero (show a.length=0 by omega);simp[ZeB]
 |succ n ih=>
  intro a b h;cases a with
  |nil=>simp[ZeB]
  |cons x a=>
   cases b with
   |nil=>simp[Zhr]
   |cons y b=>
    simp only[List.length_cons]at h ⊢;cases d:ltJ K y x with
    |true=>rw[ZhU _ _ d,List.length_cons,ih _ _ (by simp only[List.length_cons];omega)];simp only[List.length_cons];omega
    |false=>rw[ZiC _ _ d,List.length_cons,ih _ _ (by simp only[List.length_cons];omega)];simp only[List.length_cons];omega
theorem Zuq:∀(n:Nat)(a b:Ins),a.length+b.length<=n->∀z∈mrgJ K a b,z∈a\/z∈b:=by
 intro n;induction n with
 |zero=>
  intro a b h z hz;obtain rfl:=List.eq_nil_of_length_eq_zero (show a.length=0 by omega);rw[ZeB]at hz;exact .inr hz
 |succ n ih=>
  intro a b h z hz;cases a with
  |nil=>rw[ZeB]at hz;exact .inr hz
  |cons x a=>
   cases b with
   |nil=>rw[Zhr]at hz;exact .inl hz
   |cons y b=>
    simp only[List.length_cons]at h;cases d:ltJ K y x with
    |true=>
     rw[ZhU _ _ d]at hz;rcases List.mem_cons.1 hz with hz|hz
     .exact .inr (by simp[hz])
     .rcases ih _ _ (by simp only[List.length_cons];omega) z hz with q|q
      .exact .inl q
      .exact .inr (by simp[q])
    |false=>
     rw[ZiC _ _ d]at hz;rcases List.mem_cons.1 hz with hz|hz
     .exact .inl (by simp[hz])
     .rcases ih _ _ (by simp only[List.length_cons];omega) z hz with q|q
      .exact .inl (by simp[q])
      .exact .inr q
def bq(K:Cx)(l:Ins):Prop:=l.Pairwise fun x y=>ltJ K y x=false
theorem ZID:∀(n:Nat)(a b:Ins),a.length+b.length<=n->bq K a->bq K b->bq K (mrgJ K a b):=by
 intro n;induction n with
 |zero=>
  intro a b h ha hb;obtain rfl:=List.eq_nil_of_length_eq_zero (show a.length=0 by omega);rw[ZeB];exact hb
 |succ n ih=>
  intro a b h ha hb;cases a with
  |nil=>rw[ZeB];exact hb
  |cons x a=>
   cases b with
   |nil=>rw[Zhr];exact ha
   |cons y b=>
    simp only[List.length_cons]at h;have cy:=List.pairwise_cons.1 ha;have aL:=List.pairwise_cons.1 hb;cases d:ltJ K y x with
    |true=>
     rw[ZhU _ _ d];refine List.pairwise_cons.2 ⟨fun z g=>?_,ih _ _ (by simp only[List.length_cons];omega) ha aL.2⟩;rcases Zuq _ _ _ (Nat.le_refl _) z g with q|q
     .have:ltJ K x y=false:=ZDp d;rcases List.mem_cons.1 q with q|q
      .rw[q];exact this
      .exact ZmF (cy.1 z q) this
     .exact aL.1 z q
    |false=>
     rw[ZiC _ _ d];refine List.pairwise_cons.2 ⟨fun z g=>?_,ih _ _ (by simp only[List.length_cons];omega) cy.2 hb⟩;rcases Zuq _ _ _ (Nat.le_refl _) z g with q|q
     .exact cy.1 z q
     .rcases List.mem_cons.1 q with q|q
      .rw[q];exact d
      .exact ZmF (aL.1 z q) d
def ZbY(K:Cx)(l:Ins):Ins:=l.foldl (fun o x=>mrgJ K o [x]) []
theorem ZhB(l:Ins)(x:Int):ZbY K (l++[x])=mrgJ K (ZbY K l) [x]:=by unfold ZbY;rw[List.foldl_append];rfl
theorem Zsz(xs ys:Ins):ZbY K (xs++ys)=mrgJ K (ZbY K xs) (ZbY K ys):=by
 have:∀n,n<=ys.length->ZbY K (xs++ys.take n)=mrgJ K (ZbY K xs) (ZbY K (ys.take n)):=by
  intro n;induction n with
  |zero=>intro _;simp[ZbY,Zhr]
  |succ n ih=>
   intro h;rw[List.take_succ_eq_append_getElem (show n<ys.length by omega),<-List.append_assoc,ZhB,ZhB,ih (by omega),ZEK _ _ _ _ (Nat.le_refl _)]
 have h:=this ys.length (Nat.le_refl _);rwa [List.take_length]at h
theorem ZgQ(l:Ins):(ZbY K l).length=l.length:=by
 have:∀n,n<=l.length->(ZbY K (l.take n)).length=n:=by
  intro n;induction n with
  |zero=>intro _;simp[ZbY]
  |succ n ih=>
   intro h;rw[List.take_succ_eq_append_getElem (show n<l.length by omega),ZhB,ZDj _ _ _ (Nat.le_refl _),ih (by omega)];rfl
 have h:=this l.length (Nat.le_refl _);rwa [List.take_length]at h
theorem Zqr{l:Ins}(h:Rg K l):Rg K (ZbY K l):=by
 have:∀n,n<=l.length->Rg K (ZbY K (l.take n)):=by
  intro n;induction n with
  |zero=>intro _;simp[ZbY,Rg]
  |succ n ih=>
   intro d;rw[List.take_succ_eq_append_getElem (show n<l.length by omega),ZhB];intro x hx;rcases Zuq _ _ _ (Nat.le_refl _) x hx with q|q
   .exact ih (by omega) x q
   .rw[List.mem_singleton.1 q];exact h _ (List.getElem_mem _)
 have b:=this l.length (Nat.le_refl _);rwa [List.take_length]at b
theorem Zos(l:Ins):bq K (ZbY K l):=by
 have:∀n,n<=l.length->bq K (ZbY K (l.take n)):=by
  intro n;induction n with
  |zero=>intro _;simp[ZbY,bq]
  |succ n ih=>
   intro h;rw[List.take_succ_eq_append_getElem (show n<l.length by omega),ZhB];exact ZID _ _ _ (Nat.le_refl _) (ih (by omega)) (by simp[bq])
 have h:=this l.length (Nat.le_refl _);rwa [List.take_length]at h
theorem Zyo{o1 o2:Ins}{x:Int}(h:∀y∈o1,ltJ K x y=false)(j:∀y∈o2,ltJ K x y=true):mrgJ K (o1++o2) [x]=o1++x :: o2:=by
 have a:=Zop _ o1 o2 [x] [] (Nat.le_refl _) (fun y d z g=>by rw[List.mem_singleton.1 d];exact j z g) (by simp);have b:=Zop _ o1 [] [] [x] (Nat.le_refl _) (by simp) (fun z g y d=>by rw[List.mem_singleton.1 d];exact h z g);simp only[List.append_nil,List.nil_append,Zhr,ZeB]at a b;rw[a,b];simp
theorem ZIz{o1 o2:Ins}{x:Int}(h:∀y∈o1,ltJ K y x=true)(j:∀y∈o2,ltJ K y x=false):mrgJ K [x] (o1++o2)=o1++x :: o2:=by
 have a:=Zop _ [] [x] o1 o2 (Nat.le_refl _) (fun y d z g=>by rw[List.mem_singleton.1 g];exact h y d) (by simp);have b:=Zop _ [x] [] [] o2 (Nat.le_refl _) (by simp) (fun z g y d=>by rw[List.mem_singleton.1 g];exact j y d);simp only[List.append_nil,List.nil_append,Zhr,ZeB]at a b;rw[a,b];simp
theorem ZJQ{α:Type}:∀(l:List α),l.length≠0->∃T s,l=T++[s]
 | [x],_=>⟨[],x,rfl⟩
 |x :: y :: l,_=>by
  obtain⟨T,s,h⟩:=ZJQ (y :: l) (by simp)
  exact⟨x :: T,s,by rw[h];rfl⟩
theorem ZFH{K:Cx}{T:Ins}{s x:Int}(h:bq K (T++[s]))(hx:ltJ K x s=false):∀y∈T++[s],ltJ K x y=false:=by
 intro y b;rcases List.mem_append.1 b with q|q
 .exact ZmF hx ((List.pairwise_append.1 h).2.2 y q s (by simp))
 .rw[List.mem_singleton.1 q];exact hx
theorem ZES{K:Cx}(P:Ins)(x:Int)(hx:InR K x)(R:Ins)(p v8:Int)(k:Int->Ins->Option Ins):∀(n:Nat)(S1 S2:Ins)(fu:Nat),S1.length=n->bq K S1->Rg K S1->(∀y∈S2,ltJ K x y=true)->n+1<=fu->P.length+S1.length+S2.length+R.length<=900000 ->
  Zbf (P.length:Int) p K.c K.b K.s v8 k fu ((P.length+n:Nat):Int) (P++(S1++(x :: (S2++R))))=k (Zan v8 1) (P++(mrgJ K (S1++S2) [x]++R)):=by
 intro n;induction n with
 |zero=>
  intro S1 S2 fu h hs j d t hb;obtain⟨fu,rfl⟩ : ∃x,fu=x+1:=⟨fu-1,by omega⟩;obtain rfl:=List.eq_nil_of_length_eq_zero h;unfold Zbf;rw[Zai,if_neg (by omega),Zyo (o1:=[]) (by simp) d];simp
 |succ n ih=>
  intro S1 S2 fu h hs j d t hb;obtain⟨fu,rfl⟩ : ∃x,fu=x+1:=⟨fu-1,by omega⟩;obtain⟨T,s,rfl⟩:=ZJQ S1 (by omega);have u:T.length=n:=by simpa using h
  have v:Zbd ((P.length+(n+1):Nat):Int) 1=((P.length+n:Nat):Int):=by rw[ZeA (by omega) (by omega)];omega
  have hl:(P++(T++[s]++(x :: (S2++R)))).length=P.length+(n+1)+1+S2.length+R.length:=by simp;omega
  unfold Zbf;rw[Zai,if_pos (by omega),v,Zar (by rw[hl];omega),Zar (by rw[hl];omega)];simp only[Int.toNat_natCast];have z:(P++(T++[s]++(x :: (S2++R)))).getD (P.length+(n+1)) 0=x:=ZnT (L:=P++(T++[s])) (R:=S2++R) (by simp) (by simp;omega);have A:(P++(T++[s]++(x :: (S2++R)))).getD (P.length+n) 0=s:=ZnT (L:=P++T) (R:=x :: (S2++R)) (by simp) (by simp;omega);rw[z,A,Zuy hx (j s (by simp)),ZaJ,Zai];by_cases g:cmpJ K x s<0
  .have eQ:ltJ K x s=true:=ZrM.2 g;have s1:(P++(T++[s]++(x :: (S2++R)))).set (P.length+(n+1)) s=P++(T++(s :: (s :: (S2++R)))):=by
    rw[Zqg (L:=P++(T++[s])) (x:=x) (R:=S2++R) (by simp) (by simp;omega)];simp
   have s2:(P++(T++(s :: (s :: (S2++R))))).set (P.length+n) x=P++(T++(x :: (s :: S2++R))):=by
    rw[Zqg (L:=P++T) (x:=s) (R:=s :: (S2++R)) (by simp) (by simp;omega)];simp
   rw[if_pos g,s1,s2];have:=ih T (s :: S2) fu u (List.pairwise_append.1 hs).1 (fun y o=>j y (by simp[o])) (fun y o=>by
    rcases List.mem_cons.1 o with q|q
    .rw[q];exact eQ
    .exact d y q) (by omega) (by simp only[List.length_append,List.length_singleton,List.length_cons]at hb ⊢;omega)
   rw[this];simp
  .rw[if_neg g,Zyo (ZFH hs (Zxl.2 g)) d];simp
theorem ZGD{K:Cx}(P L Q:Ins)(hR:Rg K L)(hb:P.length+L.length+Q.length<=900000)(a b:Int)(ha:a=(P.length:Int))(ir:b=((P.length+L.length:Nat):Int)) :
  ZbQ (P++(L++Q)) a b K.c K.b K.s=some (P++(ZbY K L++Q)):=by
 subst ha ir;have h:Zan (P.length:Int) 1=((P.length+1:Nat):Int):=by rw[Zcs (by omega) (by omega)];omega
 unfold ZbQ;rw[h];cases hL:L with
 |nil=>
  unfold ZaN;rw[Zai,if_neg (by simp;omega)];simp[ZbY]
 |cons z Z=>
  rw[<-hL];have eB:1<=L.length:=by rw[hL];simp
  have aK:∀(j k fu:Nat),L.length-k=j->1<=k->k<=L.length->j+1<=fu->ZaN (P.length:Int) ((P.length+L.length:Nat):Int) K.c K.b K.s fu ((P.length+k:Nat):Int) (P++(ZbY K (L.take k)++(L.drop k++Q)))=some (P++(ZbY K L++Q)):=by
   intro j;induction j with
   |zero=>
    intro k fu o d g p;obtain⟨fu,rfl⟩ : ∃x,fu=x+1:=⟨fu-1,by omega⟩;unfold ZaN;rw[Zai,if_neg (by omega),List.take_of_length_le (by omega),List.drop_eq_nil_of_le (by omega)];rfl
   |succ j ih=>
    intro k fu o d g p;obtain⟨fu,rfl⟩ : ∃x,fu=x+1:=⟨fu-1,by omega⟩;unfold ZaN;have il:=ZgQ (K:=K) (L.take k);rw[List.length_take,Nat.min_eq_left g]at il;have t:Zan ((P.length+k:Nat):Int) 1=((P.length+(k+1):Nat):Int):=by rw[Zcs (by omega) (by omega)];omega
    rw[Zai,if_pos (by omega),ZeQ L 0 k (by omega)];have:=ZES (K:=K) P (L.getD k 0) (hR.get (by omega)) (L.drop (k+1)++Q) ((P.length+L.length:Nat):Int) ((P.length+k:Nat):Int) (ZaN (P.length:Int) ((P.length+L.length:Nat):Int) K.c K.b K.s fu) k (ZbY K (L.take k)) [] ((((P.length+k:Nat):Int)-(P.length:Int)).toNat+2) il (Zos _) (Zqr (hR.take k)) (by simp) (by omega) (by simp[il];omega);simp only[List.nil_append,List.append_nil,List.cons_append]at this ⊢;rw[this,t,<-ZhB,ZbT L _ k (by omega),<-List.take_succ_eq_append_getElem (by omega)];exact ih (k+1) fu (by omega) (by omega) (by omega) (by omega)
  have d:ZbY K (L.take 1)=L.take 1:=by rw[hL];simp[ZbY,ZeB]
  have:=aK (L.length-1) 1 ((((P.length+L.length:Nat):Int)-((P.length+1:Nat):Int)).toNat+2) rfl (Nat.le_refl _) eB (by omega);rw[d,<-List.append_assoc (L.take 1),List.take_append_drop]at this;exact this
theorem Zuv(i j:Nat)(h:i+j<=10000000):IntKind.wrap .i64 (Int.fdiv (IntKind.wrap .u64 (Zan (i:Int) (j:Int))) (2 ^ (min (1:Int).toNat (IntKind.bits .u64))))=(((i+j) / 2:Nat):Int):=by
 have b:Zan (i:Int) (j:Int)=((i+j:Nat):Int):=by rw[Zcs (by omega) (by omega)];omega
 have d:IntKind.wrap .u64 ((i+j:Nat):Int)=((i+j:Nat):Int):=by
  simp only[IntKind.wrap,IntKind.bits,IntKind.signed];simp;omega
 have g:(2:Int) ^ (min (1:Int).toNat (IntKind.bits .u64))=2:=rfl;rw[b,d,g,Int.fdiv_eq_ediv_of_nonneg _ (by omega),Zmp (by omega) (by omega)];omega
theorem ZDo{K:Cx}{x y z:Int}(b:ltJ K z x=true)(d:ltJ K z y=false):ltJ K y x=true:=by
 cases h:ltJ K y x with
 |true=>rfl
 |false=>rw[ZmF d h]at b;cases b
theorem Zlu{K:Cx}{Y:Ins}(h:bq K Y){i j:Nat}(hi:i<=j)(b:j<Y.length):ltJ K (Y.getD j 0) (Y.getD i 0)=false:=by
 by_cases e:i=j
 .rw[e];exact ZBG _
 .rw[ZbT Y _ j b,ZbT Y _ i (by omega)];exact List.pairwise_iff_getElem.1 h i j (by omega) b (by omega)
theorem Zse{Y:Ins}{k:Nat}{y:Int}(h:y∈Y.take k):∃i,i<k/\i<Y.length/\y=Y.getD i 0:=by
 obtain⟨i,hi,rfl⟩:=List.getElem_of_mem h;rw[List.length_take]at hi;exact⟨i,by omega,by omega,by rw[ZbT Y _ i (by omega),List.getElem_take]⟩
theorem ZsX{Y:Ins}{k:Nat}{y:Int}(h:y∈Y.drop k):∃i,k<=i/\i<Y.length/\y=Y.getD i 0:=by
 obtain⟨i,hi,rfl⟩:=List.getElem_of_mem h;rw[List.length_drop]at hi;exact⟨k+i,by omega,by omega,by rw[ZbT Y _ (k+i) (by omega),List.getElem_drop]⟩
theorem Zyy{P Y Q:Ins}{i k:Nat}(b:k=P.length+i)(hi:i<Y.length):(P++(Y++Q)).getD k 0=Y.getD i 0:=by
 have:=ZeQ Y 0 i hi;have e:P++(Y++Q)=(P++Y.take i)++Y.getD i 0 :: (Y.drop (i+1)++Q):=by
  rw[List.append_assoc,<-List.cons_append,<-this,<-List.append_assoc (Y.take i),List.take_append_drop]
 exact ZnT e (by simp;omega)
theorem mv1J{K:Cx}(P R:Ins)(x kj:Int)(k:Int->Int->Ins->Option Ins):∀(Y2 Y1:Ins)(fu:Nat),Y2.length+1<=fu->P.length+Y1.length+Y2.length+R.length<=900000 ->
  Zby (P.length:Int) K.c K.b K.s ((P.length+Y1.length+Y2.length+1:Nat):Int) kj k fu ((P.length+Y1.length:Nat):Int) (P++(Y1++(x :: (Y2++R))))=some (P++(Y1++(Y2++(x :: R)))):=by
 intro Y2;induction Y2 with
 |nil=>
  intro Y1 fu d hb;obtain⟨fu,rfl⟩ : ∃x,fu=x+1:=⟨fu-1,by omega⟩;unfold Zby
  simp only[List.length_nil,Nat.add_zero];rw[Zai,if_neg (by rw[ZeA (by omega) (by omega)];omega)];rfl
 |cons y Y2 ih=>
  intro Y1 fu d hb;obtain⟨fu,rfl⟩ : ∃x,fu=x+1:=⟨fu-1,by omega⟩;simp only[List.length_cons]at d hb ⊢;have g:Zan ((P.length+Y1.length:Nat):Int) 1=((P.length+Y1.length+1:Nat):Int):=by rw[Zcs (by omega) (by omega)];omega
  have hl:(P++(Y1++(x :: (y :: Y2++R)))).length=P.length+Y1.length+Y2.length+R.length+2:=by simp;omega
  unfold Zby
  rw[Zai,if_pos (by rw[ZeA (by omega) (by omega)];omega),g,Zar (by rw[hl];omega),Zar (by rw[hl];omega)];simp only[Int.toNat_natCast];have h:(P++(Y1++(x :: (y :: Y2++R)))).getD (P.length+Y1.length+1) 0=y:=ZnT (L:=P++(Y1++[x])) (R:=Y2++R) (by simp) (by simp;omega);have j:(P++(Y1++(x :: (y :: Y2++R)))).getD (P.length+Y1.length) 0=x:=ZnT (L:=P++Y1) (R:=y :: (Y2++R)) (by simp) (by simp);have s1:(P++(Y1++(x :: (y :: Y2++R)))).set (P.length+Y1.length) y=P++(Y1++(y :: (y :: Y2++R))):=by
   rw[Zqg (L:=P++Y1) (x:=x) (R:=y :: (Y2++R)) (by simp) (by simp)];simp
  have s2:(P++(Y1++(y :: (y :: Y2++R)))).set (P.length+Y1.length+1) x=P++(Y1++(y :: (x :: (Y2++R)))):=by
   rw[Zqg (L:=P++(Y1++[y])) (x:=y) (R:=Y2++R) (by simp) (by simp;omega)];simp
  rw[h,j,s1,s2];have:=ih (Y1++[y]) fu (by omega) (by simp only[List.length_append,List.length_singleton];omega);simp only[List.length_append,List.length_singleton,List.append_assoc,List.singleton_append]at this;have x1:P.length+(Y1.length+1)+Y2.length+1=P.length+Y1.length+(Y2.length+1)+1:=by omega
  have x2:P.length+(Y1.length+1)=P.length+Y1.length+1:=by omega
  rw[x1,x2]at this;exact this
theorem bs1J{K:Cx}(P Y Q:Ins)(x:Int)(hs:bq K Y)(hxR:InR K x)(hR:Rg K Y)(hb:P.length+Y.length+Q.length<=800000):∀(s lo hi fu:Nat),hi-lo<=s->lo<=hi->hi<=Y.length->s+1<=fu->(∀y∈Y.take lo,ltJ K y x=true)->(∀y∈Y.drop hi,ltJ K y x=false) ->
  ZaM (P.length:Int) K.c K.b K.s fu ((P.length+1+lo:Nat):Int) ((P.length+1+hi:Nat):Int) (P++(x :: (Y++Q)))=some (P++(mrgJ K [x] Y++Q)):=by
 intro s;have cj:∀(lo hi fu:Nat),lo=hi->hi<=Y.length->(∀y∈Y.take lo,ltJ K y x=true)->(∀y∈Y.drop hi,ltJ K y x=false) ->
   ZaM (P.length:Int) K.c K.b K.s (fu+1) ((P.length+1+lo:Nat):Int) ((P.length+1+hi:Nat):Int) (P++(x :: (Y++Q)))=some (P++(mrgJ K [x] Y++Q)):=by
  intro lo hi fu e u o d;subst e;unfold ZaM;rw[Zai,if_neg (by omega)];have ho:=ZIz o d;rw[List.take_append_drop]at ho;have:=mv1J (K:=K) P (Y.drop lo++Q) x ((P.length+1+lo:Nat):Int) (ZaM (P.length:Int) K.c K.b K.s fu) (Y.take lo) [] 1000000 (by simp;omega) (by simp;omega);simp only[List.length_take,Nat.min_eq_left u,List.length_nil,Nat.add_zero,List.nil_append]at this;rw[<-List.append_assoc (Y.take lo),List.take_append_drop,show P.length+lo+1=P.length+1+lo by omega]at this;rw[this,ho];simp
 induction s with
 |zero=>
  intro lo hi fu h0 o d v g h;obtain⟨fu,rfl⟩ : ∃x,fu=x+1:=⟨fu-1,by omega⟩;exact cj lo hi fu (by omega) d g h
 |succ s ih=>
  intro lo hi fu h0 o d v g h;obtain⟨fu,rfl⟩ : ∃x,fu=x+1:=⟨fu-1,by omega⟩;by_cases e:lo=hi
  .exact cj lo hi fu e d g h
  .have z:(P.length+1+lo+(P.length+1+hi)) / 2=P.length+1+(lo+hi) / 2:=by omega
   have p:(lo+hi) / 2<Y.length:=by omega
   have hl:(P++(x :: (Y++Q))).length=P.length+1+Y.length+Q.length:=by simp;omega
   unfold ZaM;rw[Zai,if_pos (by omega),Zuv _ _ (by omega),z,Zar (by rw[hl];omega),Zar (by rw[hl];omega)];simp only[Int.toNat_natCast];have A:(P++(x :: (Y++Q))).getD (P.length+1+(lo+hi) / 2) 0=Y.getD ((lo+hi) / 2) 0:=by
    have:=Zyy (P:=P++[x]) (Y:=Y) (Q:=Q) (i:=(lo+hi) / 2) (k:=P.length+1+(lo+hi) / 2) (by simp) p;simpa using this
   rw[A,ZDy,Zuy (hR.get p) hxR,ZaJ,Zai];have B:Zan ((P.length+1+(lo+hi) / 2:Nat):Int) 1=((P.length+1+((lo+hi) / 2+1):Nat):Int):=by rw[Zcs (by omega) (by omega)];omega
   by_cases j:cmpJ K (Y.getD ((lo+hi) / 2) 0) x<0
   .rw[if_pos j,B];refine ih _ _ fu (by omega) (by omega) d (by omega) (fun y t=>?_) h;obtain⟨i,i1,i2,rfl⟩:=Zse t;exact ZDo (ZrM.2 j) (Zlu hs (by omega) p)
   .rw[if_neg j];refine ih _ _ fu (by omega) (by omega) (by omega) (by omega) g (fun y t=>?_);obtain⟨i,i1,i2,rfl⟩:=ZsX t;exact ZmF (Zlu hs i1 i2) (Zxl.2 j)
theorem mv2J{K:Cx}(P Q:Ins)(y g v15:Int)(k:Int->Int->Ins->Option Ins):∀(n:Nat)(T U:Ins)(fu:Nat),T.length=n->n+1<=fu->P.length+T.length+U.length+Q.length<=900000 ->
  Zbx g K.c K.b K.s (P.length:Int) v15 k fu ((P.length+n:Nat):Int) (P++(T++(y :: (U++Q))))=some (P++(y :: (T++(U++Q)))):=by
 intro n;induction n with
 |zero=>
  intro T U fu d h hb;obtain⟨fu,rfl⟩ : ∃x,fu=x+1:=⟨fu-1,by omega⟩;obtain rfl:=List.eq_nil_of_length_eq_zero d;unfold Zbx;rw[Zai,if_neg (by omega)];rfl
 |succ n ih=>
  intro T U fu d h hb;obtain⟨fu,rfl⟩ : ∃x,fu=x+1:=⟨fu-1,by omega⟩;obtain⟨T,s,rfl⟩:=ZJQ T (by omega);have j:T.length=n:=by simpa using d
  simp only[List.length_append,List.length_singleton]at hb;have o:Zbd ((P.length+(n+1):Nat):Int) 1=((P.length+n:Nat):Int):=by rw[ZeA (by omega) (by omega)];omega
  have hl:(P++(T++[s]++(y :: (U++Q)))).length=P.length+(n+1)+1+U.length+Q.length:=by simp;omega
  unfold Zbx;rw[Zai,if_pos (by omega),o,Zar (by rw[hl];omega),Zar (by rw[hl];omega)];simp only[Int.toNat_natCast];have p:(P++(T++[s]++(y :: (U++Q)))).getD (P.length+(n+1)) 0=y:=ZnT (L:=P++(T++[s])) (R:=U++Q) (by simp) (by simp;omega);have t:(P++(T++[s]++(y :: (U++Q)))).getD (P.length+n) 0=s:=ZnT (L:=P++T) (R:=y :: (U++Q)) (by simp) (by simp;omega);have s1:(P++(T++[s]++(y :: (U++Q)))).set (P.length+(n+1)) s=P++(T++(s :: (s :: (U++Q)))):=by
   rw[Zqg (L:=P++(T++[s])) (x:=y) (R:=U++Q) (by simp) (by simp;omega)];simp
  have s2:(P++(T++(s :: (s :: (U++Q))))).set (P.length+n) y=P++(T++(y :: (s :: U++Q))):=by
   rw[Zqg (L:=P++T) (x:=s) (R:=s :: (U++Q)) (by simp) (by simp;omega)];simp
  rw[p,t,s1,s2,ih T (s :: U) fu j (by omega) (by simp only[List.length_cons];omega)];simp
theorem bs2J{K:Cx}(P X Q:Ins)(y:Int)(hs:bq K X)(hyR:InR K y)(hR:Rg K X)(hb:P.length+X.length+Q.length<=800000):∀(s lo hi fu:Nat),hi-lo<=s->lo<=hi->hi<=X.length->s+1<=fu->(∀x∈X.take lo,ltJ K y x=false)->(∀x∈X.drop hi,ltJ K y x=true) ->
  ZaL ((P.length+X.length:Nat):Int) K.c K.b K.s fu ((P.length+lo:Nat):Int) ((P.length+hi:Nat):Int) (P++(X++(y :: Q)))=some (P++(mrgJ K X [y]++Q)):=by
 intro s;have cj:∀(lo hi fu:Nat),lo=hi->hi<=X.length->(∀x∈X.take lo,ltJ K y x=false)->(∀x∈X.drop hi,ltJ K y x=true) ->
   ZaL ((P.length+X.length:Nat):Int) K.c K.b K.s (fu+1) ((P.length+lo:Nat):Int) ((P.length+hi:Nat):Int) (P++(X++(y :: Q)))=some (P++(mrgJ K X [y]++Q)):=by
  intro lo hi fu e t o d;subst e;unfold ZaL;rw[Zai,if_neg (by omega)];have ho:=Zyo o d;rw[List.take_append_drop]at ho;have:=mv2J (K:=K) (P++X.take lo) Q y ((P.length+X.length:Nat):Int) ((P.length+lo:Nat):Int) (ZaL ((P.length+X.length:Nat):Int) K.c K.b K.s fu) (X.length-lo) (X.drop lo) [] ((((P.length+X.length:Nat):Int)-((P.length+lo:Nat):Int)).toNat+2) (by simp) (by omega) (by simp;omega);simp only[List.length_append,List.length_take,Nat.min_eq_left t,List.nil_append,List.append_assoc]at this;rw[<-List.append_assoc (X.take lo) (X.drop lo),List.take_append_drop,show P.length+lo+(X.length-lo)=P.length+X.length by omega]at this;rw[this,ho];simp
 induction s with
 |zero=>
  intro lo hi fu h0 o d u g h;obtain⟨fu,rfl⟩ : ∃x,fu=x+1:=⟨fu-1,by omega⟩;exact cj lo hi fu (by omega) d g h
 |succ s ih=>
  intro lo hi fu h0 o d u g h;obtain⟨fu,rfl⟩ : ∃x,fu=x+1:=⟨fu-1,by omega⟩;by_cases e:lo=hi
  .exact cj lo hi fu e d g h
  .have v:(P.length+lo+(P.length+hi)) / 2=P.length+(lo+hi) / 2:=by omega
   have p:(lo+hi) / 2<X.length:=by omega
   have hl:(P++(X++(y :: Q))).length=P.length+X.length+1+Q.length:=by simp;omega
   unfold ZaL;rw[Zai,if_pos (by omega),Zuv _ _ (by omega),v,Zar (by rw[hl];omega),Zar (by rw[hl];omega)];simp only[Int.toNat_natCast];have z:(P++(X++(y :: Q))).getD (P.length+(lo+hi) / 2) 0=X.getD ((lo+hi) / 2) 0:=Zyy rfl p;have A:(P++(X++(y :: Q))).getD (P.length+X.length) 0=y:=ZnT (L:=P++X) (R:=Q) (by simp) (by simp);rw[z,A,Zuy hyR (hR.get p),ZaJ];have B:Zan ((P.length+(lo+hi) / 2:Nat):Int) 1=((P.length+((lo+hi) / 2+1):Nat):Int):=by rw[Zcs (by omega) (by omega)];omega
   by_cases j:cmpJ K y (X.getD ((lo+hi) / 2) 0)<0
   .rw[decide_eq_true j,Bool.not_true,cond_false];refine ih _ _ fu (by omega) (by omega) (by omega) (by omega) g (fun x hx=>?_);obtain⟨i,i1,i2,rfl⟩:=ZsX hx;exact ZBF (ZrM.2 j) (Zlu hs i1 i2)
   .rw[decide_eq_false j,Bool.not_false,cond_true,B];refine ih _ _ fu (by omega) (by omega) d (by omega) (fun x hx=>?_) h;obtain⟨i,i1,i2,rfl⟩:=Zse hx;exact ZmF (Zxl.2 j) (Zlu hs (by omega) p)
def iO(K:Cx)(gr:Ins->Int->Int->Int->List Zaa->Int->Int->Option Ins)(N:Nat):Prop:=∀(P X Y Q:Ins),0<X.length->0<Y.length->bq K X->bq K Y->Rg K X->Rg K Y->X.length+Y.length<=N->P.length+X.length+Y.length+Q.length<=700000->gr (P++(X++(Y++Q))) (P.length:Int) ((P.length+X.length:Nat):Int) ((P.length+X.length+Y.length:Nat):Int) K.c K.b K.s=some (P++(mrgJ K X Y++Q))
theorem ZLv{K:Cx}{gr:Ins->Int->Int->Int->List Zaa->Int->Int->Option Ins}{N:Nat}(b5:iO K gr N)(P X Y Q:Ins)(hX:bq K X)(hY:bq K Y)(eh:Rg K X)(ej:Rg K Y)(hN:X.length+Y.length<=N)(hb:P.length+X.length+Y.length+Q.length<=700000)(d g j0 v20 gi v22:Int)(k:Int->Int->Int->Ins->Option Ins) :
  Zbw d g ((P.length+X.length+Y.length:Nat):Int) K.c K.b K.s gr (P.length:Int) j0 v20 gi v22 ((P.length+X.length:Nat):Int) k (P++(X++(Y++Q)))=some (P++(mrgJ K X Y++Q)):=by
 unfold Zbw;rw[Zai,Zai];by_cases h:X.length=0
 .rw[if_neg (by omega)];obtain rfl:=List.eq_nil_of_length_eq_zero h;rw[ZeB];rfl
 .rw[if_pos (by omega)];by_cases j:Y.length=0
  .rw[if_neg (by omega)];obtain rfl:=List.eq_nil_of_length_eq_zero j;rw[Zhr];rfl
  .rw[if_pos (by omega),b5 P X Y Q (by omega) (by omega) hX hY eh ej hN hb];rfl
theorem ZLw{K:Cx}{gr:Ins->Int->Int->Int->List Zaa->Int->Int->Option Ins}{N:Nat}(b5:iO K gr N)(P X1 Y1 X2 Y2 Q:Ins)(hX1:bq K X1)(hY1:bq K Y1)(fR:bq K X2)(fS:bq K Y2)(hR1:Rg K X1)(hR2:Rg K Y1)(hR3:Rg K X2)(hR4:Rg K Y2)(hN1:X1.length+Y1.length<=N)(hN2:X2.length+Y2.length<=N)
  (hb:P.length+X1.length+Y1.length+X2.length+Y2.length+Q.length<=700000) (d j0 gi v22:Int) (k:Int->Int->Int->Ins->Option Ins) :
  Zbb (P.length:Int) d ((P.length+X1.length+Y1.length+X2.length+Y2.length:Nat):Int) K.c K.b K.s gr ((P.length+X1.length+Y1.length:Nat):Int) j0 ((P.length+X1.length:Nat):Int) gi v22 k ((P.length+X1.length+Y1.length+X2.length:Nat):Int) (P++(X1++(Y1++(X2++(Y2++Q))))) =
   some (P++(mrgJ K X1 Y1++(mrgJ K X2 Y2++Q))):=by
 have g:=ZDj (K:=K) _ X1 Y1 (Nat.le_refl _);have next:Zbw (P.length:Int) d ((P.length+X1.length+Y1.length+X2.length+Y2.length:Nat):Int) K.c K.b K.s gr ((P.length+X1.length+Y1.length:Nat):Int) j0 ((P.length+X1.length:Nat):Int) gi v22 ((P.length+X1.length+Y1.length+X2.length:Nat):Int) k (P++(mrgJ K X1 Y1++(X2++(Y2++Q)))) =
   some (P++(mrgJ K X1 Y1++(mrgJ K X2 Y2++Q))):=by
  have:=ZLv b5 (P++mrgJ K X1 Y1) X2 Y2 Q fR fS hR3 hR4 hN2 (by simp only[List.length_append,g];omega) (P.length:Int) d j0 ((P.length+X1.length:Nat):Int) gi v22 k;simp only[List.length_append,g,List.append_assoc]at this;rw[show P.length+(X1.length+Y1.length)=P.length+X1.length+Y1.length by omega]at this;exact this
 unfold Zbb;rw[Zai,Zai];by_cases h:X1.length=0
 .rw[if_neg (by omega)];obtain rfl:=List.eq_nil_of_length_eq_zero h;rw[ZeB]at next ⊢
  exact next
 .rw[if_pos (by omega)];by_cases j:Y1.length=0
  .rw[if_neg (by omega)];obtain rfl:=List.eq_nil_of_length_eq_zero j;rw[Zhr]at next ⊢
   exact next
  .rw[if_pos (by omega),b5 P X1 Y1 (X2++(Y2++Q)) (by omega) (by omega) hX1 hY1 hR1 hR2 hN1 (by simp only[List.length_append];omega),ZaJ];exact next
theorem bq.take{K:Cx}{l:Ins}(h:bq K l)(k:Nat):bq K (l.take k):=List.Pairwise.sublist (List.take_sublist k l) h
theorem bq.drop{K:Cx}{l:Ins}(h:bq K l)(k:Nat):bq K (l.drop k):=List.Pairwise.sublist (List.drop_sublist k l) h
section
variable {K:Cx} {gr:Ins->Int->Int->Int->List Zaa->Int->Int->Option Ins} {N:Nat} (b5:iO K gr N) (P X Y Q:Ins) (hX:bq K X) (hY:bq K Y) (eh:Rg K X) (ej:Rg K Y) (fR:0 < X.length) (fS:0 < Y.length) (hN:X.length + Y.length<=N + 1) (hb:P.length + X.length + Y.length + Q.length<=700000)
 (mid s0 r0:Nat) (hmid:mid=(P.length+(P.length+X.length+Y.length)) / 2)
 (h0:(mid<P.length+X.length/\s0+(P.length+X.length+Y.length)=mid+(P.length+X.length)/\r0=mid)\/(P.length+X.length<=mid/\s0=P.length/\r0=P.length+X.length))
include b5 hX hY eh ej fR fS hN hb hmid h0
def Zso(K:Cx)(P X Y:Ins)(mid c:Nat):Bool:=ltJ K (Y.getD (mid-1-c) 0) (X.getD (c-P.length) 0)
theorem ZKG(st:Nat)(A:s0<=st)(B:st<=r0)(jM:∀c,s0<=c->c<st->Zso K P X Y mid c=false)(dP:∀c,st<=c->c<r0->Zso K P X Y mid c=true)(gi v22:Int)(k:Int->Int->Int->Ins->Option Ins) :
  (bif(decide ((st:Int)<((P.length+X.length:Nat):Int)))then
    bif(decide (((P.length+X.length:Nat):Int)<(Zbd ((mid+(P.length+X.length):Nat):Int) (st:Int))))then
     (ZcD (P++(X++(Y++Q))) (st:Int) ((P.length+X.length:Nat):Int) (Zbd ((mid+(P.length+X.length):Nat):Int) (st:Int)) K.c K.b K.s).bind fun x2=>
     Zbb (P.length:Int) ((P.length+X.length:Nat):Int) ((P.length+X.length+Y.length:Nat):Int) K.c K.b K.s gr (mid:Int) ((mid+(P.length+X.length):Nat):Int) (st:Int) gi v22 k (Zbd ((mid+(P.length+X.length):Nat):Int) (st:Int)) x2
    else
     Zbb (P.length:Int) ((P.length+X.length:Nat):Int) ((P.length+X.length+Y.length:Nat):Int) K.c K.b K.s gr (mid:Int) ((mid+(P.length+X.length):Nat):Int) (st:Int) gi v22 k (Zbd ((mid+(P.length+X.length):Nat):Int) (st:Int)) (P++(X++(Y++Q)))
   else
    Zbb (P.length:Int) ((P.length+X.length:Nat):Int) ((P.length+X.length+Y.length:Nat):Int) K.c K.b K.s gr (mid:Int) ((mid+(P.length+X.length):Nat):Int) (st:Int) gi v22 k (Zbd ((mid+(P.length+X.length):Nat):Int) (st:Int)) (P++(X++(Y++Q))))=some (P++(mrgJ K X Y++Q)):=by
 have ha:P.length<=st:=by omega
 have hmm:st<=mid:=by omega
 have cf:st-P.length<=X.length:=by omega
 have hk2:mid-st<=Y.length:=by omega
 obtain⟨d,t⟩ : ∃d,st=P.length+d:=⟨st-P.length,by omega⟩;obtain⟨g,D⟩ : ∃g,mid=st+g:=⟨mid-st,by omega⟩;have ee:Zbd ((mid+(P.length+X.length):Nat):Int) (st:Int)=((P.length+X.length+g:Nat):Int):=by rw[ZeA (by omega) (by omega)];omega
 have u:∀y∈Y.take g,∀x∈X.drop d,ltJ K y x=true:=by
  intro y o x hx;obtain⟨i,i1,i2,rfl⟩:=Zse o;obtain⟨j,j1,j2,rfl⟩:=ZsX hx;have h:=dP st (Nat.le_refl _) (by omega);unfold Zso at h;rw[show mid-1-st=g-1 by omega,show st-P.length=d by omega]at h;exact ZBF (ZDo h (Zlu hY (by omega) (by omega))) (Zlu hX j1 j2)
 have v:∀x∈X.take d,∀y∈Y.drop g,ltJ K y x=false:=by
  intro x hx y o;obtain⟨i,i1,i2,rfl⟩:=Zse hx;obtain⟨j,j1,j2,rfl⟩:=ZsX o;have h:=jM (st-1) (by omega) (by omega);unfold Zso at h;rw[show mid-1-(st-1)=g by omega,show st-1-P.length=d-1 by omega]at h;exact ZmF (ZmF (Zlu hY j1 j2) h) (Zlu hX (by omega) (by omega))
 have z:mrgJ K X Y=mrgJ K (X.take d) (Y.take g)++mrgJ K (X.drop d) (Y.drop g):=by
  have:=Zop (K:=K) _ (X.take d) (X.drop d) (Y.take g) (Y.drop g) (Nat.le_refl _) u v;rwa [List.take_append_drop,List.take_append_drop]at this
 have l1:(X.take d).length=d:=by simp;omega
 have l2:(Y.take g).length=g:=by simp;omega
 have l3:(X.drop d).length=X.length-d:=by simp
 have l4:(Y.drop g).length=Y.length-g:=by simp
 have last:=ZLw b5 P (X.take d) (Y.take g) (X.drop d) (Y.drop g) Q (hX.take _) (hY.take _) (hX.drop _) (hY.drop _) (eh.take _) (ej.take _) (eh.drop _) (ej.drop _) (by omega) (by omega) (by omega) ((P.length+X.length:Nat):Int) ((mid+(P.length+X.length):Nat):Int) gi v22 k;rw[l1,l2,l3,l4,show P.length+d+g+(X.length-d)+(Y.length-g)=P.length+X.length+Y.length by omega,show P.length+d+g+(X.length-d)=P.length+X.length+g by omega,show P.length+d+g=mid by omega,<-t]at last;have p:P++(X++(Y++Q))=P++X.take d++(X.drop d++(Y.take g++(Y.drop g++Q))):=by
  rw[<-List.append_assoc (Y.take g),List.take_append_drop,List.append_assoc,<-List.append_assoc (X.take d),List.take_append_drop]
 have hR:some (P++(mrgJ K (X.take d) (Y.take g)++(mrgJ K (X.drop d) (Y.drop g)++Q)))=some (P++(mrgJ K X Y++Q)):=by rw[z,List.append_assoc]
 rw[hR]at last;rw[ee,Zai,Zai];by_cases E:d<X.length
 .rw[if_pos (by omega)];by_cases F:0<g
  .rw[if_pos (by omega),p,ZJU (P++X.take d) (X.drop d) (Y.take g) (Y.drop g++Q) (by omega) (by omega) (by simp only[List.length_append];omega) _ _ _ (by simp only[List.length_append];omega) (by simp only[List.length_append];omega) (by simp only[List.length_append];omega),ZaJ];simp only[List.append_assoc]at last ⊢;exact last
  .obtain rfl:g=0:=by omega
   rw[if_neg (by omega),p];simp only[List.append_assoc,List.take_zero,List.nil_append]at last ⊢;exact last
 .rw[if_neg (by omega),p,show d=X.length by omega];rw[show d=X.length by omega]at last;simp only[List.append_assoc,List.drop_length,List.nil_append]at last ⊢;exact last
end
section
variable {K:Cx} {gr:Ins->Int->Int->Int->List Zaa->Int->Int->Option Ins} {N:Nat} (b5:iO K gr N) (P X Y Q:Ins) (hX:bq K X) (hY:bq K Y) (eh:Rg K X) (ej:Rg K Y) (fR:0 < X.length) (fS:0 < Y.length) (hN:X.length + Y.length<=N + 1) (hb:P.length + X.length + Y.length + Q.length<=700000)
 (mid s0 r0:Nat) (hmid:mid=(P.length+(P.length+X.length+Y.length)) / 2)
 (h0:(mid<P.length+X.length/\s0+(P.length+X.length+Y.length)=mid+(P.length+X.length)/\r0=mid)\/(P.length+X.length<=mid/\s0=P.length/\r0=P.length+X.length))
include b5 hX hY eh ej fR fS hN hb hmid h0
omit b5 hN hb eh ej in
theorem Zxh{c c':Nat}(b:s0<=c')(d:c'<=c)(g:c<r0)(h:Zso K P X Y mid c=false):Zso K P X Y mid c'=false:=by
 unfold Zso at *
 exact ZmF (ZmF (Zlu hY (by omega) (by omega)) h) (Zlu hX (by omega) (by omega))
theorem ZDO:∀(s lo hi fu:Nat),hi-lo<=s->s0<=lo->lo<=hi->hi<=r0->s+1<=fu->(∀c,s0<=c->c<lo->Zso K P X Y mid c=false)->(∀c,hi<=c->c<r0->Zso K P X Y mid c=true) ->
  ZaF (P.length:Int) ((P.length+X.length:Nat):Int) ((P.length+X.length+Y.length:Nat):Int) K.c K.b K.s gr (mid:Int) ((mid+(P.length+X.length):Nat):Int) fu (lo:Int) (hi:Int) ((mid+(P.length+X.length)-1:Nat):Int) (P++(X++(Y++Q)))=some (P++(mrgJ K X Y++Q)):=by
 intro s;have cj:∀(lo fu:Nat),s0<=lo->lo<=r0->(∀c,s0<=c->c<lo->Zso K P X Y mid c=false)->(∀c,lo<=c->c<r0->Zso K P X Y mid c=true) ->
   ZaF (P.length:Int) ((P.length+X.length:Nat):Int) ((P.length+X.length+Y.length:Nat):Int) K.c K.b K.s gr (mid:Int) ((mid+(P.length+X.length):Nat):Int) (fu+1) (lo:Int) (lo:Int) ((mid+(P.length+X.length)-1:Nat):Int) (P++(X++(Y++Q)))=some (P++(mrgJ K X Y++Q)):=by
  intro lo fu d g t u;unfold ZaF;rw[Zai,if_neg (by omega)];exact ZKG b5 P X Y Q hX hY eh ej fR fS hN hb mid s0 r0 hmid h0 lo d g t u _ _ _
 induction s with
 |zero=>
  intro lo hi fu v h y j z d g;obtain⟨fu,rfl⟩ : ∃x,fu=x+1:=⟨fu-1,by omega⟩;obtain rfl:lo=hi:=by omega
  exact cj lo fu h j d g
 |succ s ih=>
  intro lo hi fu v h y j z d g;obtain⟨fu,rfl⟩ : ∃x,fu=x+1:=⟨fu-1,by omega⟩;by_cases e:lo=hi
  .subst e;exact cj lo fu h j d g
  .have t1:(lo+hi) / 2<r0:=by omega
   have t2:s0<=(lo+hi) / 2:=by omega
   have ep:Zbd ((mid+(P.length+X.length)-1:Nat):Int) (((lo+hi) / 2:Nat):Int)=((P.length+X.length+(mid-1-(lo+hi) / 2):Nat):Int):=by rw[ZeA (by omega) (by omega)];omega
   have hl:(P++(X++(Y++Q))).length=P.length+X.length+Y.length+Q.length:=by simp;omega
   have e1':Zan (((lo+hi) / 2:Nat):Int) 1=(((lo+hi) / 2+1:Nat):Int):=by rw[Zcs (by omega) (by omega)];omega
   unfold ZaF;rw[Zai,if_pos (by omega),Zuv _ _ (by omega),ep,Zar (by rw[hl];omega),Zar (by rw[hl];omega)];simp only[Int.toNat_natCast];have A:(P++(X++(Y++Q))).getD (P.length+X.length+(mid-1-(lo+hi) / 2)) 0=Y.getD (mid-1-(lo+hi) / 2) 0:=by
    have:=Zyy (P:=P++X) (Y:=Y) (Q:=Q) (i:=mid-1-(lo+hi) / 2) (k:=P.length+X.length+(mid-1-(lo+hi) / 2)) (by simp) (by omega);simpa using this
   have B:(P++(X++(Y++Q))).getD ((lo+hi) / 2) 0=X.getD ((lo+hi) / 2-P.length) 0:=Zyy (by omega) (by omega);rw[A,B,Zuy (ej.get (by omega)) (eh.get (by omega)),ZaJ,e1'];by_cases o:cmpJ K (Y.getD (mid-1-(lo+hi) / 2) 0) (X.getD ((lo+hi) / 2-P.length) 0)<0
   .have ok:Zso K P X Y mid ((lo+hi) / 2)=true:=ZrM.2 o;rw[decide_eq_true o,Bool.not_true,cond_false];refine ih lo _ fu (by omega) h (by omega) (by omega) (by omega) d (fun c p c2=>?_);cases q:Zso K P X Y mid c with
    |true=>rfl
    |false=>
     have:=Zxh P X Y hX hY fR fS mid s0 r0 hmid h0 t2 p c2 q;rw[ok]at this;cases this
   .have ok:Zso K P X Y mid ((lo+hi) / 2)=false:=Zxl.2 o;rw[decide_eq_false o,Bool.not_false,cond_true];exact ih _ hi fu (by omega) (by omega) (by omega) j (by omega) (fun c p c2=>Zxh P X Y hX hY fR fS mid s0 r0 hmid h0 p (by omega) t1 ok) g
end
theorem ZJl{K:Cx}{gr:Ins->Int->Int->Int->List Zaa->Int->Int->Option Ins}{N:Nat}(b5:iO K gr N):iO K (ZcG gr) (N+1):=by
 intro P X Y Q fR fS hX hY eh ej hN hb;unfold ZcG;have h:Zbd ((P.length+X.length:Nat):Int) (P.length:Int)=(X.length:Int):=by rw[ZeA (by omega) (by omega)];omega
 have j:Zbd ((P.length+X.length+Y.length:Nat):Int) ((P.length+X.length:Nat):Int)=(Y.length:Int):=by rw[ZeA (by omega) (by omega)];omega
 rw[h,j,ZfN,ZfN];by_cases d:X.length=1
 .rw[if_pos (by omega)];obtain⟨x,rfl⟩ : ∃x,X=[x]:=by
   cases X with
   |nil=>cases d
   |cons x X=>exact⟨x,by rw[List.eq_nil_of_length_eq_zero (show X.length=0 by simpa using d)]⟩
  have:=bs1J P Y Q x hY (eh x (by simp)) ej (by omega) Y.length 0 Y.length ((((P.length+[x].length+Y.length:Nat):Int)-((P.length+[x].length:Nat):Int)).toNat+2) (by omega) (by omega) (Nat.le_refl _) (by simp only[List.length_singleton];omega) (by simp) (by simp);exact this
 .rw[if_neg (by omega)];by_cases g:Y.length=1
  .rw[if_pos (by omega)];obtain⟨y,rfl⟩ : ∃y,Y=[y]:=by
    cases Y with
    |nil=>cases g
    |cons y Y=>exact⟨y,by rw[List.eq_nil_of_length_eq_zero (show Y.length=0 by simpa using g)]⟩
   have:=bs2J P X Q y hX (ej y (by simp)) eh (by omega) X.length 0 X.length ((((P.length+X.length:Nat):Int)-(P.length:Int)).toNat+2) (by omega) (by omega) (Nat.le_refl _) (by omega) (by simp) (by simp);exact this
  .rw[if_neg (by omega)];rw[Zuv _ _ (by omega)];obtain⟨mid,hmid⟩ : ∃mid,mid=(P.length+(P.length+X.length+Y.length)) / 2:=⟨_,rfl⟩;rw[<-hmid];have en:Zan (mid:Int) ((P.length+X.length:Nat):Int)=((mid+(P.length+X.length):Nat):Int):=by rw[Zcs (by omega) (by omega)];omega
   have ep:Zbd ((mid+(P.length+X.length):Nat):Int) 1=((mid+(P.length+X.length)-1:Nat):Int):=by rw[ZeA (by omega) (by omega)];omega
   rw[en,Zai];by_cases o:mid<P.length+X.length
   .have es:Zbd ((mid+(P.length+X.length):Nat):Int) ((P.length+X.length+Y.length:Nat):Int)=((mid+(P.length+X.length)-(P.length+X.length+Y.length):Nat):Int):=by rw[ZeA (by omega) (by omega)];omega
    rw[if_pos (by omega),es];unfold ZbZ;rw[ep];exact ZDO b5 P X Y Q hX hY eh ej fR fS hN hb mid (mid+(P.length+X.length)-(P.length+X.length+Y.length)) mid hmid (.inl ⟨o,by omega,rfl⟩) _ _ _ _ (Nat.le_refl _) (Nat.le_refl _) (by omega) (Nat.le_refl _) (by omega) (fun c b c2=>by omega) (fun c b c2=>by omega)
   .rw[if_neg (by omega)];unfold ZbZ;rw[ep];exact ZDO b5 P X Y Q hX hY eh ej fR fS hN hb mid P.length (P.length+X.length) hmid (.inr ⟨by omega,rfl,rfl⟩) _ _ _ _ (Nat.le_refl _) (Nat.le_refl _) (by omega) (Nat.le_refl _) (by omega) (fun c b c2=>by omega) (fun c b c2=>by omega)
theorem ZCD{K:Cx}:∀fu,iO K (Zbt fu) fu
 | 0=>fun P X Y Q b d _ _ _ _ g=>by omega
 |fu+1=>fun P X Y Q b d g h j o p t=>by
  unfold Zbt
  exact ZJl (ZCD fu) P X Y Q b d g h j o p t
inductive BlkJ (K:Cx) (B:Nat):Ins->Ins->Prop
 |last (L:Ins) (h:L.length<=B):BlkJ K B L (ZbY K L)
 |more (L D:Ins) (h:B<=L.length) (r:BlkJ K B (L.drop B) D):BlkJ K B L (ZbY K (L.take B)++D)
theorem BlkJ.len{K:Cx}{B:Nat}{L D:Ins}(h:BlkJ K B L D):D.length=L.length:=by
 induction h with
 |last L h=>exact ZgQ L
 |more L D h r ih=>rw[List.length_append,ZgQ,ih];simp;omega
theorem BlkJ.one{K:Cx}{B:Nat}(d:0<B){L D:Ins}(h:BlkJ K B L D)(hl:L.length<=B):D=ZbY K L:=by
 cases h with
 |last _ h=>rfl
 |more _ D h r=>
  have:L.length=B:=by omega
  have hd:L.drop B=[]:=List.drop_eq_nil_of_le (by omega);have b:=r.len;rw[hd]at b;rw[List.eq_nil_of_length_eq_zero b,List.take_of_length_le (by omega),List.append_nil]
theorem BlkJ.split{K:Cx}{B:Nat}{L D:Ins}(h:BlkJ K B L D)(hl:B<=L.length):∃D1,D=ZbY K (L.take B)++D1/\BlkJ K B (L.drop B) D1:=by
 cases h with
 |last _ h=>
  have e:L.length=B:=by omega
  refine⟨[],by rw[List.take_of_length_le (by omega),List.append_nil],?_⟩;rw[List.drop_eq_nil_of_le (by omega)];exact BlkJ.last [] (by simp)
 |more _ D h r=>exact⟨D,rfl,r⟩
theorem ZKS{K:Cx}(B:Nat)(p:0<B)(i6:B<=800)(v:Int->Int->Int->Ins->Option Ins)(t:Int->Ins->Option Ins):∀(s:Nat)(L P D:Ins)(fu:Nat),L.length<2*B*(s+1)->s+1<=fu->P.length+L.length<=900->Rg K L->BlkJ K B L D ->
  ∃D',BlkJ K (2*B) L D'/\Zbn ((P.length+L.length:Nat):Int) K.c K.b K.s (B:Int) v t fu (P.length:Int) ((P.length+2*B:Nat):Int) (P++D)=t ((2*B:Nat):Int) (P++D'):=by
 intro s;induction s with
 |zero=>
  intro L P D fu u y hb hR h;obtain⟨fu,rfl⟩ : ∃x,fu=x+1:=⟨fu-1,by omega⟩;have g:Zan (P.length:Int) (B:Int)=((P.length+B:Nat):Int):=by rw[Zcs (by omega) (by omega)];omega
  have z:Zsp (B:Int) 2=((2*B:Nat):Int):=by rw[Zyn (by omega) (by omega)];omega
  unfold Zbn;rw[Zai,if_neg (by omega),g,z,Zai];refine⟨ZbY K L,BlkJ.last L (by omega),?_⟩;by_cases G:B<L.length
  .obtain⟨D1,rfl,j⟩:=h.split (by omega);have e:=j.one p (by simp;omega);subst e;have l1:(ZbY K (L.take B)).length=B:=by rw[ZgQ];simp;omega
   have l2:(ZbY K (L.drop B)).length=L.length-B:=by rw[ZgQ];simp
   have d:=ZCD (K:=K) 1000 P (ZbY K (L.take B)) (ZbY K (L.drop B)) [] (by omega) (by omega) (Zos _) (Zos _) (Zqr (hR.take _)) (Zqr (hR.drop _)) (by omega) (by simp;omega);rw[l1,l2,show P.length+B+(L.length-B)=P.length+L.length by omega,<-Zsz,List.take_append_drop,List.append_nil,List.append_nil]at d;rw[if_pos (by omega),d,ZaJ]
  .rw[if_neg (by omega),h.one p (by omega)]
 |succ s ih=>
  intro L P D fu u y hb hR h;rw[Nat.mul_succ]at u;by_cases A:2*B<=L.length
  .obtain⟨fu,rfl⟩ : ∃x,fu=x+1:=⟨fu-1,by omega⟩;have g:Zan (P.length:Int) (B:Int)=((P.length+B:Nat):Int):=by rw[Zcs (by omega) (by omega)];omega
   have E:Zsp (2:Int) (B:Int)=((2*B:Nat):Int):=by rw[Zyn (by omega) (by omega)];omega
   have F:Zan ((P.length+2*B:Nat):Int) ((2*B:Nat):Int)=((P.length+2*B+2*B:Nat):Int):=by rw[Zcs (by omega) (by omega)];omega
   unfold Zbn;rw[Zai,g,E,F];obtain⟨D1,rfl,j⟩:=h.split (by omega);obtain⟨D2,rfl,o⟩:=j.split (by simp;omega);have l1:(ZbY K (L.take B)).length=B:=by rw[ZgQ];simp;omega
   have l2:(ZbY K ((L.drop B).take B)).length=B:=by rw[ZgQ];simp;omega
   have lD:=o.len;simp only[List.length_drop]at lD;have d:=ZCD (K:=K) 1000 P (ZbY K (L.take B)) (ZbY K ((L.drop B).take B)) D2 (by omega) (by omega) (Zos _) (Zos _) (Zqr (hR.take _)) (Zqr ((hR.drop _).take _)) (by omega) (by omega);rw[l1,l2,show P.length+B+B=P.length+2*B by omega,<-Zsz]at d;have et:L.take B++(L.drop B).take B=L.take (2*B):=by rw[show 2*B=B+B by omega,List.take_add]
   have ed:(L.drop B).drop B=L.drop (2*B):=by rw[List.drop_drop];congr 1;omega
   rw[et]at d;rw[ed]at o;rw[if_pos (by omega),d,ZaJ];have lt:(ZbY K (L.take (2*B))).length=2*B:=by rw[ZgQ];simp;omega
   obtain⟨D',d1,d2⟩:=ih (L.drop (2*B)) (P++ZbY K (L.take (2*B))) D2 fu (by rw[List.length_drop];omega) (by omega) (by simp only[List.length_append,lt,List.length_drop];omega) (hR.drop _) o;refine⟨ZbY K (L.take (2*B))++D',BlkJ.more L D' A d1,?_⟩;simp only[List.length_append,lt,List.length_drop,List.append_assoc]at d2;rw[show P.length+2*B+(L.length-2*B)=P.length+L.length by omega]at d2;exact d2
  .obtain⟨fu,rfl⟩ : ∃x,fu=x+1:=⟨fu-1,by omega⟩;have hp:L.length<2*B*(s+1):=by
    have:2*B<=2*B*(s+1):=Nat.le_mul_of_pos_right _ (by omega);omega
   exact ih L P D (fu+1) hp (by omega) hb hR h
theorem ZKT{K:Cx}(v7 v8:Int)(d:Int->Int->Int->Ins->Option Ins)(L:Ins)(hL:L.length<=800)(hR:Rg K L):∀(s B:Nat)(D:Ins)(fu:Nat),L.length-B<=s->0<B->B<=1600->s+1<=fu->BlkJ K B L D ->
  ZaX (L.length:Int) K.c K.b K.s v7 v8 d fu (B:Int) D=some (ZbY K L):=by
 intro s;induction s with
 |zero=>
  intro B D fu j g i6 o h;obtain⟨fu,rfl⟩ : ∃x,fu=x+1:=⟨fu-1,by omega⟩;unfold ZaX;rw[Zai,if_neg (by omega),h.one g (by omega)]
 |succ s ih=>
  intro B D fu j g i6 o h;obtain⟨fu,rfl⟩ : ∃x,fu=x+1:=⟨fu-1,by omega⟩;unfold ZaX;rw[Zai];by_cases v:B<L.length
  .have p:Zsp (2:Int) (B:Int)=((2*B:Nat):Int):=by rw[Zyn (by omega) (by omega)];omega
   rw[if_pos (by omega),p];have t:L.length / (2*B)+1<=(((L.length:Nat):Int)-((2*B:Nat):Int)).toNat+2:=by
    by_cases u:L.length<2*B
    .rw[Nat.div_eq_of_lt u];omega
    .rw[Nat.div_eq_sub_div (by omega) (by omega)];have:=Nat.div_le_self (L.length-2*B) (2*B);omega
   obtain⟨D',d1,d2⟩:=ZKS B g (by omega) d (ZaX (L.length:Int) K.c K.b K.s v7 v8 d fu) (L.length / (2*B)) L [] D _ (Nat.lt_mul_div_succ _ (by omega)) t (by simp;omega) hR h;simp only[List.length_nil,Nat.zero_add,List.nil_append]at d2;have d2':Zbn (L.length:Int) K.c K.b K.s (B:Int) d (ZaX (L.length:Int) K.c K.b K.s v7 v8 d fu) ((((L.length:Nat):Int)-((2*B:Nat):Int)).toNat+2) 0 ((2*B:Nat):Int) D=_:=d2;rw[d2'];exact ih (2*B) D' fu (by omega) (by omega) (by omega) (by omega) d1
  .rw[if_neg (by omega),h.one g (by omega)]
theorem ZKU{K:Cx}(A:Ins)(h:A.length<=800)(hR:Rg K A):∀(s:Nat)(L P:Ins)(fu:Nat),L.length<20*(s+1)->s+1<=fu->P.length+L.length=A.length->Rg K L->(∀D,BlkJ K 20 L D->BlkJ K 20 A (P++D)) ->
  ZaS (A.length:Int) K.c K.b K.s fu 20 (P.length:Int) ((P.length+20:Nat):Int) (P++L)=some (ZbY K A):=by
 intro s;have cj:∀(L P:Ins)(fu:Nat),L.length<20->P.length+L.length=A.length->Rg K L->(∀D,BlkJ K 20 L D->BlkJ K 20 A (P++D)) ->
   ZaS (A.length:Int) K.c K.b K.s (fu+1) 20 (P.length:Int) ((P.length+20:Nat):Int) (P++L)=some (ZbY K A):=by
  intro L P fu g hl iQ d;unfold ZaS;have hi:=ZGD (K:=K) P L [] iQ (by simp;omega) (P.length:Int) (A.length:Int) rfl (by omega);simp only[List.append_nil]at hi;rw[Zai,if_neg (by omega),hi,ZaJ];exact ZKT _ _ _ A h hR (A.length-20) 20 _ _ (Nat.le_refl _) (by omega) (by omega) (by omega) (d _ (BlkJ.last L (by omega)))
 induction s with
 |zero=>
  intro L P fu g j hl iQ d;obtain⟨fu,rfl⟩ : ∃x,fu=x+1:=⟨fu-1,by omega⟩;exact cj L P fu (by omega) hl iQ d
 |succ s ih=>
  intro L P fu g j hl iQ d;obtain⟨fu,rfl⟩ : ∃x,fu=x+1:=⟨fu-1,by omega⟩;by_cases o:L.length<20
  .exact cj L P fu o hl iQ d
  .unfold ZaS;have lt:(L.take 20).length=20:=by simp;omega
   have hi:=ZGD (K:=K) P (L.take 20) (L.drop 20) (iQ.take _) (by simp;omega) (P.length:Int) ((P.length+20:Nat):Int) rfl (by rw[lt]);rw[List.take_append_drop]at hi;have p:Zan ((P.length+20:Nat):Int) 20=((P.length+20+20:Nat):Int):=by rw[Zcs (by omega) (by omega)];omega
   rw[Zai,if_pos (by omega),hi,ZaJ,p];have li:(ZbY K (L.take 20)).length=20:=by rw[ZgQ,lt]
   have:=ih (L.drop 20) (P++ZbY K (L.take 20)) fu (by rw[List.length_drop];omega) (by omega) (by simp only[List.length_append,li,List.length_drop];omega) (iQ.drop _) (fun D t=>by
    have:=d _ (BlkJ.more L D (by omega) t);rwa [<-List.append_assoc]at this)
   simp only[List.length_append,li,List.append_assoc]at this;exact this
theorem Zzq{K:Cx}(A:Ins)(d:A.length<=800)(hR:Rg K A):Zcw A K.c K.b K.s=some (ZbY K A):=by
 unfold Zcw Zed;have g:A.length / 20+1<=(((A.length:Nat):Int)-(20:Int)).toNat+2:=by omega
 have:=ZKU (K:=K) A d hR (A.length / 20) A [] ((((A.length:Nat):Int)-(20:Int)).toNat+2) (by omega) g (by simp) hR (fun D h=>h);simp only[List.length_nil,Nat.zero_add,List.nil_append]at this;have fT:ZaS (A.length:Int) K.c K.b K.s ((((A.length:Nat):Int)-(20:Int)).toNat+2) 20 0 20 A=some (ZbY K A):=this;rw[fT];rfl
def bstJ(K:Cx):Int->Ins->Int|b,[]=>b|b,y :: r=>if ltJ K y b=true then bstJ K y r else bstJ K b r
theorem ZyR{K:Cx}(y:Int):∀(l:Ins)(b:Int),bstJ K b (l++[y])=if ltJ K y (bstJ K b l)=true then y else bstJ K b l
 | [],b=>rfl
 |x :: r,b=>by
  simp only[List.cons_append,bstJ]
  split
  .exact ZyR y r x
  .exact ZyR y r b
theorem Zwj{K:Cx}:∀(l:Ins)(b:Int),bstJ K b l∈b :: l
 | [],b=>by simp[bstJ]
 |x :: r,b=>by
  simp only[bstJ]
  split
  .exact List.mem_cons_of_mem _ (Zwj r x)
  .rcases List.mem_cons.1 (Zwj (K:=K) r b)with h|h
   .rw[h];simp
   .exact List.mem_cons_of_mem _ (List.mem_cons_of_mem _ h)
theorem ZKt{l:Ins}{y:Int}(h:y ∉ l):l.filter (fun x=>x != y)=l:=List.filter_eq_self.2 fun x hx=>by
 rw[bne_iff_ne];rintro rfl;exact h hx
theorem ZER{K:Cx}(b:Int)(l:Ins)(j:(b :: l).Nodup):ZbY K (b :: l)=bstJ K b l :: ZbY K ((b :: l).filter fun x=>x != bstJ K b l):=by
 have aK:∀n,n<=l.length->ZbY K (b :: l.take n)=bstJ K b (l.take n) :: ZbY K ((b :: l.take n).filter fun x=>x != bstJ K b (l.take n)):=by
  intro n;induction n with
  |zero=>intro _;simp[ZbY,bstJ,ZeB]
  |succ n ih=>
   intro h;have d:l.take (n+1)=l.take n++[l[n]]:=List.take_succ_eq_append_getElem (show n<l.length by omega);have hn2:(b :: l.take n++[l[n]]).Nodup:=by
    have:(b :: l.take (n+1)).Nodup:=j.sublist (List.Sublist.cons_cons _ (List.take_sublist _ _));rw[d]at this;exact this
   have cg:l[n] ∉ b :: l.take n:=fun g=>(List.nodup_append.1 hn2).2.2 _ g _ (by simp) rfl;have e:b :: l.take (n+1)=(b :: l.take n)++[l[n]]:=by rw[d];rfl
   have g:=Zwj (K:=K) (l.take n) b;rw[e,ZhB,ih (by omega),d,ZyR];cases hlt:ltJ K l[n] (bstJ K b (l.take n))with
   |true=>
    rw[if_pos rfl,ZhU _ _ hlt,Zhr,<-ih (by omega),List.filter_append,ZKt cg];simp
   |false=>
    have hne:l[n]≠bstJ K b (l.take n):=fun h=>cg (h ▸ g);rw[if_neg (by decide),ZiC _ _ hlt,List.filter_append,<-ZhB];congr 2;simp[hne]
 have:=aK l.length (Nat.le_refl _);rwa [List.take_length]at this
def selN(K:Cx):Nat->Ins->Ins|0,_=>[]|_+1,[]=>[]|n+1,b :: l=>bstJ K b l :: selN K n ((b :: l).filter fun x=>x != bstJ K b l)
theorem Zuk{K:Cx}:∀(n:Nat)(L:Ins),L.Nodup->selN K n L=(ZbY K L).take n
 | 0,_,_=>by simp[selN]
 |n+1,[],_=>by simp[selN,ZbY]
 |n+1,b :: l,h=>by
  rw[selN,ZER b l h,List.take_succ_cons,Zuk n _ (h.sublist List.filter_sublist)]
theorem ZKg{K K':Cx}(f:Int->Int):∀(n:Nat)(a b:Ins),a.length+b.length<=n->(∀x∈a,∀y∈b,ltJ K' (f y) (f x)=ltJ K y x)->mrgJ K' (a.map f) (b.map f)=(mrgJ K a b).map f:=by
 intro n;induction n with
 |zero=>
  intro a b h _;obtain rfl:=List.eq_nil_of_length_eq_zero (show a.length=0 by omega);simp[ZeB]
 |succ n ih=>
  intro a b h g;cases a with
  |nil=>simp[ZeB]
  |cons x a=>
   cases b with
   |nil=>simp[Zhr]
   |cons y b=>
    simp only[List.length_cons]at h;have e:=g x (by simp) y (by simp);simp only[List.map_cons];cases d:ltJ K y x with
    |true=>
     rw[d]at e;have:=ih (x :: a) b (by simp only[List.length_cons];omega) fun x' hx y' j=>g x' hx y' (by simp[j]);simp only[List.map_cons]at this;rw[ZhU _ _ e,ZhU _ _ d,List.map_cons,this]
    |false=>
     rw[d]at e;have:=ih a (y :: b) (by simp only[List.length_cons];omega) fun x' hx y' j=>g x' (by simp[hx]) y' j;simp only[List.map_cons]at this;rw[ZiC _ _ e,ZiC _ _ d,List.map_cons,this]
theorem Zvv{K:Cx}(l:Ins):∀x∈ZbY K l,x∈l:=by
 have:∀n,n<=l.length->∀x∈ZbY K (l.take n),x∈l.take n:=by
  intro n;induction n with
  |zero=>intro _;simp[ZbY]
  |succ n ih=>
   intro h;rw[List.take_succ_eq_append_getElem (show n<l.length by omega),ZhB];intro x hx;rcases Zuq _ _ _ (Nat.le_refl _) x hx with q|q
   .exact List.mem_append.2 (.inl (ih (by omega) x q))
   .exact List.mem_append.2 (.inr q)
 have h:=this l.length (Nat.le_refl _);rwa [List.take_length]at h
theorem ZGz{K K':Cx}(f:Int->Int)(C:Ins)(b:∀x∈C,∀y∈C,ltJ K' (f y) (f x)=ltJ K y x):ZbY K' (C.map f)=(ZbY K C).map f:=by
 have:∀n,n<=C.length->ZbY K' ((C.take n).map f)=(ZbY K (C.take n)).map f:=by
  intro n;induction n with
  |zero=>intro _;simp[ZbY]
  |succ n ih=>
   intro h;rw[List.take_succ_eq_append_getElem (show n<C.length by omega),ZhB,List.map_append,List.map_singleton,ZhB,ih (by omega)];have:=ZKg (K:=K) (K':=K') f _ (ZbY K (C.take n)) [C[n]] (Nat.le_refl _) fun x hx y d=>b x (List.mem_of_mem_take (Zvv _ x hx)) y (by rw[List.mem_singleton.1 d];exact List.getElem_mem _);simpa using this
 have h:=this C.length (Nat.le_refl _);rwa [List.take_length]at h
def gP(l:List Zaa)(i:Int):Zaa:=l.getD i.toNat Zaa.d
def okPs(l:List Zaa):Prop:=∀p∈l,p.fEnd.fAddr.ok
def cntB(b:Int)(p:Zaa):Bool:=if b=1 then true else if b=4 then true else if b=2 then decide (p.fPing>0)else if b=3 then decide (p.fWork>0)else false
def upto(n:Nat):Ins:=(List.range n).map fun(i:Nat)=>(i:Int)
def ZfU(l:List Zaa)(b:Int)(at_:Ins):Ins:=at_.filter fun i=>cntB b (gP l i)
def inL(l:List Zaa)(at_:Ins):Prop:=∀i∈at_,0<=i/\i<((l.length:Nat):Int)
theorem ZBq(p:Zaa)(b:Int):ZkC p b=some (cntB b p):=by
 unfold ZkC Zim cntB;simp only[ZfN];by_cases d:b=1
 .subst d;simp
 .by_cases g:b=4
  .subst g;simp
  .have o:(b==(1:Int))=false:=beq_false_of_ne d;have t:(b==(4:Int))=false:=beq_false_of_ne g;simp only[if_neg d,if_neg g,o,t,cond_false];by_cases h:b=2
   .simp only[if_pos h]
   .by_cases j:b=3
    .simp only[if_neg h,if_pos j]
    .simp only[if_neg h,if_neg j]
theorem ZEw(p:Zaa)(b:Int):ZfK p b=some (cntB b p):=by
 unfold ZfK cntB;simp only[ZfN];by_cases d:b=1
 .simp only[if_pos d]
 .by_cases g:b=4
  .simp only[if_neg d,if_pos g]
  .by_cases h:b=2
   .subst h;simp only[Zai];by_cases hp:p.fPing>0
    .simp[hp]
    .simp[hp]
   .by_cases j:b=3
    .simp only[if_neg d,if_neg g,if_neg h,if_pos j]
    .simp only[if_neg d,if_neg g,if_neg h,if_neg j]
theorem Zsc(n:Nat):upto (n+1)=upto n++[(n:Int)]:=by simp[upto,List.range_succ]
theorem ZnF(n:Nat):(upto n).length=n:=by simp[upto]
theorem ZiW{n:Nat}{x:Int}:x∈upto n↔0<=x/\x<(n:Int):=by
 simp only[upto,List.mem_map,List.mem_range];constructor
 .rintro ⟨a,h,rfl⟩;omega
 .rintro ⟨b,d⟩;exact⟨x.toNat,by omega,by omega⟩
theorem Zmq(n:Nat):(upto n).Nodup:=by
 induction n with
 |zero=>simp[upto]
 |succ n ih=>
  rw[Zsc,List.nodup_append];refine⟨ih,by simp,fun a ha b hb=>?_⟩;rw[List.mem_singleton.1 hb];have:=ZiW.1 ha;omega
theorem ZDN(l:List Zaa)(b:Int)(X Y:Ins):ZfU l b (X++Y)=ZfU l b X++ZfU l b Y:=List.filter_append ..
theorem ZuC(l:List Zaa)(b:Int)(X:Ins):(ZfU l b X).length<=X.length:=List.length_filter_le ..
theorem rg_of{l:List Zaa}{b s:Int}{at_:Ins}(ho:okPs l)(h:inL l at_):Rg ⟨l,b,s⟩ at_:=fun x hx=>by
 obtain⟨d,g⟩:=h x hx
 refine⟨⟨d,g⟩,?_⟩
 rw[ZbT l _ x.toNat (by omega)]
 exact ho _ (List.getElem_mem _)
theorem ZEj{S:Ins}{m n:Int}(d:(S.length:Int)=m):S.take ((if m<(if(0:Int)>n then 0 else n)then m else(if(0:Int)>n then 0 else n)).toNat)=S.take n.toNat:=by
 by_cases h0:(0:Int)>n
 .rw[if_pos h0];rw[if_neg (by omega)];congr 1;omega
 .rw[if_neg h0];by_cases b:m<n
  .rw[if_pos b,List.take_of_length_le (by omega),List.take_of_length_le (by omega)]
  .rw[if_neg b]
theorem ZEz(l:List Zaa)(b n s:Int)(hl:l.length<=800)(ho:okPs l):Zex l b n s=some ((ZbY ⟨l,b,s⟩ (ZfU l b (upto l.length))).take n.toNat):=by
 have aK:∀(k i fu:Nat),l.length-i=k->i<=l.length->k+1<=fu->ZeJ n fu l (l.length:Int) (i:Int) (ZfU l b (upto i)) l b s=some ((ZbY ⟨l,b,s⟩ (ZfU l b (upto l.length))).take n.toNat):=by
  intro k;induction k with
  |zero=>
   intro i fu h hi j;obtain⟨fu,rfl⟩ : ∃x,fu=x+1:=⟨fu-1,by omega⟩;obtain rfl:i=l.length:=by omega
   unfold ZeJ;have g:=ZuC l b (upto l.length);rw[ZnF]at g;have hin:inL l (ZfU l b (upto l.length)):=fun x hx=>ZiW.1 (List.mem_filter.1 hx).1;have e:=Zzq (K:=⟨l,b,s⟩) (ZfU l b (upto l.length)) (by omega) (rg_of ho hin);dsimp only at e;have hs:=ZgQ (K:=⟨l,b,s⟩) (ZfU l b (upto l.length));rw[Zai,if_neg (by omega),e,ZaJ,Zar (by refine⟨by omega,?_,?_⟩<;>(repeat' split)<;>omega),Zar (by (repeat' split)<;>omega),ZEj (by rw[hs])]
  |succ k ih=>
   intro i fu h hi j;obtain⟨fu,rfl⟩ : ∃x,fu=x+1:=⟨fu-1,by omega⟩;unfold ZeJ;have g:=ZuC l b (upto i);rw[ZnF]at g;have o:Zan (i:Int) 1=((i+1:Nat):Int):=add1 (n:=i+1) (by omega) (by simp only[maxLen];omega);rw[Zai,if_pos (by omega),Zar (by omega),ZBq,ZaJ,o];have bv:=ih (i+1) fu (by omega) (by omega) (by omega);rw[Zsc,ZDN]at bv;cases hb:cntB b (l.getD ((i:Int)).toNat Zaa.d)with
   |true=>
    have:ZfU l b [(i:Int)]=[(i:Int)]:=by simp only[ZfU,gP,List.filter_cons,hb,if_true,List.filter_nil]
    rw[this]at bv;rw[cond_true,Zar (by simp only[List.length_append,List.length_singleton,maxLen];omega)];exact bv
   |false=>
    have:ZfU l b [(i:Int)]=[]:=by simp only[ZfU,gP,List.filter_cons,hb,Bool.false_eq_true,if_false,List.filter_nil]
    rw[this,List.append_nil]at bv;rw[cond_false];exact bv
 have:=aK l.length 0 _ (by omega) (by omega) (Nat.le_refl _);unfold Zex;exact aK l.length 0 _ (by omega) (by omega) (by omega)
theorem ZBj(l:List Zaa)(at_:Ins)(hl:at_.length<=800)(b:inL l at_):ZdR l at_=some (at_.map (gP l)):=by
 have aK:∀(k i fu:Nat),at_.length-i=k->i<=at_.length->k+1<=fu->Zfd l fu at_ (at_.length:Int) (i:Int) ((at_.take i).map (gP l))=some (at_.map (gP l)):=by
  intro k;induction k with
  |zero=>
   intro i fu d hi g;obtain⟨fu,rfl⟩ : ∃x,fu=x+1:=⟨fu-1,by omega⟩;unfold Zfd;rw[Zai,if_neg (by omega),List.take_of_length_le (by omega)]
  |succ k ih=>
   intro i fu d hi g;obtain⟨fu,rfl⟩ : ∃x,fu=x+1:=⟨fu-1,by omega⟩;unfold Zfd;have h:Zan (i:Int) 1=((i+1:Nat):Int):=add1 (n:=i+1) (by omega) (by simp only[maxLen];omega);have bt:i<at_.length:=by omega
   have j:=b _ (List.getElem_mem bt);have o:at_.getD ((i:Int)).toNat 0=at_[i]:=ZbT at_ 0 i bt;have hlt:((at_.take i).map (gP l)).length=i:=by simp;omega
   rw[Zai,if_pos (by omega),Zar (by omega),o,Zar j,Zar (by simp only[List.length_append,hlt,List.length_singleton,maxLen];omega),h];have:=ih (i+1) fu (by omega) (by omega) (by omega);rw[List.take_succ_eq_append_getElem bt,List.map_append,List.map_singleton]at this;exact this
 unfold ZdR;rw[Zar (by omega)];exact aK at_.length 0 _ (by omega) (by omega) (by omega)
def ZwB(at_ bk:Ins)(i:Nat):Ins:=((List.range i).filter fun(j:Nat)=>!decide ((j:Int)∈bk)).map fun(j:Nat)=>at_.getD j 0
theorem ZBl(at_ bk:Ins)(hl:at_.length<=800)(y:bk.length<=800)(t:∀k∈bk,0<=k/\k<((at_.length:Nat):Int)):ZeI at_ bk=some (ZwB at_ bk at_.length):=by
 have bY:∀(a b:Int)(v w:Ins)(kk:Ins->Int->Int->Ins->List Bool->Option Ins)(fl:List Bool),fl.length=at_.length->(∀i,i<at_.length->fl.getD i false=decide ((i:Int)∈bk))->∀(k i fu:Nat),at_.length-i=k->i<=at_.length->k+1<=fu ->
   Zes at_ v a b w kk fu at_ (at_.length:Int) (i:Int) (ZwB at_ bk i) fl=some (ZwB at_ bk at_.length):=by
  intro a b v w kk fl eR dl k;induction k with
  |zero=>
   intro i fu d hi g;obtain⟨fu,rfl⟩ : ∃x,fu=x+1:=⟨fu-1,by omega⟩;obtain rfl:i=at_.length:=by omega
   unfold Zes;rw[Zai,if_neg (by omega)]
  |succ k ih=>
   intro i fu d hi g;obtain⟨fu,rfl⟩ : ∃x,fu=x+1:=⟨fu-1,by omega⟩;unfold Zes;have o:Zan (i:Int) 1=((i+1:Nat):Int):=add1 (n:=i+1) (by omega) (by simp only[maxLen];omega);have hk2:(ZwB at_ bk i).length<=i:=by
    unfold ZwB;rw[List.length_map];have:=List.length_filter_le (fun j:Nat=>!decide ((j:Int)∈bk)) (List.range i);rw[List.length_range]at this;exact this
   have bv:=ih (i+1) fu (by omega) (by omega) (by omega);have hfi:fl.getD ((i:Int)).toNat false=decide ((i:Int)∈bk):=dl i (by omega);rw[Zai,if_pos (by omega),Zar (by omega),Zar (by rw[eR];omega),hfi,o];have hs:ZwB at_ bk (i+1)=ZwB at_ bk i++(if(i:Int)∈bk then[]else[at_.getD i 0]):=by
    unfold ZwB;rw[List.range_succ,List.filter_append,List.map_append];congr 1;by_cases h:(i:Int)∈bk<;>simp[h]
   rw[hs]at bv;by_cases h:(i:Int)∈bk
   .rw[if_pos h,List.append_nil]at bv;rw[decide_eq_true h,Bool.not_true,cond_false];exact bv
   .rw[if_neg h]at bv;rw[decide_eq_false h,Bool.not_false,cond_true,Zar (by simp only[List.length_append,List.length_singleton,maxLen];omega)];exact bv
 have cw:∀(k i fu:Nat)(fl:List Bool),bk.length-i=k->i<=bk.length->k+1<=fu->fl.length=at_.length->(∀j,j<at_.length->fl.getD j false=decide ((j:Int)∈bk.take i)) ->
   ZdN at_ fu bk (bk.length:Int) (i:Int) [] fl=some (ZwB at_ bk at_.length):=by
  intro k;induction k with
  |zero=>
   intro i fu fl d hi g eR dl;obtain⟨fu,rfl⟩ : ∃x,fu=x+1:=⟨fu-1,by omega⟩;unfold ZdN;rw[Zai,if_neg (by omega)];rw[List.take_of_length_le (by omega)]at dl;exact bY _ _ _ _ _ fl eR dl at_.length 0 _ (by omega) (by omega) (by omega)
  |succ k ih=>
   intro i fu fl d hi g eR dl;obtain⟨fu,rfl⟩ : ∃x,fu=x+1:=⟨fu-1,by omega⟩;unfold ZdN;have o:Zan (i:Int) 1=((i+1:Nat):Int):=add1 (n:=i+1) (by omega) (by simp only[maxLen];omega);have bt:i<bk.length:=by omega
   have u:=t _ (List.getElem_mem bt);have b6:bk.getD ((i:Int)).toNat 0=bk[i]:=ZbT bk 0 i bt;rw[Zai,if_pos (by omega),Zar (by omega),b6,Zar (by rw[eR];exact u),o];refine ih (i+1) fu _ (by omega) (by omega) (by omega) (by simpa using eR) fun j p=>?_;rw[List.take_succ_eq_append_getElem bt];have hx:=dl j p;simp only[List.getD_eq_getElem?_getD]at hx ⊢;rw[List.getElem?_set];by_cases hj2:bk[i].toNat=j
   .have:(j:Int)=bk[i]:=by omega
    rw[if_pos hj2,if_pos (by omega),this];exact(decide_eq_true (List.mem_append.2 (.inr (by simp)))).symm
   .have:¬(j:Int)=bk[i]:=by omega
    rw[if_neg hj2,hx,decide_eq_decide,List.mem_append];constructor
    .exact .inl
    .rintro (h|h)
     .exact h
     .exact absurd (List.mem_singleton.1 h) this
 unfold ZeI;rw[Zar (by omega),Zar (by omega)];refine cw bk.length 0 _ _ (by omega) (by omega) (by omega) (by simp) fun j p=>?_;simp[List.getD_eq_getElem?_getD,p]
def Znf(l:List Zaa)(s b n:Int)(at_:Ins):Ins:=at_.filter fun i=>!decide (i∈(ZbY ⟨l,b,s⟩ (ZfU l b at_)).take n.toNat)
theorem Zjo{l:List Zaa}{s b n:Int}{at_:Ins}(h:inL l at_):inL l (Znf l s b n at_):=fun i hi=>h i (List.mem_filter.1 hi).1
theorem ZgP{l:List Zaa}{s b n:Int}{at_:Ins}(h:at_.Nodup):(Znf l s b n at_).Nodup:=h.sublist List.filter_sublist
theorem ZoY(l:List Zaa)(s b n:Int)(at_:Ins):(Znf l s b n at_).length<=at_.length:=List.length_filter_le ..
theorem ZyD{α β:Type}(f:α->β)(p:β->Bool)(q:α->Bool)(l:List α)(h:∀x∈l,p (f x)=q x):(l.map f).filter p=(l.filter q).map f:=by
 rw[List.filter_map];congr 1;exact List.filter_congr h
theorem ZxH(l:List Zaa)(at_:Ins)(b n s:Int)(hl:at_.length<=800)(ho:okPs l)(u:inL l at_)(A:at_.Nodup) :
  ((ZdR l at_).bind fun x=>(Zex x b n s).bind fun y=>ZeI at_ y)=some (Znf l s b n at_):=by
 rw[ZBj l at_ hl u,ZaJ];have bR:okPs (at_.map (gP l)):=fun p hp=>by
  obtain⟨i,hi,rfl⟩:=List.mem_map.1 hp;have:=u i hi;unfold gP;rw[ZbT l _ i.toNat (by omega)];exact ho _ (List.getElem_mem _)
 rw[ZEz _ b n s (by simpa using hl) bR,ZaJ];obtain⟨f,o⟩ : ∃f:Int->Int,f=fun p=>at_.getD p.toNat 0:=⟨_,rfl⟩;have hfp:∀i:Nat,f (i:Int)=at_.getD i 0:=fun i=>by rw[o];rfl
 have hlen:(at_.map (gP l)).length=at_.length:=by simp
 rw[hlen];have t:∀p:Int,0<=p->p<(at_.length:Int)->gP (at_.map (gP l)) p=gP l (f p):=fun p g d=>by
  have hp:p.toNat<at_.length:=by omega
  rw[o];simp only[gP];rw[ZbT _ _ p.toNat (by simpa using hp),List.getElem_map,ZbT at_ 0 p.toNat hp];rfl
 have hat:(upto at_.length).map f=at_:=by
  apply List.ext_getElem
  .simp[upto]
  .intro i g d;simp only[upto,List.map_map,List.getElem_map,List.getElem_range,Function.comp];rw[hfp,ZbT at_ 0 i d]
 have B:(ZfU (at_.map (gP l)) b (upto at_.length)).map f=ZfU l b at_:=by
  have:ZfU l b at_=((upto at_.length).map f).filter fun i=>cntB b (gP l i):=by rw[hat];rfl
  rw[this,ZyD f _ (fun p=>cntB b (gP (at_.map (gP l)) p))]
  .rfl
  .intro p hp;obtain⟨g,d⟩:=ZiW.1 hp;rw[t p g d]
 have v:ZbY ⟨l,b,s⟩ (ZfU l b at_)=(ZbY ⟨at_.map (gP l),b,s⟩ (ZfU (at_.map (gP l)) b (upto at_.length))).map f:=by
  rw[<-B];refine ZGz f _ fun x hx y D=>?_;obtain⟨x1,x2⟩:=ZiW.1 (List.mem_filter.1 hx).1;obtain⟨y1,y2⟩:=ZiW.1 (List.mem_filter.1 D).1;have e:cmpJ ⟨l,b,s⟩ (f y) (f x)=cmpJ ⟨at_.map (gP l),b,s⟩ y x:=by
   show Zoi b s (gP l (f y)) (gP l (f x))=Zoi b s (gP (at_.map (gP l)) y) (gP (at_.map (gP l)) x);rw[t y y1 y2,t x x1 x2]
  unfold ltJ;rw[e]
 obtain⟨S,lV⟩ : ∃S,S=ZbY ⟨at_.map (gP l),b,s⟩ (ZfU (at_.map (gP l)) b (upto at_.length)):=⟨_,rfl⟩;have hSm:∀x∈S,0<=x/\x<(at_.length:Int):=fun x hx=>by
  rw[lV]at hx;exact ZiW.1 (List.mem_filter.1 (Zvv _ x hx)).1
 have hSl:S.length<=at_.length:=by
  rw[lV,ZgQ];have:=ZuC (at_.map (gP l)) b (upto at_.length);rw[ZnF]at this;exact this
 rw[<-lV]at v ⊢;rw[ZBl at_ _ hl (by simp only[List.length_take];omega) fun k E=>hSm k (List.mem_of_mem_take E)];have iH:∀x y:Int,0<=x->x<(at_.length:Int)->0<=y->y<(at_.length:Int)->f x=f y->x=y:=fun x y x1 x2 y1 y2 h=>by
  rw[o]at h;simp only at h;rw[ZbT at_ 0 x.toNat (by omega),ZbT at_ 0 y.toNat (by omega)]at h;have:=ZqU A (i:=x.toNat) (j:=y.toNat) (a:=at_[y.toNat]'(by omega)) (by rw[<-h];simp) (by simp);omega
 congr 1;unfold Znf;rw[v,<-List.map_take];have F:∀p:Int->Bool,at_.filter p=((upto at_.length).map f).filter p:=fun p=>by rw[hat]
 rw[F,ZyD f _ (fun p=>!decide (p∈S.take n.toNat))]
 .unfold ZwB upto;rw[ZyD (fun(i:Nat)=>(i:Int)) _ (fun j=>!decide ((j:Int)∈S.take n.toNat)) _ (fun _ _=>rfl),List.map_map];exact List.map_congr_left fun j _=>(hfp j).symm
 .intro p hp;obtain⟨g,d⟩:=ZiW.1 hp;congr 1;rw[decide_eq_decide];constructor
  .intro h;obtain⟨q,z,e⟩:=List.mem_map.1 h;obtain⟨G,H⟩:=hSm q (List.mem_of_mem_take z);rw[<-iH q p G H g d e];exact z
  .intro h;exact List.mem_map.2 ⟨p,h,rfl⟩
def Zvu(l:List Zaa)(q:Zax)(s:Int):Ins:=Znf l s 4 q.fTime (Znf l s 3 q.fWork (Znf l s 2 q.fPing (Znf l s 1 q.fGroup (upto l.length))))
theorem ZBk(l:List Zaa)(q:Zax)(s:Int)(hl:l.length<=800)(ho:okPs l):Zjh l q s=some (Zvu l q s):=by
 have bY:∀(a b:Int)(w:Ins)(q':Zax)(kk:Int->Int->Ins->Zax->Option Ins)(fu:Nat),Zcu l s a b w q' kk (fu+5) (⟨1,q.fGroup⟩,⟨2,q.fPing⟩,⟨3,q.fWork⟩,⟨4,q.fTime⟩) 0 (upto l.length)=some (Zvu l q s):=by
  intro a b w q' kk fu;have h0:inL l (upto l.length):=fun i hi=>ZiW.1 hi;have t1:=ZxH l (upto l.length) 1 q.fGroup s (by rw[ZnF];exact hl) ho h0 (Zmq _);have l1:=ZoY l s 1 q.fGroup (upto l.length);rw[ZnF]at l1;have t2:=ZxH l _ 2 q.fPing s (by omega) ho (Zjo (s:=s) (b:=1) (n:=q.fGroup) h0) (ZgP (Zmq _));have l2:=ZoY l s 2 q.fPing (Znf l s 1 q.fGroup (upto l.length));have t3:=ZxH l _ 3 q.fWork s (by omega) ho (Zjo (s:=s) (b:=2) (n:=q.fPing) (Zjo (s:=s) (b:=1) (n:=q.fGroup) h0)) (ZgP (ZgP (Zmq _)));have l3:=ZoY l s 3 q.fWork (Znf l s 2 q.fPing (Znf l s 1 q.fGroup (upto l.length)));have t4:=ZxH l _ 4 q.fTime s (by omega) ho (Zjo (s:=s) (b:=3) (n:=q.fWork) (Zjo (s:=s) (b:=2) (n:=q.fPing) (Zjo (s:=s) (b:=1) (n:=q.fGroup) h0))) (ZgP (ZgP (ZgP (Zmq _))));have bd:∀{α β γ δ:Type}(r:Option α)(g:α->Option β)(h:β->Option γ)(k:γ->Option δ)(z:γ),(r.bind fun x=>(g x).bind fun y=>h y)=some z->(r.bind fun x=>(g x).bind fun y=>(h y).bind k)=k z:=by
   intro α β γ δ r g h k z e;cases r with
   |none=>cases e
   |some x=>
    simp only[Option.bind_some]at e ⊢;cases d:g x with
    |none=>rw[d]at e;cases e
    |some y=>rw[d]at e;simp only[Option.bind_some]at e ⊢;rw[e];rfl
  have km:∀{δ:Type}(X:Ins)(b n:Int)(k:Ins->Option δ)(z:Ins),((ZdR l X).bind fun x=>(Zex x b n s).bind fun y=>ZeI X y)=some z->((ZdR l X).bind fun x=>(Zex x b n s).bind fun y=>(ZeI X y).bind k)=k z:=by
   intro δ X b n k z e;cases hp:ZdR l X with
   |none=>rw[hp]at e;cases e
   |some x=>
    rw[hp]at e;simp only[Option.bind_some]at e ⊢;cases d:Zex x b n s with
    |none=>rw[d]at e;cases e
    |some y=>rw[d]at e;simp only[Option.bind_some]at e ⊢;rw[e];rfl
  have p:Zan (0:Int) 1=1:=rfl;have t:Zan (1:Int) 1=2:=rfl;have u:Zan (2:Int) 1=3:=rfl;have v:Zan (3:Int) 1=4:=rfl;unfold Zcu;rw[Zai,if_pos (by omega),Zar (by omega)];simp only[ix1,if_true,p];rw[km _ _ _ _ _ t1];unfold Zcu;rw[Zai,if_pos (by omega),Zar (by omega)];simp only[ix1,if_true,t,show ¬((1:Int)=0)by omega,if_false];rw[km _ _ _ _ _ t2];unfold Zcu;rw[Zai,if_pos (by omega),Zar (by omega)];simp only[ix1,if_true,u,show ¬((2:Int)=0)by omega,show ¬((2:Int)=1)by omega,if_false];rw[km _ _ _ _ _ t3];unfold Zcu;rw[Zai,if_pos (by omega),Zar (by omega)];simp only[ix1,if_true,v,show ¬((3:Int)=0)by omega,show ¬((3:Int)=1)by omega,show ¬((3:Int)=2)by omega,if_false];rw[km _ _ _ _ _ t4];unfold Zcu;rw[Zai,if_neg (by omega)];rfl
 have cw:∀(k i fu:Nat)(w:Ins),l.length-i=k->i<=l.length->k+1<=fu->w.length=l.length->w.take i=upto i->ZdO l s fu (l.length:Int) (i:Int) w q=some (Zvu l q s):=by
  intro k;induction k with
  |zero=>
   intro i fu w A hi B o j;obtain⟨fu,rfl⟩ : ∃x,fu=x+1:=⟨fu-1,by omega⟩;obtain rfl:i=l.length:=by omega
   rw[List.take_of_length_le (by omega)]at j;unfold ZdO;have e:Zlz q=some (⟨1,q.fGroup⟩,⟨2,q.fPing⟩,⟨3,q.fWork⟩,⟨4,q.fTime⟩):=rfl;rw[Zai,if_neg (by omega),e,ZaJ,j];exact bY _ _ _ _ _ 1
  |succ k ih=>
   intro i fu w A hi B o j;obtain⟨fu,rfl⟩ : ∃x,fu=x+1:=⟨fu-1,by omega⟩;unfold ZdO;have D:Zan (i:Int) 1=((i+1:Nat):Int):=add1 (n:=i+1) (by omega) (by simp only[maxLen];omega);rw[Zai,if_pos (by omega),Zar (by omega),D];refine ih (i+1) fu _ (by omega) (by omega) (by omega) (by simpa using o) ?_;rw[Zsc,<-j];simp only[Int.toNat_natCast];rw[List.take_succ_eq_append_getElem (by simp;omega),List.take_set_of_le (Nat.le_refl _)];simp
 unfold Zjh;rw[Zar (by omega)];simp only[Int.toNat_natCast];exact cw l.length 0 _ _ (by omega) (by omega) (by omega) (by simp) (by simp[upto])
theorem ZKb(p:Zaa)(s:Int):Zeg s (grp p.fEnd.fAddr)=some (keyZ s p):=by
 obtain⟨m,b,d,_⟩:=ZBB s (grp p.fEnd.fAddr);unfold keyZ;rw[b,d];rfl
theorem ZJg(a b:Int)(p q:Zaa):ZcO a b p q=some (decide (a<b\/(a=b/\cmpE p.fEnd q.fEnd<0))):=by
 unfold ZcO;rw[Zsj,ZaJ];by_cases h:a=b
 .subst h;have e:(a != a)=false:=by simp
  rw[e,cond_false];congr 1;rw[decide_eq_decide];constructor
  .intro h;exact .inr ⟨rfl,h⟩
  .rintro (h|⟨_,h⟩)
   .omega
   .exact h
 .have e:(a != b)=true:=by rw[bne_iff_ne];exact h
  rw[e,cond_true];congr 1;rw[decide_eq_decide];constructor
  .intro h;exact .inl h
  .rintro (d|⟨d,_⟩)
   .exact d
   .exact absurd d h
theorem ZGb(p q:Zaa)(b s:Int)(hp:p.fEnd.fAddr.ok)(t:q.fEnd.fAddr.ok)(hb:1<=b/\b<=4):Zge p q b s=some (decide (Zoi b s p q<0)):=by
 have hd:decide (Zoi b s p q<0)=decide (kv b s p<kv b s q\/(kv b s p=kv b s q/\cmpE p.fEnd q.fEnd<0)):=by rw[decide_eq_decide];exact ZsO
 rw[hd];unfold Zge;simp only[ZCV _ hp,ZCV _ t,ZaJ,ZKb,ZJg,ZfN];by_cases o:b=1
 .subst o;simp only[if_true,kv];by_cases h:keyZ s p=keyZ s q
  .have e:(keyZ s p != keyZ s q)=false:=by rw[h];simp
   rw[e,cond_false];congr 1;rw[decide_eq_decide];constructor
   .rintro (d|⟨_,d⟩)
    .omega
    .exact .inr ⟨by omega,d⟩
   .rintro (d|⟨_,d⟩)
    .omega
    .exact .inr ⟨by trivial,d⟩
  .have e:(keyZ s p != keyZ s q)=true:=by rw[bne_iff_ne];exact h
   rw[e,cond_true];congr 1;rw[decide_eq_decide];constructor
   .intro d;left;omega
   .rintro (d|⟨d,_⟩)<;>omega
 .by_cases d:b=2
  .subst d;simp[kv]
  .by_cases u:b=3
   .subst u;simp only[kv,if_neg o,if_neg d,if_true];congr 1;rw[decide_eq_decide];constructor
    .rintro (g|⟨g,j⟩)
     .left;omega
     .right;exact⟨by omega,j⟩
    .rintro (g|⟨g,j⟩)
     .left;omega
     .right;exact⟨by omega,j⟩
   .obtain rfl:b=4:=by omega
    simp[kv]
def unJ(w:List Bool)(i:Nat):Ins:=(upto i).filter fun j=>!(w.getD j.toNat false)
def Ztb(K:Cx):Ins->Int | []=>-1|b :: r=>bstJ K b r
theorem ZHD{K:Cx}(C:Ins)(y:Int):Ztb K (C++[y])=if C=[]then y else if ltJ K y (Ztb K C)=true then y else Ztb K C:=by
 cases C with
 |nil=>simp[Ztb,bstJ]
 |cons b r=>
  rw[if_neg (by simp)];exact ZyR y r b
theorem Zwm{K:Cx}{C:Ins}(h:C≠[]):Ztb K C∈C:=by
 cases C with
 |nil=>exact absurd rfl h
 |cons b r=>exact Zwj r b
theorem ZCL(w:List Bool)(i:Nat):unJ w (i+1)=unJ w i++if w.getD i false=true then[]else[(i:Int)]:=by
 unfold unJ;rw[Zsc,List.filter_append];congr 1;cases h:w.getD i false with
 |false=>simp only[List.filter_cons,Int.toNat_natCast,h,Bool.not_false,if_true,List.filter_nil,Bool.false_eq_true,if_false]
 |true=>simp only[List.filter_cons,Int.toNat_natCast,h,Bool.not_true,Bool.false_eq_true,if_false,List.filter_nil,if_true]
theorem ZBa{w:List Bool}{i:Nat}{x:Int}(h:x∈unJ w i):0<=x/\x<(i:Int)/\w.getD x.toNat false=false:=by
 obtain⟨b,d⟩:=List.mem_filter.1 h;have:=ZiW.1 b;exact⟨this.1,this.2,by simpa using d⟩
theorem ZFC(w:List Bool)(i:Nat):(unJ w i).Nodup:=(Zmq i).sublist List.filter_sublist
theorem ZJK(w:List Bool)(n:Nat)(m:Int)(h0:0<=m)(b:m<(w.length:Int)):unJ (w.set m.toNat true) n=(unJ w n).filter fun x=>x != m:=by
 unfold unJ;rw[List.filter_filter];refine List.filter_congr fun x hx=>?_;obtain⟨x1,x2⟩:=ZiW.1 hx;simp only[List.getD_eq_getElem?_getD,List.getElem?_set];by_cases h:m=x
 .subst h;rw[if_pos rfl,if_pos (by omega)];simp
 .rw[if_neg (by omega)];have:(x != m)=true:=by rw[bne_iff_ne];omega
  rw[this,Bool.true_and]
theorem ZCv(l:List Zaa)(b:Int)(X:Ins)(p:Int->Bool):ZfU l b (X.filter p)=(ZfU l b X).filter p:=by
 unfold ZfU;rw[List.filter_filter,List.filter_filter];exact List.filter_congr fun y _=>Bool.and_comm _ _
section
variable {l:List Zaa} (hl:l.length<=800) (ho:okPs l) {s:Int} {q:Zax}
include hl ho
theorem ZIc(b:Int)(hb:1<=b/\b<=4)(v9:Int)(t:Int->List Bool->Zax->Option (List Bool))(h:Int->List Bool->Option (List Bool))(w:List Bool)(o:w.length=l.length):∀(k i fu:Nat),l.length-i=k->i<=l.length->k+1<=fu ->
  ZbA l s b q v9 t h fu (Ztb ⟨l,b,s⟩ (ZfU l b (unJ w i))) (i:Int) w=if ZfU l b (unJ w l.length)=[]then h (Zan v9 1) w else h (Zan v9 1) (w.set (Ztb ⟨l,b,s⟩ (ZfU l b (unJ w l.length))).toNat true):=by
 intro k;induction k with
 |zero=>
  intro i fu u hi v;obtain⟨fu,rfl⟩ : ∃x,fu=x+1:=⟨fu-1,by omega⟩;obtain rfl:i=l.length:=by omega
  unfold ZbA;rw[Zai,if_neg (by omega),Zai];by_cases g:ZfU l b (unJ w l.length)=[]
  .rw[if_pos g,g];rw[if_neg (by simp[Ztb])]
  .have j:=Zwm (K:=⟨l,b,s⟩) g;obtain⟨m1,m2,_⟩:=ZBa (List.mem_filter.1 j).1;rw[if_neg g,if_pos (by omega),Zar (by rw[o];omega)]
 |succ k ih=>
  intro i fu u hi v;obtain⟨fu,rfl⟩ : ∃x,fu=x+1:=⟨fu-1,by omega⟩;have y:Zan (i:Int) 1=((i+1:Nat):Int):=add1 (n:=i+1) (by omega) (by simp only[maxLen];omega);have bv:=ih (i+1) fu (by omega) (by omega) (by omega);rw[ZCL,ZDN]at bv;unfold ZbA;rw[Zai,if_pos (by omega),Zar (by rw[o];omega),y];simp only[Int.toNat_natCast];cases hwi:w.getD i false with
  |true=>
   rw[hwi,if_pos rfl]at bv;have:ZfU l b []=[]:=rfl;rw[this,List.append_nil]at bv;rw[Bool.not_true,cond_false];exact bv
  |false=>
   rw[hwi,if_neg (by decide)]at bv;rw[Bool.not_false,cond_true,Zar (by omega),ZEw,ZaJ];cases p:cntB b (l.getD i Zaa.d)with
   |false=>
    have:ZfU l b [(i:Int)]=[]:=by simp only[ZfU,gP,Int.toNat_natCast,List.filter_cons,p,Bool.false_eq_true,if_false,List.filter_nil]
    rw[this,List.append_nil]at bv;rw[cond_false];exact bv
   |true=>
    have:ZfU l b [(i:Int)]=[(i:Int)]:=by simp only[ZfU,gP,Int.toNat_natCast,List.filter_cons,p,if_true,List.filter_nil]
    rw[this,ZHD]at bv;rw[cond_true,Zai];by_cases g:ZfU l b (unJ w i)=[]
    .rw[if_pos g]at bv;rw[g,if_pos (by simp[Ztb])];exact bv
    .have j:=Zwm (K:=⟨l,b,s⟩) g;obtain⟨m1,m2,_⟩:=ZBa (List.mem_filter.1 j).1;rw[if_neg g]at bv;rw[if_neg (by omega),Zar (by omega),ZGb _ _ _ _ (by rw[ZbT l _ i (by omega)];exact ho _ (List.getElem_mem _)) (by rw[ZbT l _ _ (by omega)];exact ho _ (List.getElem_mem _)) hb,ZaJ];have e:decide (Zoi b s (l.getD i Zaa.d) (l.getD (Ztb ⟨l,b,s⟩ (ZfU l b (unJ w i))).toNat Zaa.d)<0)=ltJ ⟨l,b,s⟩ (i:Int) (Ztb ⟨l,b,s⟩ (ZfU l b (unJ w i))):=rfl;rw[e];cases hlt:ltJ ⟨l,b,s⟩ (i:Int) (Ztb ⟨l,b,s⟩ (ZfU l b (unJ w i)))with
     |true=>rw[hlt,if_pos rfl]at bv;rw[cond_true];exact bv
     |false=>rw[hlt,if_neg (by decide)]at bv;rw[cond_false];exact bv
theorem ZId(b n:Int)(hb:1<=b/\b<=4)(A:ZcX q b=some n)(d:Int->List Bool->Zax->Option (List Bool)):∀(r v9 fu:Nat)(w:List Bool),(if n<(l.length:Int)then n.toNat else l.length)-v9=r->v9<=l.length->r+1<=fu->w.length=l.length ->
  ∃w',w'.length=l.length/\unJ w' l.length=(unJ w l.length).filter (fun i=>!decide (i∈selN ⟨l,b,s⟩ r (ZfU l b (unJ w l.length))))/\ZbH l s b q d fu (v9:Int) w=d (Zan b 1) w' q:=by
 intro r;induction r with
 |zero=>
  intro v9 fu w o D E g;obtain⟨fu,rfl⟩ : ∃x,fu=x+1:=⟨fu-1,by omega⟩;refine⟨w,g,by simp only[selN];exact(List.filter_eq_self.2 fun x _=>by simp).symm,?_⟩;unfold ZbH;rw[A,ZaJ,Zai,Zai];by_cases B:(v9:Int)<n
  .rw[if_pos B];by_cases p:(v9:Int)<(l.length:Int)
   .exfalso;split at o<;>omega
   .rw[if_neg p]
  .rw[if_neg B]
 |succ r ih=>
  intro v9 fu w o D E g;obtain⟨fu,rfl⟩ : ∃x,fu=x+1:=⟨fu-1,by omega⟩;have p:v9<l.length/\(v9:Int)<n:=by split at o<;>omega
  have F:Zan (v9:Int) 1=((v9+1:Nat):Int):=add1 (n:=v9+1) (by omega) (by simp only[maxLen];omega);unfold ZbH;have hc2:=ZIc hl ho (s:=s) (q:=q) b hb (v9:Int) d (ZbH l s b q d fu) w g l.length 0 ((((l.length:Nat):Int)-(0:Int)).toNat+2) (by omega) (by omega) (by omega);have lW:ZbA l s b q (v9:Int) d (ZbH l s b q d fu) ((((l.length:Nat):Int)-(0:Int)).toNat+2) (-1) 0 w=_:=hc2;rw[A,ZaJ,Zai,if_pos p.2,Zai,if_pos (by omega),lW,F];by_cases j:ZfU l b (unJ w l.length)=[]
  .rw[if_pos j];obtain⟨w',t,u,v⟩:=ih (v9+1) fu w (by omega) (by omega) (by omega) g;refine⟨w',t,?_,v⟩;rw[u,j];cases r<;>rfl
  .have G:=Zwm (K:=⟨l,b,s⟩) j;obtain⟨m1,m2,_⟩:=ZBa (List.mem_filter.1 G).1;rw[if_neg j];obtain⟨w',t,u,v⟩:=ih (v9+1) fu (w.set (Ztb ⟨l,b,s⟩ (ZfU l b (unJ w l.length))).toNat true) (by omega) (by omega) (by omega) (by simpa using g);refine⟨w',t,?_,v⟩;rw[u,ZJK w _ _ m1 (by rw[g];exact m2)];cases hCC:ZfU l b (unJ w l.length)with
   |nil=>exact absurd hCC j
   |cons x X=>
    have bA:Ztb ⟨l,b,s⟩ (x :: X)=bstJ ⟨l,b,s⟩ x X:=rfl;rw[ZCv,hCC,bA,List.filter_filter,selN];refine List.filter_congr fun y _=>?_;by_cases z:y=bstJ ⟨l,b,s⟩ x X
    .rw[z];simp
    .have:(y != bstJ ⟨l,b,s⟩ x X)=true:=by rw[bne_iff_ne];exact z
     rw[this,Bool.and_true];congr 1;rw[decide_eq_decide,List.mem_cons];constructor
     .exact .inr
     .rintro (h|h)
      .exact absurd h z
      .exact h
theorem ZqR(b n:Int)(hb:1<=b/\b<=4)(g:ZcX q b=some n)(d:Int->List Bool->Zax->Option (List Bool))(w:List Bool)(o:w.length=l.length) :
  ∃w',w'.length=l.length/\unJ w' l.length=Znf l s b n (unJ w l.length)/\ZbH l s b q d ((((l.length:Nat):Int)-(0:Int)).toNat+2) 0 w=d (Zan b 1) w' q:=by
 obtain⟨w',p,t,u⟩:=ZId hl ho (s:=s) b n hb g d _ 0 ((((l.length:Nat):Int)-(0:Int)).toNat+2) w rfl (by omega) (by split<;>omega) o;refine⟨w',p,?_,u⟩;have hnd:(ZfU l b (unJ w l.length)).Nodup:=(ZFC w _).sublist List.filter_sublist;have hlen:(ZbY ⟨l,b,s⟩ (ZfU l b (unJ w l.length))).length<=l.length:=by
  rw[ZgQ];have v:=ZuC l b (unJ w l.length);have y:(unJ w l.length).length<=l.length:=by
   have:=List.length_filter_le (fun j:Int=>!(w.getD j.toNat false)) (upto l.length);rw[ZnF]at this;exact this
  omega
 rw[t,Zuk _ _ hnd];unfold Znf;have:(ZbY ⟨l,b,s⟩ (ZfU l b (unJ w l.length))).take ((if n<(l.length:Int)then n.toNat else l.length)-0)=(ZbY ⟨l,b,s⟩ (ZfU l b (unJ w l.length))).take n.toNat:=by
  by_cases h:n<(l.length:Int)
  .rw[if_pos h];rfl
  .rw[if_neg h,List.take_of_length_le (by omega),List.take_of_length_le (by omega)]
 rw[this]
theorem ZFY:∃w,Zfa l q s=some w/\w.length=l.length/\unJ w l.length=Zvu l q s:=by
 have b:ZcX q 1=some q.fGroup:=rfl;have d:ZcX q 2=some q.fPing:=rfl;have g:ZcX q 3=some q.fWork:=rfl;have h:ZcX q 4=some q.fTime:=rfl;have w0:(List.replicate ((l.length:Nat):Int).toNat false).length=l.length:=by simp
 have u0:unJ (List.replicate ((l.length:Nat):Int).toNat false) l.length=upto l.length:=by
  unfold unJ;refine List.filter_eq_self.2 fun x hx=>?_;obtain⟨x1,x2⟩:=ZiW.1 hx;have:x.toNat<l.length:=by omega
  simp[List.getD_eq_getElem?_getD,this]
 obtain⟨w1,j,b1,o⟩:=ZqR hl ho (s:=s) 1 _ (by omega) b (ZaU l s 4) _ w0;obtain⟨w2,p,b2,c2⟩:=ZqR hl ho (s:=s) 2 _ (by omega) d (ZaU l s 3) w1 j;obtain⟨w3,t,b3,u⟩:=ZqR hl ho (s:=s) 3 _ (by omega) g (ZaU l s 2) w2 p;obtain⟨w4,v,b4,y⟩:=ZqR hl ho (s:=s) 4 _ (by omega) h (ZaU l s 1) w3 t;refine⟨w4,?_,v,by rw[b4,b3,b2,b1,u0];rfl⟩;have d1:ZaU l s 5 1 (List.replicate ((l.length:Nat):Int).toNat false) q=ZaU l s 4 2 w1 q:=o;have d2:ZaU l s 4 2 w1 q=ZaU l s 3 3 w2 q:=c2;have d3:ZaU l s 3 3 w2 q=ZaU l s 2 4 w3 q:=u;have d4:ZaU l s 2 4 w3 q=ZaU l s 1 5 w4 q:=y;unfold Zfa;rw[Zar (by omega)];have f:(((4:Int)-(1:Int)).toNat+2)=5:=rfl;rw[f,d1,d2,d3,d4];rfl
end
def Zjx(l:List Zaa):List Zaa:=l.filter fun p=>p.fIn
def Zlh(l:List Zaa)(q:Zax)(s:Int):List Zaa:=(Zvu (Zjx l) q s).map (gP (Zjx l))
theorem ZAG(l:List Zaa)(i:Nat)(h:i<l.length):Zjx (l.take (i+1))=Zjx (l.take i)++if l[i].fIn=true then[l[i]]else[]:=by
 unfold Zjx;rw[List.take_succ_eq_append_getElem h,List.filter_append];congr 1;cases h:l[i].fIn<;>simp[h]
theorem Zwg(l:List Zaa):(Zjx l).length<=l.length:=List.length_filter_le ..
theorem ZEY(l:List Zaa)(hl:l.length<=100000):Zkj l=some (Zjx l):=by
 have aK:∀(k i fu:Nat),l.length-i=k->i<=l.length->k+1<=fu->ZeK fu l (l.length:Int) (i:Int) (Zjx (l.take i))=some (Zjx l):=by
  intro k;induction k with
  |zero=>
   intro i fu b hi g;obtain⟨fu,rfl⟩ : ∃x,fu=x+1:=⟨fu-1,by omega⟩;unfold ZeK;rw[Zai,if_neg (by omega),List.take_of_length_le (by omega)]
  |succ k ih=>
   intro i fu b hi g;obtain⟨fu,rfl⟩ : ∃x,fu=x+1:=⟨fu-1,by omega⟩;unfold ZeK;have bt:i<l.length:=by omega
   have h:Zan (i:Int) 1=((i+1:Nat):Int):=add1 (n:=i+1) (by omega) (by simp only[maxLen];omega);have j:=Zwg (l.take i);simp only[List.length_take]at j;have bv:=ih (i+1) fu (by omega) (by omega) (by omega);rw[ZAG l i bt]at bv;have o:l.getD ((i:Int)).toNat Zaa.d=l[i]:=ZbT l _ i bt;rw[Zai,if_pos (by omega),Zar (by omega),o,h];cases hin:l[i].fIn with
   |true=>
    rw[hin,if_pos rfl]at bv;rw[cond_true,Zar (by simp only[List.length_append,List.length_singleton,maxLen];omega)];exact bv
   |false=>
    rw[hin,if_neg (by decide),List.append_nil]at bv;rw[cond_false];exact bv
 unfold Zkj;exact aK l.length 0 _ (by omega) (by omega) (by omega)
theorem ZIq(l:List Zaa)(hl:l.length<=100000):Zfx l=some (Zjx l):=by
 have aK:∀(k i fu:Nat),l.length-i=k->i<=l.length->k+1<=fu->Zcz l fu (i:Int) (Zjx (l.take i))=some (Zjx l):=by
  intro k;induction k with
  |zero=>
   intro i fu b hi g;obtain⟨fu,rfl⟩ : ∃x,fu=x+1:=⟨fu-1,by omega⟩;unfold Zcz;rw[Zai,if_neg (by omega),List.take_of_length_le (by omega)]
  |succ k ih=>
   intro i fu b hi g;obtain⟨fu,rfl⟩ : ∃x,fu=x+1:=⟨fu-1,by omega⟩;unfold Zcz;have bt:i<l.length:=by omega
   have h:Zan (i:Int) 1=((i+1:Nat):Int):=add1 (n:=i+1) (by omega) (by simp only[maxLen];omega);have j:=Zwg (l.take i);simp only[List.length_take]at j;have bv:=ih (i+1) fu (by omega) (by omega) (by omega);rw[ZAG l i bt]at bv;have o:l.getD ((i:Int)).toNat Zaa.d=l[i]:=ZbT l _ i bt;rw[Zai,if_pos (by omega),Zar (by omega),o,h];cases hin:l[i].fIn with
   |true=>
    rw[hin,if_pos rfl]at bv;rw[cond_true,Zar (by simp only[List.length_append,List.length_singleton,maxLen];omega)];exact bv
   |false=>
    rw[hin,if_neg (by decide),List.append_nil]at bv;rw[cond_false];exact bv
 unfold Zfx;exact aK l.length 0 _ (by omega) (by omega) (by omega)
theorem ZGx(l:List Zaa)(q:Zax)(s:Int):inL l (Zvu l q s):=Zjo (Zjo (Zjo (Zjo fun i hi=>ZiW.1 hi)))
theorem ZDt(l:List Zaa)(q:Zax)(s:Int):(Zvu l q s).length<=l.length:=by
 have b:=ZoY l s 1 q.fGroup (upto l.length);have d:=ZoY l s 2 q.fPing (Znf l s 1 q.fGroup (upto l.length));have g:=ZoY l s 3 q.fWork (Znf l s 2 q.fPing (Znf l s 1 q.fGroup (upto l.length)));have h:=ZoY l s 4 q.fTime (Znf l s 3 q.fWork (Znf l s 2 q.fPing (Znf l s 1 q.fGroup (upto l.length))));rw[ZnF]at b;unfold Zvu;omega
theorem ZzP{l:List Zaa}(h:okPs l):okPs (Zjx l):=fun p hp=>h p (List.mem_filter.1 hp).1
theorem ZrU(l:List Zaa)(q:Zax)(s:Int)(hl:l.length<=800)(ho:okPs l):ZfQ l q s=some (Zlh l q s):=by
 have p:=Zwg l;have hi:=ZGx (Zjx l) q s;have hle:=ZDt (Zjx l) q s;unfold ZfQ Zlh;rw[ZEY l (by omega),ZaJ,ZBk _ q s (by omega) (ZzP ho),ZaJ];obtain⟨A,b⟩ : ∃A,A=Zvu (Zjx l) q s:=⟨_,rfl⟩;rw[<-b]at hi hle ⊢;have aK:∀(k i fu:Nat),A.length-i=k->i<=A.length->k+1<=fu->Zdc fu (Zjx l) A (A.length:Int) (i:Int) ((A.take i).map (gP (Zjx l)))=some (A.map (gP (Zjx l))):=by
  intro k;induction k with
  |zero=>
   intro i fu d hi g;obtain⟨fu,rfl⟩ : ∃x,fu=x+1:=⟨fu-1,by omega⟩;unfold Zdc;rw[Zai,if_neg (by omega),List.take_of_length_le (by omega)]
  |succ k ih=>
   intro i fu d cH g;obtain⟨fu,rfl⟩ : ∃x,fu=x+1:=⟨fu-1,by omega⟩;unfold Zdc;have bt:i<A.length:=by omega
   have h:Zan (i:Int) 1=((i+1:Nat):Int):=add1 (n:=i+1) (by omega) (by simp only[maxLen];omega);have j:=hi _ (List.getElem_mem bt);have o:A.getD ((i:Int)).toNat 0=A[i]:=ZbT A 0 i bt;have hlt:((A.take i).map (gP (Zjx l))).length=i:=by simp;omega
   rw[Zai,if_pos (by omega),Zar (by omega),o,Zar j,Zar (by simp only[List.length_append,hlt,List.length_singleton,maxLen];omega),h];have:=ih (i+1) fu (by omega) (by omega) (by omega);rw[List.take_succ_eq_append_getElem bt,List.map_append,List.map_singleton]at this;exact this
 exact aK A.length 0 _ (by omega) (by omega) (by omega)
theorem ZGa(l:List Zaa)(q:Zax)(s:Int)(hl:l.length<=800)(ho:okPs l):Zdq l q s=some (Zlh l q s):=by
 have u:=Zwg l;unfold Zdq Zlh;obtain⟨w,d,g,h⟩:=ZFY (l:=Zjx l) (q:=q) (s:=s) (by omega) (ZzP ho);rw[ZIq l (by omega),ZaJ,d,ZaJ,<-h];have aK:∀(k i fu:Nat),(Zjx l).length-i=k->i<=(Zjx l).length->k+1<=fu->ZbM fu (Zjx l) w (i:Int) ((unJ w i).map (gP (Zjx l)))=some ((unJ w (Zjx l).length).map (gP (Zjx l))):=by
  intro k;induction k with
  |zero=>
   intro i fu o hi p;obtain⟨fu,rfl⟩ : ∃x,fu=x+1:=⟨fu-1,by omega⟩;obtain rfl:i=(Zjx l).length:=by omega
   unfold ZbM;rw[Zai,if_neg (by omega)]
  |succ k ih=>
   intro i fu o hi p;obtain⟨fu,rfl⟩ : ∃x,fu=x+1:=⟨fu-1,by omega⟩;unfold ZbM;have t:Zan (i:Int) 1=((i+1:Nat):Int):=add1 (n:=i+1) (by omega) (by simp only[maxLen];omega);have v:(unJ w i).length<=i:=by
    have:=List.length_filter_le (fun j:Int=>!(w.getD j.toNat false)) (upto i);rw[ZnF]at this;exact this
   have bv:=ih (i+1) fu (by omega) (by omega) (by omega);rw[ZCL,List.map_append]at bv;rw[Zai,if_pos (by omega),Zar (by rw[g];omega),t];simp only[Int.toNat_natCast];cases b:w.getD i false with
   |true=>
    rw[b,if_pos rfl,List.map_nil,List.append_nil]at bv;rw[Bool.not_true,cond_false];exact bv
   |false=>
    rw[b,if_neg (by decide)]at bv;rw[Bool.not_false,cond_true,Zar (by omega),Zar (by simp only[List.length_append,List.length_map,List.length_singleton,maxLen];omega)];exact bv
 exact aK (Zjx l).length 0 _ (by omega) (by omega) (by omega)
def grpP(p:Zaa):Zap:=grp p.fEnd.fAddr
def ZeR(l:List Zaa)(g:Zap):Nat:=(l.filter fun p=>decide (grpP p=g)).length
theorem ZzS{κ ν:Type}[DecidableEq κ](k g:κ)(v z:ν):∀l:List (κ×ν),mget (mput l k v) g z=if k=g then v else mget l g z
 | []=>by
  simp only[mput,mget]
 |p :: r=>by
  simp only[mput]
  by_cases h:p.1=k
  .rw[if_pos h]
   simp only[mget]
   by_cases b:k=g
   .simp[b]
   .rw[if_neg b,if_neg b,if_neg (by rw[h];exact b)]
  .rw[if_neg h]
   simp only[mget]
   rw[ZzS k g v z r]
   by_cases b:p.1=g
   .rw[if_pos b,if_pos b,if_neg (by rintro rfl;exact h b)]
   .rw[if_neg b,if_neg b]
theorem ZxB(l:List Zaa)(i:Nat)(h:i<l.length)(g:Zap):ZeR (l.take (i+1)) g=ZeR (l.take i) g+if grpP l[i]=g then 1 else 0:=by
 unfold ZeR;rw[List.take_succ_eq_append_getElem h,List.filter_append,List.length_append];congr 1;by_cases h:grpP l[i]=g<;>simp[h]
theorem ZDL(l:List Zaa)(g:Zap):ZeR l g<=l.length:=List.length_filter_le ..
theorem Zyk{l:List Zaa}(h:okPs l){i:Nat}(hi:i<l.length):(l.getD i Zaa.d).fEnd.fAddr.ok:=by rw[ZbT l _ i hi];exact h _ (List.getElem_mem hi)
theorem ZCr(l:List Zaa)(hl:l.length<=800)(ho:okPs l):∃m,ZkQ l=some m/\∀g,mget m g 0=(ZeR l g:Int):=by
 have aK:∀(k i fu:Nat)(m:List (Zap×Int)),l.length-i=k->i<=l.length->k+1<=fu->(∀g,mget m g 0=(ZeR (l.take i) g:Int))->∃m',Zfe fu l (l.length:Int) (i:Int) m=some m'/\∀g,mget m' g 0=(ZeR l g:Int):=by
  intro k;induction k with
  |zero=>
   intro i fu m j hi o b;obtain⟨fu,rfl⟩ : ∃x,fu=x+1:=⟨fu-1,by omega⟩;unfold Zfe;rw[List.take_of_length_le (by omega)]at b;exact⟨m,by rw[Zai,if_neg (by omega)],b⟩
  |succ k ih=>
   intro i fu m j hi o b;obtain⟨fu,rfl⟩ : ∃x,fu=x+1:=⟨fu-1,by omega⟩;unfold Zfe;have bt:i<l.length:=by omega
   have p:Zan (i:Int) 1=((i+1:Nat):Int):=add1 (n:=i+1) (by omega) (by simp only[maxLen];omega);have t:l.getD ((i:Int)).toNat Zaa.d=l[i]:=ZbT l _ i bt;have u:=ZDL (l.take i) (grpP l[i]);simp only[List.length_take]at u;rw[Zai,if_pos (by omega),Zar (by omega),t,Zuw _ (ho _ (List.getElem_mem bt)),ZaJ,p];refine ih (i+1) fu _ (by omega) (by omega) (by omega) fun g=>?_;rw[ZzS,ZxB l i bt,b g];have b5:grp l[i].fEnd.fAddr=grpP l[i]:=rfl;rw[b5,b (grpP l[i])];by_cases h:grpP l[i]=g
   .subst h;rw[if_pos rfl,if_pos rfl,Zcs (by omega) (by omega)];omega
   .rw[if_neg h,if_neg h];omega
 unfold ZkQ;exact aK l.length 0 _ [] (by omega) (by omega) (by omega) (fun g=>by simp[mget,ZeR])
def gtX(l:List Zaa)(i j:Nat):Int:=orI (cmpI (ZeR l (grpP (l.getD i Zaa.d)):Int) (ZeR l (grpP (l.getD j Zaa.d)):Int)) (orI (cmpI (l.getD i Zaa.d).fSince (l.getD j Zaa.d).fSince) (cmpE (l.getD i Zaa.d).fEnd (l.getD j Zaa.d).fEnd))
theorem Ztp{l:List Zaa}{i j:Nat}:0<gtX l i j↔ZeR l (grpP (l.getD j Zaa.d))<ZeR l (grpP (l.getD i Zaa.d))\/(ZeR l (grpP (l.getD i Zaa.d))=ZeR l (grpP (l.getD j Zaa.d)) /\
  ((l.getD j Zaa.d).fSince<(l.getD i Zaa.d).fSince\/((l.getD i Zaa.d).fSince=(l.getD j Zaa.d).fSince/\0<cmpE (l.getD i Zaa.d).fEnd (l.getD j Zaa.d).fEnd))):=by
 unfold gtX;rw[ZDd,ZDd,ZyQ,ZmZ,ZyQ,ZmZ];omega
theorem ZGH{l:List Zaa}{i b k:Nat}(g:0<gtX l i b)(j:¬0<gtX l k b):0<gtX l i k:=by
 rw[Ztp]at *
 obtain⟨I,o⟩ : ∃x,x=l.getD i Zaa.d:=⟨_,rfl⟩;obtain⟨B,p⟩ : ∃x,x=l.getD b Zaa.d:=⟨_,rfl⟩;obtain⟨K,t⟩ : ∃x,x=l.getD k Zaa.d:=⟨_,rfl⟩;rw[<-o,<-p]at g;rw[<-t,<-p]at j;rw[<-o,<-t];by_cases u:ZeR l (grpP K)<ZeR l (grpP I)
 .exact .inl u
 .have v:ZeR l (grpP I)=ZeR l (grpP K)/\ZeR l (grpP B)=ZeR l (grpP K):=by
   rcases g with g|⟨g,_⟩
   .exact absurd (Or.inl (by omega)) j
   .by_cases y:ZeR l (grpP B)<ZeR l (grpP K)
    .exact absurd (Or.inl y) j
    .omega
  refine .inr ⟨v.1,?_⟩;have h1':B.fSince<I.fSince\/(I.fSince=B.fSince/\0<cmpE I.fEnd B.fEnd):=by
   rcases g with g|⟨_,g⟩
   .omega
   .exact g
  have gc:¬(B.fSince<K.fSince\/(K.fSince=B.fSince/\0<cmpE K.fEnd B.fEnd)):=fun h=>j (.inr ⟨by omega,h⟩);by_cases s1:K.fSince<I.fSince
  .exact .inl s1
  .have s2:I.fSince=K.fSince/\I.fSince=B.fSince:=by
    rcases h1' with h|⟨h,_⟩
    .exact absurd (Or.inl (by omega)) gc
    .by_cases s3:B.fSince<K.fSince
     .exact absurd (Or.inl s3) gc
     .omega
   refine .inr ⟨s2.1,?_⟩;have c2:0<cmpE I.fEnd B.fEnd:=by
    rcases h1' with h|⟨_,h⟩
    .omega
    .exact h
   have A:¬0<cmpE K.fEnd B.fEnd:=fun h=>gc (.inr ⟨by omega,h⟩);have c2':=ZiT.1 c2;rw[ZiT];by_cases z:cmpE K.fEnd B.fEnd=0
   .rw[ZhM.1 z];exact c2'
   .exact ZoS (show cmpE K.fEnd B.fEnd<0 by omega) c2'
theorem ZIN{l:List Zaa}{i k:Nat}(b:0<gtX l i k):¬0<gtX l k i:=by
 intro d;rw[Ztp]at b d;rcases b with h|⟨j,h|⟨o,h⟩⟩<;>rcases d with g|⟨p,g|⟨t,g⟩⟩<;>first|omega|skip
 have:=ZiT.1 h;omega
theorem ZCq(p q:Zaa):ZkP p q=some (orI (cmpI p.fSince q.fSince) (cmpE p.fEnd q.fEnd)):=by
 unfold ZkP;simp only[Zwc,ZDG,or2,ZaJ]
structure TopX (l:List Zaa) (n b:Nat):Prop where
 lt:b<n
 top:∀k,k<n->¬0<gtX l k b
 fst:∀k,k<b->0<gtX l b k
theorem Zra(l:List Zaa)(hl:l.length<=800)(ho:okPs l):∃b:Int,Zkk l=some b/\((l=[]/\b = -1)\/∃n:Nat,b=(n:Int)/\TopX l l.length n):=by
 obtain⟨m,p,o⟩:=ZCr l hl ho;have aK:∀(k i fu:Nat)(b:Int),l.length-i=k->i<=l.length->k+1<=fu->((i=0/\b = -1)\/∃n:Nat,b=(n:Int)/\TopX l i n)->∃z:Int,Zep l fu b l (l.length:Int) (i:Int) m=some z/\((l.length=0/\z = -1)\/∃n:Nat,z=(n:Int)/\TopX l l.length n):=by
  intro k;induction k with
  |zero=>
   intro i fu b g hi t hb;obtain⟨fu,rfl⟩ : ∃x,fu=x+1:=⟨fu-1,by omega⟩;obtain rfl:i=l.length:=by omega
   unfold Zep;exact⟨b,by rw[Zai,if_neg (by omega)],hb⟩
  |succ k ih=>
   intro i fu b g hi t hb;obtain⟨fu,rfl⟩ : ∃x,fu=x+1:=⟨fu-1,by omega⟩;have bt:i<l.length:=by omega
   have u:Zan (i:Int) 1=((i+1:Nat):Int):=add1 (n:=i+1) (by omega) (by simp only[maxLen];omega);unfold Zep;rw[Zai,if_pos (by omega),Zar (by omega),Zai,u];rcases hb with⟨h0,rfl⟩|⟨n,rfl,j⟩
   .subst h0;rw[if_pos (by omega)];refine ih 1 fu _ (by omega) (by omega) (by omega) (.inr ⟨0,rfl,by omega,fun k g=>?_,fun k g=>by omega⟩);obtain rfl:k=0:=by omega
    rw[Ztp];rintro (h|⟨_,h|⟨_,h⟩⟩)
    .omega
    .omega
    .rw[ZhM.2 rfl]at h;omega
   .have v:=j.lt;rw[if_neg (by omega),Zuw _ (Zyk ho (by omega)),ZaJ,Zar (by omega),Zuw _ (Zyk ho (by omega)),ZaJ,Zwc,ZaJ,ZCq,ZaJ,or2,ZaJ];have e:orI (cmpI (mget m (grp (l.getD ((i:Int)).toNat Zaa.d).fEnd.fAddr) 0) (mget m (grp (l.getD ((n:Int)).toNat Zaa.d).fEnd.fAddr) 0)) (orI (cmpI (l.getD ((i:Int)).toNat Zaa.d).fSince (l.getD ((n:Int)).toNat Zaa.d).fSince) (cmpE (l.getD ((i:Int)).toNat Zaa.d).fEnd (l.getD ((n:Int)).toNat Zaa.d).fEnd))=gtX l i n:=by
     rw[o,o];rfl
    rw[e,Zai];by_cases h:gtX l i n>0
    .rw[if_pos h];refine ih (i+1) fu _ (by omega) (by omega) (by omega) (.inr ⟨i,rfl,by omega,fun k g=>?_,fun k g=>ZGH h (j.top k g)⟩);by_cases hki:k=i
     .subst hki;rw[Ztp];rintro (h|⟨_,h|⟨_,h⟩⟩)
      .omega
      .omega
      .rw[ZhM.2 rfl]at h;omega
     .exact ZIN (ZGH h (j.top k (by omega)))
    .rw[if_neg h];refine ih (i+1) fu _ (by omega) (by omega) (by omega) (.inr ⟨n,rfl,by omega,fun k g=>?_,j.fst⟩);by_cases hki:k=i
     .subst hki;exact h
     .exact j.top k (by omega)
 unfold Zkk;obtain⟨b',h1',gc⟩:=aK l.length 0 ((((l.length:Nat):Int)-(0:Int)).toNat+2) (-1) (by omega) (by omega) (by omega) (.inl ⟨rfl,rfl⟩);refine⟨b',by rw[p,ZaJ];exact h1',?_⟩;rcases gc with⟨h,rfl⟩|h
 .exact .inl ⟨List.eq_nil_of_length_eq_zero h,rfl⟩
 .exact .inr h
theorem ZzA(l:List Zaa)(hl:l.length<=800)(ho:okPs l)(i:Nat)(hi:i<l.length):ZeZ l (i:Int)=some (ZeR l (grpP (l.getD i Zaa.d)):Int):=by
 have aK:∀(k j fu:Nat),l.length-j=k->j<=l.length->k+1<=fu->Zcq l (i:Int) fu (ZeR (l.take j) (grpP (l.getD i Zaa.d)):Int) (j:Int)=some (ZeR l (grpP (l.getD i Zaa.d)):Int):=by
  intro k;induction k with
  |zero=>
   intro j fu b g o;obtain⟨fu,rfl⟩ : ∃x,fu=x+1:=⟨fu-1,by omega⟩;unfold Zcq;rw[Zai,if_neg (by omega),List.take_of_length_le (by omega)]
  |succ k ih=>
   intro j fu b g o;obtain⟨fu,rfl⟩ : ∃x,fu=x+1:=⟨fu-1,by omega⟩;have hj2:j<l.length:=by omega
   have p:Zan (j:Int) 1=((j+1:Nat):Int):=add1 (n:=j+1) (by omega) (by simp only[maxLen];omega);have t:=ZDL (l.take j) (grpP (l.getD i Zaa.d));simp only[List.length_take]at t;have u:l.getD ((j:Int)).toNat Zaa.d=l[j]:=ZbT l _ j hj2;have bv:=ih (j+1) fu (by omega) (by omega) (by omega);rw[ZxB l j hj2]at bv;unfold Zcq;rw[Zai,if_pos (by omega),Zar (by omega),u,ZCV _ (ho _ (List.getElem_mem hj2)),ZaJ,Zar (by omega),ZCV _ (Zyk ho (by omega)),ZaJ,Zai,p];have v:grp l[j].fEnd.fAddr=grpP l[j]:=rfl;have y:grp (l.getD ((i:Int)).toNat Zaa.d).fEnd.fAddr=grpP (l.getD i Zaa.d):=rfl;rw[v,y];by_cases h:grpP l[j]=grpP (l.getD i Zaa.d)
   .rw[if_pos h]at bv ⊢;have z:Zan (ZeR (l.take j) (grpP (l.getD i Zaa.d)):Int) 1=((ZeR (l.take j) (grpP (l.getD i Zaa.d))+1:Nat):Int):=by rw[Zcs (by omega) (by omega)];omega
    rw[z];exact bv
   .rw[if_neg h]at bv ⊢;exact bv
 unfold ZeZ;rw[Zai,if_neg (by omega),Zai,if_neg (by omega)];exact aK l.length 0 _ (by omega) (by omega) (by omega)
theorem ZBm(p q:Zaa):Zfm p q=some (decide (p.fSince>q.fSince\/(p.fSince=q.fSince/\0<cmpE p.fEnd q.fEnd))):=by
 unfold Zfm;rw[Zsj,ZaJ];by_cases h:p.fSince=q.fSince
 .have e:(p.fSince != q.fSince)=false:=by rw[h];simp
  rw[e,cond_false];congr 1;rw[decide_eq_decide];omega
 .have e:(p.fSince != q.fSince)=true:=by rw[bne_iff_ne];exact h
  rw[e,cond_true];congr 1;rw[decide_eq_decide];omega
theorem ZuR(l:List Zaa)(hl:l.length<=800)(ho:okPs l)(i:Nat)(hi:i<l.length)(g:Int->Option Int):∀(k j fu:Nat),l.length-j=k->j<=l.length->k+1<=fu->∀v:Bool,(v=true↔∀x,x<j->¬0<gtX l x i) ->
  ((∀x,x<l.length->¬0<gtX l x i)->Zbm l (i:Int) g fu v (j:Int)=some (i:Int))/\((∃x,x<l.length/\0<gtX l x i)->Zbm l (i:Int) g fu v (j:Int)=g (Zan (i:Int) 1)):=by
 intro k;induction k with
 |zero=>
  intro j fu t u y v o;obtain⟨fu,rfl⟩ : ∃x,fu=x+1:=⟨fu-1,by omega⟩;obtain rfl:j=l.length:=by omega
  unfold Zbm;rw[Zai,if_neg (by omega)];refine⟨fun h=>by rw[o.2 h];rfl,fun⟨x,z,A⟩=>?_⟩;cases v with
  |false=>rfl
  |true=>exact absurd A (o.1 rfl x z)
 |succ k ih=>
  intro j fu t u y v o;obtain⟨fu,rfl⟩ : ∃x,fu=x+1:=⟨fu-1,by omega⟩;have B:Zan (j:Int) 1=((j+1:Nat):Int):=add1 (n:=j+1) (by omega) (by simp only[maxLen];omega);have hb:∀b:Bool,(b=true↔∀x,x<j+1->¬0<gtX l x i)->Zbm l (i:Int) g (fu+1) v (j:Int)=Zbm l (i:Int) g fu b ((j+1:Nat):Int):=by
   intro b hb
   conv=>lhs;unfold Zbm
   rw[Zai,if_pos (by omega),ZzA l hl ho j (by omega),ZaJ,ZzA l hl ho i hi,ZaJ,B];cases v with
   |false=>
    rw[cond_false];have:b=false:=by
     cases b with
     |false=>rfl
     |true=>
      have:=o.2 fun x hx=>hb.1 rfl x (by omega);cases this
    rw[this]
   |true=>
    have cY:=o.1 rfl;rw[cond_true,Zai,Zai];have hgt:=Ztp (l:=l) (i:=j) (j:=i);by_cases p:(ZeR l (grpP (l.getD j Zaa.d)):Int)<=(ZeR l (grpP (l.getD i Zaa.d)):Int)
    .rw[if_pos p];by_cases c2:(ZeR l (grpP (l.getD j Zaa.d)):Int)<(ZeR l (grpP (l.getD i Zaa.d)):Int)
     .rw[if_pos c2];have:b=true:=hb.2 fun x hx=>by
       by_cases hxj:x=j
       .subst hxj;rw[hgt];omega
       .exact cY x (by omega)
      rw[this]
     .rw[if_neg c2,Zar (by omega),Zar (by omega),ZBm,ZaJ];simp only[Int.toNat_natCast];congr 1;rw[Bool.eq_iff_iff,hb,Bool.not_eq_true',decide_eq_false_iff_not];constructor
      .intro h x hx;by_cases hxj:x=j
       .subst hxj;rw[hgt];omega
       .exact cY x (by omega)
      .intro h;have:=h j (by omega);rw[hgt]at this;omega
    .rw[if_neg p];have:b=false:=by
      cases b with
      |false=>rfl
      |true=>
       have:=hb.1 rfl j (by omega);rw[hgt]at this;omega
     rw[this]
  by_cases hd:∀x,x<j+1->¬0<gtX l x i
  .rw[hb true (by simp only[true_iff];exact hd)];exact ih (j+1) fu (by omega) (by omega) (by omega) true (by simp only[true_iff];exact hd)
  .rw[hb false (by simp only[Bool.false_eq_true,false_iff];exact hd)];exact ih (j+1) fu (by omega) (by omega) (by omega) false (by simp only[Bool.false_eq_true,false_iff];exact hd)
theorem ZIm(l:List Zaa)(hl:l.length<=800)(ho:okPs l):ZgE l=Zkk l:=by
 obtain⟨b,hb,g⟩:=Zra l hl ho;rw[hb];rcases g with⟨rfl,rfl⟩|⟨n,rfl,d⟩
 .rfl
 .have h:=d.lt;have aK:∀(k i fu:Nat),n-i=k->i<=n->k+1<=fu->ZbW l fu (i:Int)=some (n:Int):=by
   intro k;induction k with
   |zero=>
    intro i fu j hi o;obtain⟨fu,rfl⟩ : ∃x,fu=x+1:=⟨fu-1,by omega⟩;obtain rfl:i=n:=by omega
    unfold ZbW;rw[Zai,if_pos (by omega)];exact(ZuR l hl ho i (by omega) _ l.length 0 ((((l.length:Nat):Int)-(0:Int)).toNat+2) (by omega) (by omega) (by omega) true (by simp)).1 d.top
   |succ k ih=>
    intro i fu j hi o;obtain⟨fu,rfl⟩ : ∃x,fu=x+1:=⟨fu-1,by omega⟩;have p:Zan (i:Int) 1=((i+1:Nat):Int):=add1 (n:=i+1) (by omega) (by simp only[maxLen];omega);unfold ZbW;rw[Zai,if_pos (by omega)];have:=(ZuR l hl ho i (by omega) (ZbW l fu) l.length 0 ((((l.length:Nat):Int)-(0:Int)).toNat+2) (by omega) (by omega) (by omega) true (by simp)).2 ⟨n,h,d.fst i (by omega)⟩;have fT:Zbm l (i:Int) (ZbW l fu) ((((l.length:Nat):Int)-(0:Int)).toNat+2) true 0=_:=this;rw[fT,p];exact ih (i+1) fu (by omega) (by omega) (by omega)
  unfold ZgE;exact aK n 0 _ (by omega) (by omega) (by omega)
theorem Zwf(l:List Zaa)(q:Zax)(s:Int):(Zlh l q s).length<=l.length:=by
 have b:=ZDt (Zjx l) q s;have d:=Zwg l;unfold Zlh;rw[List.length_map];omega
theorem Zwe(l:List Zaa)(q:Zax)(s:Int):∀p∈Zlh l q s,p∈l/\p.fIn=true:=fun p hp=>by
 obtain⟨i,hi,rfl⟩:=List.mem_map.1 hp
 have:=ZGx (Zjx l) q s i hi
 unfold gP
 rw[ZbT _ _ i.toNat (by omega)]
 have b:=List.mem_filter.1 (List.getElem_mem (l:=Zjx l) (n:=i.toNat) (by omega))
 exact b
theorem ZtO(l:List Zaa)(q:Zax)(s:Int)(hl:l.length<=800)(ho:okPs l) :
  ∃r:Zal×Bool,ZeC l q s=some r/\ZdI l q s=some r/\(r.2=true->∃p∈l,p.fEnd=r.1/\p.fIn=true):=by
 have o:=Zwf l q s;have d:=Zwe l q s;have hoc:okPs (Zlh l q s):=fun p hp=>ho p (d p hp).1;obtain⟨b,hb,fv⟩:=Zra (Zlh l q s) (by omega) hoc;have bA:=ZIm (Zlh l q s) (by omega) hoc;unfold ZeC ZdI;rw[ZrU l q s hl ho,ZGa l q s hl ho,ZaJ,ZaJ,bA,hb,ZaJ,Zai];rcases fv with⟨t,rfl⟩|⟨n,rfl,j⟩
 .rw[if_pos (by omega)];exact⟨_,rfl,rfl,fun h=>by cases h⟩
 .have g:=j.lt;rw[if_neg (by omega),Zar (by omega)];refine⟨_,rfl,rfl,fun _=>⟨_,(d _ ?_).1,rfl,(d _ ?_).2⟩⟩
  all_goals
   simp only[Int.toNat_natCast];rw[ZbT _ _ n g];exact List.getElem_mem g
end Go.Proofs.YtmnloegcpaahcaaGreat
