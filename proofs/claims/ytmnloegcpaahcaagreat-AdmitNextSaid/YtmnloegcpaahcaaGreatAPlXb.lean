import Derived.Test.YtmnloegcpaahcaaGreatAAdnA3
import Derived.Test.YtmnloegcpaahcaaGreatAPlA
import Derived.Test.YtmnloegcpaahcaaGreatAPlG
namespace Go.Proofs.YtmnloegcpaahcaaGreat
set_option linter.unusedVariables false
set_option linter.unusedSimpArgs false
def ZtE:Zaa:=⟨⟨⟨false,0,0⟩,0⟩,false,0,⟨0,0⟩,0,0⟩
def valZ:Zac:=⟨0,ZtE,[],[]⟩
def locZ:Zan:=⟨0,0,0⟩
def opZ:Zas:=⟨0,0,locZ,0,0,valZ,false⟩
def endZ:Zah:=⟨⟨false,0,0⟩,0⟩
def repZ:Zao:=⟨0,endZ,0,0,[]⟩
def locN(l:Zan):Zan:=if l.fKind=1\/l.fKind=2\/l.fKind=3\/l.fKind=4 then⟨l.fKind,0,0⟩else if l.fKind=5 then⟨l.fKind,l.fShard,0⟩else if l.fKind=6 then l else locZ
def valN(k:Int)(v:Zac):Zac:=if k=1\/k=2\/k=5 then⟨v.fN,ZtE,[],[]⟩else if k=3 then⟨0,ZtE,v.fBans,[]⟩else if k=4 then⟨0,ZtE,[],v.fBook⟩else if k=6 then⟨0,v.fPeer,[],[]⟩else valZ
def opN(o:Zas):Zas:=if o.fKind=1\/o.fKind=2\/o.fKind=3\/o.fKind=4 then⟨o.fKind,o.fLock,locZ,0,0,valZ,o.fMark⟩else if o.fKind=5 then⟨o.fKind,0,locN o.fLoc,0,0,valZ,o.fMark⟩else if o.fKind=6 then⟨o.fKind,0,locN o.fLoc,0,0,valN o.fLoc.fKind o.fVal,o.fMark⟩else if o.fKind=7 then⟨o.fKind,0,locN o.fLoc,o.fOld,o.fNew,valZ,o.fMark⟩else if o.fKind=8 then⟨o.fKind,0,locZ,0,0,valZ,o.fMark⟩else opZ
theorem ZjF(a b:Int){α:Type}(x y:α):(bif a==b then x else y)=if a=b then x else y:=by
 by_cases h:a=b
 .subst h;simp
 .rw[if_neg h,beq_false_of_ne h];rfl
theorem ZCj(l:Zan):ZkM l=some (locN l):=by
 obtain⟨k,s,t⟩:=l;unfold ZkM ZhA locN;simp only[ZjF]
 repeat' split
 all_goals first|rfl | (simp_all [locZ];done) | (exfalso;omega)
theorem ZBU(k:Int)(v:Zac):ZnC k v=some (valN k v):=by
 unfold ZnC ZiL valN;simp only[ZjF]
 repeat' split
 all_goals first|rfl | (simp_all [valZ,ZtE];done) | (exfalso;omega)
theorem ZCL(o:Zas):ZnD o=some (opN o):=by
 unfold ZnD ZhB opN;simp only[ZjF,ZCj,ZBU,Option.bind_some]
 repeat' split
 all_goals first|rfl | (simp_all [opZ,locZ,valZ,ZtE];done) | (exfalso;omega)
theorem ZzA(l:Zan):ZgG l=some (locN l):=by
 obtain⟨k,s,t⟩:=l;unfold ZgG Zfs locN;simp only[Zai]
 repeat' split
 all_goals first|rfl | (simp_all [locZ];done) | (exfalso;omega) | (simp only[Option.some.injEq,Zan.mk.injEq,locZ];omega)
theorem Zwp(k:Int)(v:Zac):ZfG k v=some (valN k v):=by
 unfold ZfG Zdc ZeF ZeE valN;simp only[ZjF]
 repeat' split
 all_goals first|rfl | (simp_all [valZ,ZtE];done) | (exfalso;omega)
theorem Zwr(o:Zas):ZfH o=some (opN o):=by
 unfold ZfH ZeH ZdI ZeG opN;simp only[Zai,ZjF,ZzA,Zwp,Option.bind_some]
 repeat' split
 all_goals first|rfl | (exfalso;omega)
def okV(v:Zac):Prop:=v.fBans.length<=1000000/\v.fBook.length<=1000000
theorem ZwB:okV valZ:=⟨by simp[valZ],by simp[valZ]⟩
theorem okV_N{k:Int}{v:Zac}(h:okV v):okV (valN k v):=by
 unfold valN
 repeat' split
 all_goals first|exact ZwB|exact⟨Nat.zero_le _,Nat.zero_le _⟩|exact⟨h.1,Nat.zero_le _⟩|exact⟨Nat.zero_le _,h.2⟩
theorem ZvF{o:Zas}(h:okV o.fVal):okV (opN o).fVal:=by
 unfold opN
 repeat' split
 all_goals first|exact ZwB|exact okV_N h
theorem ZaL{α β:Type}(x:α)(f:α->Option β):(some x).bind f=f x:=by simp
def wk(ah:List Zac)(a:Nat):Zab:=⟨ah,(a:Int),opZ,false⟩
def wt(ah:List Zac)(o:Zas):Zab:=⟨ah,(ah.length:Int),o,true⟩
theorem ZEX(o:Zas):Zcj ⟨[]⟩ o=some (.pan (opN o)):=by
 simp[Zcj,ZCL]
theorem ZBN(v:Zac)(r:List Zac)(o:Zas):Zcj ⟨v :: r⟩ o=some (.ret v ⟨r⟩):=by
 have h:(((v :: r).length:Nat):Int)≠0:=by simp only[List.length_cons];omega
 unfold Zcj;simp only[ZjF,if_neg h];rw[Zax (by simp only[List.length_cons];omega),Zax (by simp only[List.length_cons];omega)];rfl
theorem Zzb(ah:List Zac)(a:Nat)(o:Zas):Zcj ⟨ah.drop a⟩ o=some (if a<ah.length then .ret (ah.getD a Zac.d) ⟨ah.drop (a+1)⟩else .pan (opN o)):=by
 split
 .rename_i h;rw[Zjr ah Zac.d a h,ZBN]
 .rename_i h;rw[List.drop_eq_nil_of_le (by omega),ZEX]
theorem ZlS(ah:List Zac)(a:Nat)(o:Zas)(hL:ah.length<=1000000)(ha:a<=ah.length):ZcD (wk ah a) o=some (if a<ah.length then(wk ah (a+1),ah.getD a Zac.d)else(wt ah (opN o),valZ)):=by
 unfold ZcD wk;simp only[cond_false,Zai,Zwr,Option.bind_some];by_cases h:a<ah.length
 .rw[if_pos (by omega),if_pos h];have e1:Zar (a:Int) 1=((a+1:Nat):Int):=add1 (n:=ah.length) h (by simp only[maxLen];omega);have e2:ZaQ ((a+1:Nat):Int) 1=(a:Int):=by
   unfold ZaQ;have:IntKind.i64.wrap (((a+1:Nat):Int)-1)=((a+1:Nat):Int)-1:=ZkI (by omega) (by omega);exact this.trans (by omega)
  rw[e1,e2,Zax (by omega)];rfl
 .rw[if_neg (by omega),if_neg h];have:a=ah.length:=by omega
  subst this;rfl
theorem Zqy(ah:List Zac)(q o:Zas):ZcD (wt ah q) o=some (wt ah q,valZ):=by
 unfold ZcD wt;simp only[cond_true];rfl
def Lka{α β:Type}(ah:List Zac)(a0:Nat)(P:α->β->Prop)(W:β->Prop)(t:Option (Tout α))(r:Option (Zab×β)):Prop:=(∃v b a,t=some (.ret v ⟨ah.drop a⟩)/\r=some (wk ah a,b)/\a0<=a/\a<=ah.length/\P v b)\/∃q b,t=some (.pan q)/\r=some (wt ah q,b)/\okV q.fVal/\W b
def eqP{α:Type}:α->α->Prop:=fun x y=>x=y
def anyP{α β:Type}:α->β->Prop:=fun _ _=>True
def anyW{β:Type}:β->Prop:=fun _=>True
theorem Lka.weak{α β:Type}{ah:List Zac}{a0 a1:Nat}{P:α->β->Prop}{W:β->Prop}{t:Option (Tout α)}{r:Option (Zab×β)}(h:Lka ah a1 P W t r)(ha:a0<=a1):Lka ah a0 P W t r:=by
 rcases h with⟨v,b,a,h1,h2,h3,h4,h5⟩|h
 .exact .inl ⟨v,b,a,h1,h2,by omega,h4,h5⟩
 .exact .inr h
section
variable {ah:List Zac} (hL:ah.length<=1000000) {a:Nat} (ha:a<=ah.length)
include hL ha
theorem ZAL(l:Zan)(hl:True):Lka ah (a+1) eqP anyW (Zeg ⟨ah.drop a⟩ l false) (ZbP (wk ah a) l):=by
 unfold Zeg ZbP;rw[Zzb,ZlS _ _ _ hL ha];by_cases h:a<ah.length
 .simp only[if_pos h,Option.bind_some];exact .inl ⟨_,_,a+1,rfl,rfl,Nat.le_refl _,h,rfl⟩
 .simp only[if_neg h,Option.bind_some];exact .inr ⟨_,_,rfl,rfl,ZvF ZwB,trivial⟩
theorem ZHx(k old ap:Int)(ao:Bool):Lka ah (a+1) eqP anyW (Zgx ⟨ah.drop a⟩ ⟨k,0,0⟩ old ap ao) (Zgg (wk ah a) k old ap ao):=by
 unfold Zgx Zgg;rw[Zzb,ZlS _ _ _ hL ha];by_cases h:a<ah.length
 .simp only[if_pos h,Option.bind_some];exact .inl ⟨_,_,a+1,rfl,rfl,Nat.le_refl _,h,rfl⟩
 .simp only[if_neg h,Option.bind_some];exact .inr ⟨_,_,rfl,rfl,ZvF ZwB,trivial⟩
theorem ZBQ(l:Zan)(v:Zac)(ao:Bool)(hv:okV v):Lka ah (a+1) anyP anyW (ZdD ⟨ah.drop a⟩ l v ao) ((Zcw (wk ah a) l v ao).map fun w=>(w,())):=by
 unfold ZdD Zcw;rw[Zzb,ZlS _ _ _ hL ha];by_cases h:a<ah.length
 .simp only[if_pos h,Option.bind_some,Option.map_some];exact .inl ⟨_,_,a+1,rfl,rfl,Nat.le_refl _,h,trivial⟩
 .simp only[if_neg h,Option.bind_some,Option.map_some];exact .inr ⟨_,_,rfl,rfl,ZvF hv,trivial⟩
theorem ZHz(k:Int)(ao:Bool):Lka ah (a+1) anyP anyW (ZfC ⟨ah.drop a⟩ k ao) ((ZaB (wk ah a) 1 k ao).map fun w=>(w,())):=by
 unfold ZfC ZaB;rw[Zzb,ZlS _ _ _ hL ha];by_cases h:a<ah.length
 .simp only[if_pos h,Option.bind_some,Option.map_some];exact .inl ⟨_,_,a+1,rfl,rfl,Nat.le_refl _,h,trivial⟩
 .simp only[if_neg h,Option.bind_some,Option.map_some];exact .inr ⟨_,_,rfl,rfl,ZvF ZwB,trivial⟩
theorem ZHA(k:Int)(ao:Bool):Lka ah (a+1) anyP anyW (ZcP ⟨ah.drop a⟩ k ao) ((ZaB (wk ah a) 3 k ao).map fun w=>(w,())):=by
 unfold ZcP ZaB;rw[Zzb,ZlS _ _ _ hL ha];by_cases h:a<ah.length
 .simp only[if_pos h,Option.bind_some,Option.map_some];exact .inl ⟨_,_,a+1,rfl,rfl,Nat.le_refl _,h,trivial⟩
 .simp only[if_neg h,Option.bind_some,Option.map_some];exact .inr ⟨_,_,rfl,rfl,ZvF ZwB,trivial⟩
end
theorem Zzk(ah:List Zac)(q:Zas)(l:Zan):ZbP (wt ah q) l=some (wt ah q,valZ):=by
 unfold ZbP;rw[Zqy];rfl
theorem ZpU(ah:List Zac)(q:Zas)(l:Zan)(v:Zac)(ao:Bool):Zcw (wt ah q) l v ao=some (wt ah q):=by
 unfold Zcw;rw[Zqy];rfl
theorem ZiN(ah:List Zac)(q:Zas)(k l:Int)(ao:Bool):ZaB (wt ah q) k l ao=some (wt ah q):=by
 unfold ZaB;rw[Zqy];rfl
theorem ZmL{r:Option Zab}{w:Zab}{b:Unit}(h:r.map (fun w=>(w,()))=some (w,b)):r=some w:=by
 cases r with
 |none=>cases h
 |some x=>simp at h;rw[h]
theorem ZjU(ah:List Zac)(q:Zas):(wt ah q).fWait=true:=rfl
theorem ZoV(ah:List Zac)(a:Nat):(wk ah a).fWait=false:=rfl
theorem ZFc{ah:List Zac}(hL:ah.length<=1000000)(part n:Int)(b4:Zab)(b7:Zac)(hn:∀i:Nat,(i:Int)<n↔(i:Int)<b7.fN):∀(k a i:Nat)(w:List Zaa)(fu F:Nat),ah.length-a=k->a<=ah.length->i<=a->w.length=i ->
  (n-(i:Int)).toNat+1<=fu->k+3<=F->Lka ah a (fun x y=>x=y/\x.length<=ah.length) (fun b=>b.length<=ah.length+1) (Zeu part fu n i w ⟨ah.drop a⟩) (Zcg part F i w b4 (wk ah a) b7):=by
 intro k;induction k using Nat.strongRecOn with
 |ind k ih=>
  intro a i w fu F hk ha hi hw hfu hF;obtain⟨fu,rfl⟩ : ∃x,fu=x+1:=⟨fu-1,by omega⟩;obtain⟨F,rfl⟩ : ∃x,F=x+1:=⟨F-1,by omega⟩;unfold Zeu Zcg;simp only[Zai,ZoV,Bool.not_false,cond_true];by_cases h:(i:Int)<n
  .rw[if_pos h,if_pos ((hn i).1 h)];have e:Zif part i=some ⟨6,part,i⟩:=rfl;simp only[e,Option.bind_some];have hlen:∀p:Zaa,(w++[p]).length * 80<=140737488355328/\(w++[p]).length<=maxLen:=fun p=>by simp only[List.length_append,List.length_singleton,maxLen];omega
   have e1:Zar (i:Int) 1=((i+1:Nat):Int):=add1 (n:=i+1) (by omega) (by simp only[maxLen];omega);rcases ZAL hL ha ⟨6,part,i⟩ trivial with⟨v,b,a',h1,h2,h3,h4,rfl⟩|⟨q,b,h1,h2,hq,hW⟩
   .simp only[h1,h2,Option.bind_some];rw[Zax (hlen _),Zax (hlen _),e1];rcases ih (ah.length-a') (by omega) a' (i+1) (w++[v.fPeer]) fu F rfl h4 (by omega) (by simp[hw]) (by omega) (by omega)with⟨x,y,a2,q1,q2,q3,q4,q5⟩|hq
    .exact .inl ⟨x,y,a2,q1,q2,by omega,q4,q5⟩
    .exact .inr hq
   .simp only[h1,h2,Option.bind_some];rw[Zax (hlen _),e1];obtain⟨F,rfl⟩ : ∃x,F=x+1:=⟨F-1,by omega⟩;unfold Zcg;simp only[Zai,ZjU,Bool.not_true,cond_false];refine .inr ⟨q,w++[b.fPeer],rfl,?_,hq,by simp only[List.length_append,List.length_singleton];omega⟩;split<;>rfl
  .rw[if_neg h,if_neg (fun h'=>h ((hn i).2 h'))];exact .inl ⟨w,w,a,rfl,rfl,Nat.le_refl _,ha,rfl,by omega⟩
theorem Zsw(ah:List Zac)(q:Zas)(part i:Int)(w:List Zaa)(b4:Zab)(b7:Zac)(F:Nat)(hF:1<=F):Zcg part F i w b4 (wt ah q) b7=some (wt ah q,w):=by
 obtain⟨F,rfl⟩ : ∃x,F=x+1:=⟨F-1,by omega⟩;unfold Zcg;simp only[Zai,ZjU,Bool.not_true,cond_false];split<;>rfl
theorem ZHy{ah:List Zac}(hL:ah.length<=900000){a:Nat}(ha:a<=ah.length)(part:Int):Lka ah a (fun x y=>x=y/\x.length<=ah.length) (fun b=>b.length<=ah.length+1) (Zii ⟨ah.drop a⟩ part) (Zcq (wk ah a) part):=by
 unfold Zii Zcq;have e:Zig part=some ⟨5,part,0⟩:=rfl;simp only[e,ZaL];rcases ZAL (by omega) ha ⟨5,part,0⟩ trivial with⟨v,b,a',h1,h2,h3,h4,rfl⟩|⟨q,b,h1,h2,hq,hW⟩
 .simp only[h1,h2,ZaL];rcases ZFc (by omega) part (if(0:Int)>v.fN then 0 else v.fN) ⟨[],0,⟨0,0,⟨0,0,0⟩,0,0,⟨0,⟨⟨⟨false,0,0⟩,0⟩,false,0,⟨0,0⟩,0,0⟩,[],[]⟩,false⟩,false⟩ v (fun i=>by split<;>omega) (ah.length-a') a' 0 [] _ 1000000 rfl h4 (by omega) rfl (Nat.le_succ _) (by omega)with⟨x,y,a2,q1,q2,q3,q4,q5⟩|hq
  .exact .inl ⟨x,y,a2,q1,q2,by omega,q4,q5⟩
  .exact .inr hq
 .simp only[h1,h2,ZaL];have hb:b=valZ:=by
   unfold ZbP at h2;rw[ZlS _ _ _ (by omega) ha]at h2;by_cases h:a<ah.length
   .simp only[if_pos h,ZaL,Option.some.injEq,Prod.mk.injEq]at h2;exact absurd h2.1 (by simp[wk,wt])
   .simp only[if_neg h,ZaL,Option.some.injEq,Prod.mk.injEq]at h2;exact h2.2.symm
  subst hb;exact .inr ⟨q,[],rfl,Zsw ah q part 0 [] _ valZ 1000000 (by omega),hq,Nat.zero_le _⟩
theorem ZuN(ah:List Zac)(q:Zas)(part:Int):Zcq (wt ah q) part=some (wt ah q,[]):=by
 unfold Zcq;simp only[Zzk,ZaL];exact Zsw ah q part 0 [] _ valZ 1000000 (by omega)
theorem ZAI(was ap:List Zaa)(hn:ap.length<=1000000):∀(k i:Nat)(w:List Int)(f g:Nat),ap.length-i=k->i<=ap.length->w.length<=i->(∀x∈w,0<=x/\x<(ap.length:Int))->k+1<=f->k+1<=g ->
  ∃l:List Int,Zcm was f ap (ap.length:Int) i w=some l/\ZbT was ap g i w=some l/\l.length<=ap.length/\∀x∈l,0<=x/\x<(ap.length:Int):=by
 intro k;induction k with
 |zero=>
  intro i w f g hk hi hw hx hf hg;obtain⟨f,rfl⟩ : ∃x,f=x+1:=⟨f-1,by omega⟩;obtain⟨g,rfl⟩ : ∃x,g=x+1:=⟨g-1,by omega⟩;unfold Zcm ZbT;simp only[Zai];rw[if_neg (by omega),if_neg (by omega)];exact⟨w,rfl,rfl,by omega,hx⟩
 |succ k ih=>
  intro i w f g hk hi hw hx hf hg;obtain⟨f,rfl⟩ : ∃x,f=x+1:=⟨f-1,by omega⟩;obtain⟨g,rfl⟩ : ∃x,g=x+1:=⟨g-1,by omega⟩;unfold Zcm ZbT;simp only[Zai];have c1:(i:Int)<(ap.length:Int):=by omega
  rw[if_pos c1,if_pos c1,Zax (by omega)];have e1:Zar (i:Int) 1=((i+1:Nat):Int):=add1 (n:=i+1) (by omega) (by simp only[maxLen];omega);have hlen:(w++[(i:Int)]).length * 8<=140737488355328/\(w++[(i:Int)]).length<=maxLen:=by simp only[List.length_append,List.length_singleton,maxLen];omega
  have eo:∀x∈w++[(i:Int)],0<=x/\x<(ap.length:Int):=fun x hm=>by
   rcases List.mem_append.1 hm with hm|hm
   .exact hx x hm
   .simp only[List.mem_singleton]at hm;omega
  have fh:=ih (i+1) (w++[(i:Int)]) f g (by omega) (by omega) (by simp only[List.length_append,List.length_singleton];omega) eo (by omega) (by omega);have dl:=ih (i+1) w f g (by omega) (by omega) (by omega) hx (by omega) (by omega);by_cases h:(i:Int)>=(was.length:Int)
  .rw[if_pos h,if_pos h,Zax hlen,e1,Zax hlen];exact fh
  .rw[if_neg h,if_neg h,Zax (show 0<=(i:Int)/\(i:Int)<(was.length:Int)by omega),Zax (show 0<=(i:Int)/\(i:Int)<(was.length:Int)by omega),Zax (show 0<=(i:Int)/\(i:Int)<(ap.length:Int)by omega)];by_cases h2:was.getD ((i:Int)).toNat Zaa.d=ap.getD ((i:Int)).toNat Zaa.d
   .simp only[h2,decide_true,Bool.not_true,cond_false,e1];exact dl
   .simp only[h2,decide_false,Bool.not_false,cond_true];rw[Zax hlen,Zax hlen,e1];exact fh
theorem Zze(was ap:List Zaa)(hn:ap.length<=1000000):∃l:List Int,ZhQ was ap=some l/\Zft was ap=some l/\l.length<=ap.length/\∀x∈l,0<=x/\x<(ap.length:Int):=
 ZAI was ap hn ap.length 0 [] _ _ (by omega) (by omega) (by simp) (by simp) (by omega) (by omega)
theorem ZCQ(ah:List Zac)(q:Zas)(part:Int)(was ap:List Zaa)(hn:ap.length<=1000000):ZaY (wt ah q) part was ap=some (wt ah q):=by
 obtain⟨l,-,h2,h3,h4⟩:=Zze was ap hn;unfold ZaY;rw[h2];simp only[Option.bind_some];generalize hb:(Zab.mk _ _ _ _)=b8;have az:∀(k i f:Nat),l.length-i=k->i<=l.length->k+1<=f->Zbl part was ap f l i (wt ah q) b8=some (wt ah q):=by
  intro k;induction k with
  |zero=>
   intro i f hk hi hf;obtain⟨f,rfl⟩ : ∃x,f=x+1:=⟨f-1,by omega⟩;unfold Zbl;simp only[Zai,ZpU,Option.bind_some];rw[if_neg (by omega)];simp
  |succ k ih=>
   intro i f hk hi hf;obtain⟨f,rfl⟩ : ∃x,f=x+1:=⟨f-1,by omega⟩;unfold Zbl;simp only[Zai,ZpU,Option.bind_some];have e1:Zar (i:Int) 1=((i+1:Nat):Int):=add1 (n:=i+1) (by omega) (by simp only[maxLen];omega);have hm:=h4 _ (Zjv l (0:Int) i (by omega));rw[if_pos (by omega),Zax (by omega),Zax (by simpa using hm),e1];exact ih (i+1) f (by omega) (by omega) (by omega)
 exact az l.length 0 _ (by omega) (by omega) (by omega)
theorem ZGn{ah:List Zac}(hL:ah.length<=1000000){a:Nat}(ha:a<=ah.length)(part:Int)(was ap:List Zaa)(hn:ap.length<=1000000) :
  Lka ah a anyP anyW (ZfS ⟨ah.drop a⟩ part was ap) ((ZaY (wk ah a) part was ap).map fun w=>(w,())):=by
 obtain⟨l,h1,h2,h3,h4⟩:=Zze was ap hn;unfold ZfS ZaY;rw[h1,h2];simp only[Option.bind_some];generalize hb:(Zab.mk _ _ _ _)=b8;have az:∀(k i f g a:Nat),a<=ah.length->l.length-i=k->i<=l.length->k+1<=f->k+1<=g ->
   Lka ah a anyP anyW (Zdu part was ap f l (l.length:Int) i ⟨ah.drop a⟩) ((Zbl part was ap g l i (wk ah a) b8).map fun w=>(w,())):=by
  intro k;induction k with
  |zero=>
   intro i f g a ha hk hi hf hg;obtain⟨f,rfl⟩ : ∃x,f=x+1:=⟨f-1,by omega⟩;obtain⟨g,rfl⟩ : ∃x,g=x+1:=⟨g-1,by omega⟩;unfold Zdu Zbl;simp only[Zai];rw[if_neg (by omega),if_neg (by omega)];have e:Zig part=some ⟨5,part,0⟩:=rfl;simp only[e,Option.bind_some];cases hc:(((was.length:Nat):Int) != ((ap.length:Nat):Int))with
   |false=>
    simp only[cond_false];exact .inl ⟨(),(),a,rfl,rfl,Nat.le_refl _,ha,trivial⟩
   |true=>
    simp only[cond_true];rcases ZBQ hL ha ⟨5,part,0⟩ ⟨(ap.length:Int),ZtE,[],[]⟩ false ⟨Nat.zero_le _,Nat.zero_le _⟩with⟨v,b,a',q1,q2,q3,q4,-⟩|⟨q,b,q1,q2,hq,hW⟩
    .have q2:=ZmL q2;have lb:ZdD ⟨ah.drop a⟩ ⟨5,part,0⟩ ⟨(ap.length:Int),⟨⟨⟨false,0,0⟩,0⟩,false,0,⟨0,0⟩,0,0⟩,[],[]⟩ false=_:=q1;have lc:Zcw (wk ah a) ⟨5,part,0⟩ ⟨(ap.length:Int),⟨⟨⟨false,0,0⟩,0⟩,false,0,⟨0,0⟩,0,0⟩,[],[]⟩ false=_:=q2;simp only[lb,lc,Option.bind_some,Option.map_some];exact .inl ⟨(),(),a',rfl,rfl,by omega,q4,trivial⟩
    .have q2:=ZmL q2;have lb:ZdD ⟨ah.drop a⟩ ⟨5,part,0⟩ ⟨(ap.length:Int),⟨⟨⟨false,0,0⟩,0⟩,false,0,⟨0,0⟩,0,0⟩,[],[]⟩ false=_:=q1;have lc:Zcw (wk ah a) ⟨5,part,0⟩ ⟨(ap.length:Int),⟨⟨⟨false,0,0⟩,0⟩,false,0,⟨0,0⟩,0,0⟩,[],[]⟩ false=_:=q2;simp only[lb,lc,Option.bind_some,Option.map_some];exact .inr ⟨q,(),rfl,rfl,hq,trivial⟩
  |succ k ih=>
   intro i f g a ha hk hi hf hg;obtain⟨f,rfl⟩ : ∃x,f=x+1:=⟨f-1,by omega⟩;obtain⟨g,rfl⟩ : ∃x,g=x+1:=⟨g-1,by omega⟩;unfold Zdu Zbl;simp only[Zai];have e1:Zar (i:Int) 1=((i+1:Nat):Int):=add1 (n:=i+1) (by omega) (by simp only[maxLen];omega);have hm:=h4 _ (Zjv l (0:Int) i (by omega));have hm':0<=l.getD ((i:Int)).toNat (0:Int)/\l.getD ((i:Int)).toNat (0:Int)<(ap.length:Int):=by simpa using hm
   have e:∀x,Zif part x=some ⟨6,part,x⟩:=fun _=>rfl;rw[if_pos (by omega),if_pos (by omega),Zax (by omega),Zax (by omega)];simp only[e,Option.bind_some];rw[Zax hm',Zax hm'];rcases ZBQ hL ha ⟨6,part,l.getD ((i:Int)).toNat (0:Int)⟩ ⟨0,ap.getD (l.getD ((i:Int)).toNat (0:Int)).toNat Zaa.d,[],[]⟩ false ⟨Nat.zero_le _,Nat.zero_le _⟩with⟨v,b,a',q1,q2,q3,q4,-⟩|⟨q,b,q1,q2,hq,hW⟩
   .have q2:=ZmL q2;simp only[q1,q2,Option.bind_some,e1];rcases ih (i+1) f g a' q4 (by omega) (by omega) (by omega) (by omega)with⟨x,y,a2,r1,r2,r3,r4,r5⟩|hq
    .exact .inl ⟨x,y,a2,r1,r2,by omega,r4,r5⟩
    .exact .inr hq
   .have q2:=ZmL q2;simp only[q1,q2,Option.bind_some,e1];have hw:∀(k i f:Nat),l.length-i=k->i<=l.length->k+1<=f->Zbl part was ap f l i (wt ah q) b8=some (wt ah q):=by
     intro k;induction k with
     |zero=>
      intro i f hk hi hf;obtain⟨f,rfl⟩ : ∃x,f=x+1:=⟨f-1,by omega⟩;unfold Zbl;simp only[Zai,ZpU,Option.bind_some];rw[if_neg (by omega)];simp
     |succ k ih=>
      intro i f hk hi hf;obtain⟨f,rfl⟩ : ∃x,f=x+1:=⟨f-1,by omega⟩;unfold Zbl;simp only[Zai,ZpU,Option.bind_some];have e1:Zar (i:Int) 1=((i+1:Nat):Int):=add1 (n:=i+1) (by omega) (by simp only[maxLen];omega);have hm:=h4 _ (Zjv l (0:Int) i (by omega));rw[if_pos (by omega),Zax (by omega),Zax (by simpa using hm),e1];exact ih (i+1) f (by omega) (by omega) (by omega)
    rw[hw k (i+1) g (by omega) (by omega) (by omega)];exact .inr ⟨q,(),rfl,rfl,hq,trivial⟩
 exact az l.length 0 _ _ a ha (by omega) (by omega) (by omega) (by omega)
def Zdn(p:Int):Nat:=if p<1 then 1 else if p>8 then 8 else p.toNat
theorem Zlb(p:Int):1<=Zdn p/\Zdn p<=8:=by unfold Zdn;split<;>(try split)<;>omega
theorem ZlP(p:Int):Zih p=some (Zdn p:Int):=by
 unfold Zih Zdn;congr 1
 repeat' split
 all_goals omega
theorem ZlK(p:Int):ZcN p=some (Zdn p:Int):=by
 unfold ZcN Zdn;simp only[Zai]
 repeat' split
 all_goals first|rfl | (congr 1;omega)|omega
theorem Zsx{ah:List Zac}(hL:ah.length<=1000000)(p:Int)(b:Zab):∀(k i a f g:Nat),Zdn p-i=k->i<=Zdn p->a<=ah.length->k+1<=f->k+1<=g ->
  Lka ah a anyP anyW (ZcQ f (Zdn p:Int) i ⟨ah.drop a⟩) ((ZbF p g i (wk ah a) b).map fun w=>(w,()))/\∀q,ZbF p g i (wt ah q) b=some (wt ah q):=by
 have h8:=(Zlb p).2;intro k;induction k with
 |zero=>
  intro i a f g hk hi ha hf hg;obtain⟨f,rfl⟩ : ∃x,f=x+1:=⟨f-1,by omega⟩;obtain⟨g,rfl⟩ : ∃x,g=x+1:=⟨g-1,by omega⟩;have hc:¬((i:Int)<(Zdn p:Int)):=by omega
  refine⟨?_,fun q=>?_⟩
  .unfold ZcQ ZbF;simp only[Zai,ZlK,ZaL,if_neg hc];exact .inl ⟨(),(),a,rfl,rfl,Nat.le_refl _,ha,trivial⟩
  .unfold ZbF;simp only[Zai,ZlK,ZaL,if_neg hc]
 |succ k ih=>
  intro i a f g hk hi ha hf hg;obtain⟨f,rfl⟩ : ∃x,f=x+1:=⟨f-1,by omega⟩;obtain⟨g,rfl⟩ : ∃x,g=x+1:=⟨g-1,by omega⟩;have hc:(i:Int)<(Zdn p:Int):=by omega
  have e1:Zar (i:Int) 1=((i+1:Nat):Int):=add1 (n:=i+1) (by omega) (by simp only[maxLen];omega);refine⟨?_,fun q=>?_⟩
  .unfold ZcQ ZbF;simp only[Zai,ZlK,ZaL,if_pos hc,e1];rcases ZHz hL ha (Zar 2 (i:Int)) false with⟨v,b',a',q1,q2,q3,q4,-⟩|⟨q,b',q1,q2,hq,hW⟩
   .have q2:=ZmL q2;simp only[q1,q2,ZaL];rcases(ih (i+1) a' f g (by omega) (by omega) q4 (by omega) (by omega)).1 with⟨x,y,a2,r1,r2,r3,r4,r5⟩|hq
    .exact .inl ⟨x,y,a2,r1,r2,by omega,r4,r5⟩
    .exact .inr hq
   .have q2:=ZmL q2;simp only[q1,q2,ZaL];rw[(ih (i+1) a f g (by omega) (by omega) ha (by omega) (by omega)).2 q];exact .inr ⟨q,(),rfl,rfl,hq,trivial⟩
  .unfold ZbF;simp only[Zai,ZlK,ZaL,if_pos hc,e1,ZiN];exact(ih (i+1) a f g (by omega) (by omega) ha (by omega) (by omega)).2 q
theorem ZCU{ah:List Zac}(hL:ah.length<=1000000){a:Nat}(ha:a<=ah.length)(p:Int):Lka ah a anyP anyW (ZgP ⟨ah.drop a⟩ p) ((ZcL (wk ah a) p).map fun w=>(w,())):=by
 have h8:=(Zlb p).2;unfold ZgP ZcL;rw[ZlP,ZaL];exact(Zsx hL p _ (Zdn p) 0 a _ 1000000 (by omega) (by omega) ha (by omega) (by omega)).1
theorem Zzj(ah:List Zac)(hL:ah.length<=1000000)(q:Zas)(p:Int):ZcL (wt ah q) p=some (wt ah q):=by
 have h8:=(Zlb p).2;unfold ZcL;exact(Zsx hL p _ (Zdn p) 0 0 (Zdn p+1) 1000000 (by omega) (by omega) (by omega) (by omega) (by omega)).2 q
theorem Zzg{ah:List Zac}(hL:ah.length<=900000)(bh:Int)(ao:Bool)(b6:Zab):∀(k a f g:Nat),ah.length-a=k->a<=ah.length->k+1<=f->k+2<=g ->
  Lka ah a eqP anyW (ZdE bh ao f ⟨ah.drop a⟩ ⟨1,0,0⟩) (ZbN bh ao g (wk ah a) b6):=by
 intro k;induction k using Nat.strongRecOn with
 |ind k ih=>
  intro a f g hk ha hf hg;obtain⟨f,rfl⟩ : ∃x,f=x+1:=⟨f-1,by omega⟩;obtain⟨g,rfl⟩ : ∃x,g=x+1:=⟨g-1,by omega⟩;unfold ZdE ZbN;simp only[ZoV,Bool.not_false,cond_true];rcases ZAL (by omega) ha ⟨1,0,0⟩ trivial with⟨v,b,a',h1,h2,h3,h4,rfl⟩|⟨q,b,h1,h2,hq,hW⟩
  .simp only[h1,h2,ZaL,ZoV,cond_false,Zai];split
   .exact .inl ⟨false,false,a',rfl,rfl,by omega,h4,rfl⟩
   .rcases ZHx (by omega) h4 1 v.fN (Zar v.fN 1) ao with⟨v2,b2,a2,r1,r2,r3,r4,rfl⟩|⟨q,b2,r1,r2,hq,hW⟩
    .simp only[r1,r2,ZaL];cases v2 with
     |true=>exact .inl ⟨true,true,a2,rfl,rfl,by omega,r4,rfl⟩
     |false=>
      simp only[cond_false];rcases ih (ah.length-a2) (by omega) a2 f g rfl r4 (by omega) (by omega)with⟨x,y,a3,s1,s2,s3,s4,s5⟩|hq
      .exact .inl ⟨x,y,a3,s1,s2,by omega,s4,s5⟩
      .exact .inr hq
    .simp only[r1,r2,ZaL];cases b2 with
     |true=>exact .inr ⟨q,true,rfl,rfl,hq,trivial⟩
     |false=>
      simp only[cond_false];obtain⟨g,rfl⟩ : ∃x,g=x+1:=⟨g-1,by omega⟩;unfold ZbN;simp only[ZjU,Bool.not_true,cond_false];exact .inr ⟨q,false,rfl,rfl,hq,trivial⟩
  .simp only[h1,h2,ZaL,ZjU,cond_true];exact .inr ⟨q,false,rfl,rfl,hq,trivial⟩
theorem ZCR{ah:List Zac}(hL:ah.length<=900000){a:Nat}(ha:a<=ah.length)(bh:Int)(ao:Bool):Lka ah a eqP anyW (ZfT ⟨ah.drop a⟩ bh ao) (Zbw (wk ah a) bh ao):=by
 unfold ZfT Zbw;exact Zzg hL bh ao _ _ a 1000000 1000000 rfl ha (by omega) (by omega)
theorem ZuM(ah:List Zac)(q:Zas)(bh:Int)(ao:Bool)(b6:Zab)(g:Nat)(hg:1<=g):ZbN bh ao g (wt ah q) b6=some (wt ah q,false):=by
 obtain⟨g,rfl⟩ : ∃x,g=x+1:=⟨g-1,by omega⟩;unfold ZbN;simp only[ZjU,Bool.not_true,cond_false]
theorem ZpE(ah:List Zac)(q:Zas)(bh:Int)(ao:Bool):Zbw (wt ah q) bh ao=some (wt ah q,false):=by
 unfold Zbw;exact ZuM ah q bh ao _ 1000000 (by omega)
theorem Zzp{i:Nat}(h:i<=1000000):ZaQ ((i+1:Nat):Int) 1=(i:Int):=by
 unfold ZaQ;have:IntKind.i64.wrap (((i+1:Nat):Int)-1)=((i+1:Nat):Int)-1:=ZkI (by omega) (by omega);exact this.trans (by omega)
theorem sub0:ZaQ 0 1 = -1:=by decide
theorem Zsy {ah : List Zac} (hL : ah.length <= 1000000) (p : Int) (ao : Bool) (b6 : Zab) : ∀ (n a f g : Nat) (m : Bool), n <= Zdn p -> a <= ah.length -> n + 1 <= f -> n + 1 <= g -> (0 < n -> m = (ao && decide (n = Zdn p))) ->
    Lka ah a anyP anyW (Zce p ao f ((n:Int) - 1) ⟨ah.drop a⟩) ((Zbv g m ((n:Int) - 1) (wk ah a) b6).map fun w =>(w,()))/\∀ q m,Zbv g m ((n:Int) - 1) (wt ah q) b6 = some (wt ah q):=by
  have h8:=Zlb p
  intro n
  induction n with
  | zero =>
    intro a f g m hn ha hf hg hm
    obtain ⟨f,rfl⟩ : ∃ x,f = x + 1:=⟨f - 1,by omega⟩
    obtain ⟨g,rfl⟩ : ∃ x,g = x + 1:=⟨g - 1,by omega⟩
    have hc : ¬ (((0:Nat):Int) - 1 >= 0):=by omega
    refine ⟨?_,fun q m =>?_⟩
    . unfold Zce Zbv
      simp only [Zai,if_neg hc]
      exact .inl ⟨(),(),a,rfl,rfl,Nat.le_refl _,ha,trivial⟩
    . unfold Zbv
      simp only [Zai,if_neg hc]
  | succ n ih =>
    intro a f g m hn ha hf hg hm
    obtain ⟨f,rfl⟩ : ∃ x,f = x + 1:=⟨f - 1,by omega⟩
    obtain ⟨g,rfl⟩ : ∃ x,g = x + 1:=⟨g - 1,by omega⟩
    have hm:=hm (by omega)
    have hc:(n:Int) >= 0:=by omega
    have e0:(((n + 1:Nat):Int) - 1) = (n:Int):=by omega
    have e1:ZaQ (n:Int) 1 = ((n:Int) - 1):=by
      cases n with
      | zero =>exact sub0
      | succ n =>rw [Zzp (by omega)]; omega
    rw [e0]
    refine ⟨?_,fun q m =>?_⟩
    . unfold Zce Zbv
      simp only [Zai,if_pos hc,e1]
      have hp : ∃ c:Nat,Zdn p = c + 1:=⟨Zdn p - 1,by omega⟩
      obtain ⟨c,hcp⟩:=hp
      have hk : ∀ (v : Unit) (k : Bool), m = k -> Lka ah a anyP anyW
          ((ZcP ⟨ah.drop a⟩ (Zar 2 (n:Int)) k).bind fun x3 =>match x3 with
            | .ret x3v x3g =>Zce p ao f ((n:Int) - 1) x3g
            | .pan x3o =>some (Tout.pan x3o)
            | .bad x3s =>some (Tout.bad x3s))
          (Option.map (fun w =>(w,())) ((ZaB (wk ah a) 3 (Zar 2 (n:Int)) m).bind fun x2 =>Zbv g false ((n:Int) - 1) x2 b6)):=by
        rintro v k rfl
        rcases ZHA hL ha (Zar 2 (n:Int)) m with ⟨v,b',a',q1,q2,q3,q4,-⟩ | ⟨q,b',q1,q2,hq,hW⟩
        . have q2:=ZmL q2
          simp only [q1,q2,ZaL]
          rcases (ih a' f g false (by omega) q4 (by omega) (by omega) (fun _ =>by simp [show ¬ n = Zdn p by omega])).1 with ⟨x,y,a2,r1,r2,r3,r4,r5⟩ | hq
          . exact .inl ⟨x,y,a2,r1,r2,by omega,r4,r5⟩
          . exact .inr hq
        . have q2:=ZmL q2
          simp only [q1,q2,ZaL]
          rw [(ih a f g false (by omega) ha (by omega) (by omega) (fun _ =>by simp [show ¬ n = Zdn p by omega])).2 q false]
          exact .inr ⟨q,(),rfl,rfl,hq,trivial⟩
      cases ao with
      | true =>
        simp only [cond_true,ZlP,ZaL]
        refine hk () _ ?_
        rw [hm,hcp,Zzp (by omega)]
        by_cases h:n = c
        . subst h; simp
        . have h1 : ¬ (n + 1 = c + 1):=by omega
          have h2:((n:Int) == (c:Int)) = false:=beq_false_of_ne (by omega)
          simp [h,h2]
      | false =>
        simp only [cond_false]
        exact hk () _ (by rw [hm]; rfl)
    . unfold Zbv
      simp only [Zai,if_pos hc,e1,ZiN,ZaL]
      exact (ih 0 (n + 1) g (ao && decide (n = Zdn p)) (by omega) (by omega) (by omega) (by omega) (fun _ =>rfl)).2 q false
theorem ZCW{ah:List Zac}(hL:ah.length<=1000000){a:Nat}(ha:a<=ah.length)(p:Int)(ao:Bool):Lka ah a anyP anyW (ZgQ ⟨ah.drop a⟩ p ao) ((Zbx (wk ah a) p ao).map fun w=>(w,())):=by
 have h8:=Zlb p;unfold ZgQ Zbx;rw[ZlP,ZlK,ZaL,ZaL];have e:ZaQ (Zdn p:Int) 1=(Zdn p:Int)-1:=by
  obtain⟨c,hc⟩ : ∃c:Nat,Zdn p=c+1:=⟨Zdn p-1,by omega⟩;rw[hc,Zzp (by omega)];omega
 rw[e];exact(Zsy hL p ao _ (Zdn p) a _ _ ao (by omega) ha (by omega) (by omega) (fun _=>by simp)).1
theorem ZpF(ah:List Zac)(hL:ah.length<=1000000)(q:Zas)(p:Int)(ao:Bool):Zbx (wt ah q) p ao=some (wt ah q):=by
 have h8:=Zlb p;unfold Zbx;rw[ZlK,ZaL];have e:ZaQ (Zdn p:Int) 1=(Zdn p:Int)-1:=by
  obtain⟨c,hc⟩ : ∃c:Nat,Zdn p=c+1:=⟨Zdn p-1,by omega⟩;rw[hc,Zzp (by omega)];omega
 rw[e];exact(Zsy hL p ao _ (Zdn p) 0 (Zdn p+1) _ ao (by omega) (by omega) (by omega) (by omega) (fun _=>by simp)).2 q ao
theorem Zwk(l:List Zag)(h:l.length<=1000000):ZgE l l=some true:=by
 have az:∀(k i f:Nat),l.length-i=k->i<=l.length->k+1<=f->ZcW l l f i=some true:=by
  intro k;induction k with
  |zero=>
   intro i f hk hi hf;obtain⟨f,rfl⟩ : ∃x,f=x+1:=⟨f-1,by omega⟩;have hc:¬((i:Int)<(l.length:Int)):=by omega
   unfold ZcW;simp only[Zai,if_neg hc]
  |succ k ih=>
   intro i f hk hi hf;obtain⟨f,rfl⟩ : ∃x,f=x+1:=⟨f-1,by omega⟩;have hc:(i:Int)<(l.length:Int):=by omega
   have e1:Zar (i:Int) 1=((i+1:Nat):Int):=add1 (n:=i+1) (by omega) (by simp only[maxLen];omega);unfold ZcW;simp only[Zai,if_pos hc,e1,decide_true,Bool.not_true,cond_false];rw[Zax (by omega),Zax (by omega)];exact ih (i+1) f (by omega) (by omega) (by omega)
 unfold ZgE;simp only[bne_self_eq_false,cond_false];exact az l.length 0 _ (by omega) (by omega) (by omega)
theorem Zwj(l:List Zad)(h:l.length<=1000000):ZgD l l=some true:=by
 have az:∀(k i f:Nat),l.length-i=k->i<=l.length->k+1<=f->ZcV l l f i=some true:=by
  intro k;induction k with
  |zero=>
   intro i f hk hi hf;obtain⟨f,rfl⟩ : ∃x,f=x+1:=⟨f-1,by omega⟩;have hc:¬((i:Int)<(l.length:Int)):=by omega
   unfold ZcV;simp only[Zai,if_neg hc]
  |succ k ih=>
   intro i f hk hi hf;obtain⟨f,rfl⟩ : ∃x,f=x+1:=⟨f-1,by omega⟩;have hc:(i:Int)<(l.length:Int):=by omega
   have e1:Zar (i:Int) 1=((i+1:Nat):Int):=add1 (n:=i+1) (by omega) (by simp only[maxLen];omega);unfold ZcV;simp only[Zai,if_pos hc,e1,decide_true,Bool.not_true,cond_false];rw[Zax (by omega),Zax (by omega)];exact ih (i+1) f (by omega) (by omega) (by omega)
 unfold ZgD;simp only[bne_self_eq_false,cond_false];exact az l.length 0 _ (by omega) (by omega) (by omega)
theorem ZuT(l:List Zaa)(h:l.length<=1000000):Zgf l l=some true:=by
 have az:∀(k i f:Nat),l.length-i=k->i<=l.length->k+1<=f->ZcJ l l f i=some true:=by
  intro k;induction k with
  |zero=>
   intro i f hk hi hf;obtain⟨f,rfl⟩ : ∃x,f=x+1:=⟨f-1,by omega⟩;have hc:¬((i:Int)<(l.length:Int)):=by omega
   unfold ZcJ;simp only[Zai,if_neg hc]
  |succ k ih=>
   intro i f hk hi hf;obtain⟨f,rfl⟩ : ∃x,f=x+1:=⟨f-1,by omega⟩;have hc:(i:Int)<(l.length:Int):=by omega
   have e1:Zar (i:Int) 1=((i+1:Nat):Int):=add1 (n:=i+1) (by omega) (by simp only[maxLen];omega);unfold ZcJ;simp only[Zai,if_pos hc,e1,decide_true,Bool.not_true,cond_false];rw[Zax (by omega),Zax (by omega)];exact ih (i+1) f (by omega) (by omega) (by omega)
 unfold Zgf;simp only[bne_self_eq_false,cond_false];exact az l.length 0 _ (by omega) (by omega) (by omega)
theorem ZuS(v:Zac)(h:okV v):Zge v v=some true:=by
 unfold Zge;simp only[beq_self_eq_true,decide_true,cond_true,Zwk _ h.1,Zwj _ h.2,ZaL]
theorem Zto(o:Zas)(h:okV o.fVal):Zej o o=some true:=by
 unfold Zej;simp only[beq_self_eq_true,decide_true,cond_true,ZuS _ h,ZaL]
theorem Zqi(r:Zao)(h:r.fPeers.length<=1000000):Zel r r=some true:=by
 unfold Zel;simp only[beq_self_eq_true,decide_true,cond_true,ZuT _ h,ZaL]
structure Cx where
 c:List Zaa
 b:Int
 s:Int
def InR(K:Cx)(x:Int):Prop:=(0<=x/\x<((K.c.length:Nat):Int))/\(K.c.getD x.toNat Zaa.d).fEnd.fAddr.ok
def Rg(K:Cx)(l:List Int):Prop:=∀x∈l,InR K x
theorem Rg.app{K:Cx}{l r:List Int}(h:Rg K l)(h2:Rg K r):Rg K (l++r):=fun x hx=>(List.mem_append.1 hx).elim (h x) (h2 x)
theorem Rg.take{K:Cx}{l:List Int}(h:Rg K l)(k:Nat):Rg K (l.take k):=fun x hx=>h x (List.mem_of_mem_take hx)
theorem Rg.drop{K:Cx}{l:List Int}(h:Rg K l)(k:Nat):Rg K (l.drop k):=fun x hx=>h x (List.mem_of_mem_drop hx)
theorem Rg.get{K:Cx}{l:List Int}(h:Rg K l){i:Nat}(hi:i<l.length):InR K (l.getD i 0):=by rw[ZdM l _ i hi];exact h _ (List.getElem_mem hi)
def keyZ(s:Int)(p:Zaa):Int:=(Zmf s (grp p.fEnd.fAddr)).getD 0
def kv(b s:Int)(p:Zaa):Int:=if b=1 then-keyZ s p else if b=2 then p.fPing else if b=3 then-p.fWork else if b=4 then p.fSince else 0
def Zpu(b s:Int)(p q:Zaa):Int:=orI (cmpI (kv b s p) (kv b s q)) (cmpE p.fEnd q.fEnd)
theorem Zta{b s:Int}{p q:Zaa}:Zpu b s p q<0↔kv b s p<kv b s q\/(kv b s p=kv b s q/\cmpE p.fEnd q.fEnd<0):=by simp only[Zpu,ZDK,ZAz,Zms]
theorem ZBH(a b:Int):cmpI b a=cmpI (-a) (-b):=by
 unfold cmpI
 repeat' split
 all_goals omega
theorem ZAZ(p:Zaa)(s:Int)(h:p.fEnd.fAddr.ok):ZlO p s=some (keyZ s p):=by
 obtain⟨m,h1,_,_⟩:=ZzM s (grp p.fEnd.fAddr);unfold ZlO keyZ;rw[ZsZ _ h,ZaL,h1,ZaL];rfl
theorem ZxS(p q:Zaa)(b s:Int)(hp:p.fEnd.fAddr.ok)(hq:q.fEnd.fAddr.ok):Zjl p q b s=some (cmpI (kv b s p) (kv b s q)):=by
 unfold Zjl kv;simp only[ZAZ _ _ hp,ZAZ _ _ hq,ZEJ,ZuA,ZaL,ZjF];by_cases h1:b=1
 .simp only[if_pos h1,<-ZBH]
 .simp only[if_neg h1];by_cases h2:b=2
  .simp only[if_pos h2]
  .simp only[if_neg h2];by_cases h3:b=3
   .simp only[if_pos h3,<-ZBH]
   .simp only[if_neg h3];by_cases h4:b=4
    .simp only[if_pos h4]
    .simp only[if_neg h4];rfl
theorem ZDG(p q:Zaa)(b s:Int)(hp:p.fEnd.fAddr.ok)(hq:q.fEnd.fAddr.ok):Zmc p q b s=some (Zpu b s p q):=by
 unfold Zmc Zpu;simp only[ZxS _ _ _ _ hp hq,ZBB,or2,ZaL]
def cmpJ(K:Cx)(x y:Int):Int:=Zpu K.b K.s (K.c.getD x.toNat Zaa.d) (K.c.getD y.toNat Zaa.d)
def ltJ(K:Cx)(x y:Int):Bool:=decide (cmpJ K x y<0)
theorem ZtP{K:Cx}{x y:Int}:ltJ K x y=true↔cmpJ K x y<0:=by unfold ltJ;simp
theorem ZvK{K:Cx}{x y:Int}:ltJ K x y=false↔¬cmpJ K x y<0:=by unfold ltJ;simp
theorem Ztc{K:Cx}{x y:Int}(hx:InR K x)(hy:InR K y):ZfV x y K.c K.b K.s=some (cmpJ K x y):=by
 unfold ZfV cmpJ;rw[Zax hx.1,Zax hy.1,ZDG _ _ _ _ hx.2 hy.2];rfl
theorem ZzT{b s:Int}{p q r:Zaa}(h1:Zpu b s p q<0)(h2:Zpu b s q r<0):Zpu b s p r<0:=by
 rw[Zta]at *
 rcases h1 with h1|⟨h1,h3⟩
 .rcases h2 with h2|⟨h2,h4⟩
  .left;omega
  .left;omega
 .rcases h2 with h2|⟨h2,h4⟩
  .left;omega
  .right;exact⟨by omega,Zso h3 h4⟩
theorem ZEm{b s:Int}{p q r:Zaa}(h1:¬Zpu b s p q<0)(h2:¬Zpu b s q r<0):¬Zpu b s p r<0:=by
 rw[Zta]at *
 rintro (h|⟨h,h3⟩)
 .by_cases e:kv b s p=kv b s q
  .exact h2 (.inl (by omega))
  .by_cases e2:kv b s p<kv b s q
   .exact h1 (.inl e2)
   .exact h2 (.inl (by omega))
 .by_cases e:kv b s p=kv b s q
  .have n1:¬cmpE p.fEnd q.fEnd<0:=fun x=>h1 (.inr ⟨e,x⟩);have n2:¬cmpE q.fEnd r.fEnd<0:=fun x=>h2 (.inr ⟨by omega,x⟩);have e4:cmpE p.fEnd q.fEnd=0\/0<cmpE p.fEnd q.fEnd:=by omega
   rcases e4 with e4|e4
   .rw[ZpA.1 e4]at h3;exact n2 h3
   .exact n2 (Zso (ZrJ.1 e4) h3)
  .by_cases e2:kv b s p<kv b s q
   .exact h1 (.inl e2)
   .exact h2 (.inl (by omega))
theorem ZEn(b s:Int)(p:Zaa):¬Zpu b s p p<0:=by
 rw[Zta];rintro (h|⟨_,h⟩)
 .omega
 .rw[ZpA.2 rfl]at h;omega
theorem Zyj{K:Cx}{x y z:Int}(h1:ltJ K x y=true)(h2:ltJ K y z=true):ltJ K x z=true:=by
 rw[ZtP]at *;exact ZzT h1 h2
theorem ZlW{K:Cx}{x y z:Int}(h1:ltJ K x y=false)(h2:ltJ K y z=false):ltJ K x z=false:=by
 rw[ZvK]at *;exact ZEm h1 h2
theorem ZDR{K:Cx}(x:Int):ltJ K x x=false:=by rw[ZvK];exact ZEn _ _ _
theorem ZFQ{K:Cx}{x y:Int}(h:ltJ K x y=true):ltJ K y x=false:=by
 cases h2:ltJ K y x with
 |false=>rfl
 |true=>have:=Zyj h h2;rw[ZDR]at this;cases this
theorem ZFn{α:Type}(L R:List α)(x y:α):(L++x :: R).set L.length y=L++y :: R:=by
 induction L with
 |nil=>rfl
 |cons z L ih=>simp[ih]
theorem ZBu{α:Type}(L R:List α)(x d:α):(L++x :: R).getD L.length d=x:=by
 induction L with
 |nil=>rfl
 |cons z L ih=>simp
theorem ZoW{α:Type}{l L R:List α}{x y:α}{k:Nat}(h:l=L++x :: R)(hk:k=L.length):l.set k y=L++y :: R:=by rw[h,hk,ZFn]
theorem ZmX{α:Type}{l L R:List α}{x d:α}{k:Nat}(h:l=L++x :: R)(hk:k=L.length):l.getD k d=x:=by rw[h,hk,ZBu]
abbrev Ins:=List Int
variable {K:Cx}
theorem ZBY(P B Q:Ins):∀(k:Nat)(A1 A2 C1 C2:Ins)(fu:Nat),A2.length=k->C2.length=k->A1.length=C1.length->k+1<=fu->P.length+B.length+Q.length+2*(A1.length+k)<=1000000 ->
  Zbn (P.length:Int) ((P.length+(A1.length+k)+B.length:Nat):Int) ((A1.length+k:Nat):Int) fu (A1.length:Int) (P++(C1++(A2++(B++(A1++(C2++Q))))))=some (P++(C1++(C2++(B++(A1++(A2++Q)))))):=by
 intro k;induction k with
 |zero=>
  intro A1 A2 C1 C2 fu h1 h2 h3 hf hb;obtain⟨fu,rfl⟩ : ∃x,fu=x+1:=⟨fu-1,by omega⟩;obtain rfl:=List.eq_nil_of_length_eq_zero h1;obtain rfl:=List.eq_nil_of_length_eq_zero h2;unfold Zbn;rw[Zai,if_neg (by omega)]
 |succ k ih=>
  intro A1 A2 C1 C2 fu h1 h2 h3 hf hb;obtain⟨fu,rfl⟩ : ∃x,fu=x+1:=⟨fu-1,by omega⟩;cases A2 with
  |nil=>cases h1
  |cons a A2=>
   cases C2 with
   |nil=>cases h2
   |cons c C2=>
    simp only[List.length_cons,Nat.add_right_cancel_iff]at h1 h2;unfold Zbn;have e1:Zar (P.length:Int) (A1.length:Int)=((P.length+A1.length:Nat):Int):=by rw[Zdg (by omega) (by omega)];omega
    have e2:Zar ((P.length+(A1.length+(k+1))+B.length:Nat):Int) (A1.length:Int)=((P.length+(A1.length+(k+1))+B.length+A1.length:Nat):Int):=by rw[Zdg (by omega) (by omega)];omega
    have e3:Zar (A1.length:Int) 1=((A1.length+1:Nat):Int):=by rw[Zdg (by omega) (by omega)];omega
    have hl:(P++(C1++(a :: A2++(B++(A1++(c :: C2++Q)))))).length=P.length+B.length+Q.length+2*(A1.length+(k+1)):=by simp;omega
    rw[Zai,if_pos (by omega),e1,e2,e3,Zax (by rw[hl];omega),Zax (by rw[hl];omega)];simp only[Int.toNat_natCast];have g1:(P++(C1++(a :: A2++(B++(A1++(c :: C2++Q)))))).getD (P.length+(A1.length+(k+1))+B.length+A1.length) 0=c:=
     ZmX (L:=P++(C1++(a :: A2++(B++A1)))) (R:=C2++Q) (by simp) (by simp;omega)
    have g2:(P++(C1++(a :: A2++(B++(A1++(c :: C2++Q)))))).getD (P.length+A1.length) 0=a:=
     ZmX (L:=P++C1) (R:=A2++(B++(A1++(c :: C2++Q)))) (by simp) (by simp;omega)
    have s1:(P++(C1++(a :: A2++(B++(A1++(c :: C2++Q)))))).set (P.length+A1.length) c=P++(C1++(c :: A2++(B++(A1++(c :: C2++Q))))):=by
     rw[ZoW (L:=P++C1) (x:=a) (R:=A2++(B++(A1++(c :: C2++Q)))) (by simp) (by simp;omega)];simp
    have s2:(P++(C1++(c :: A2++(B++(A1++(c :: C2++Q)))))).set (P.length+(A1.length+(k+1))+B.length+A1.length) a=P++(C1++(c :: A2++(B++(A1++(a :: C2++Q))))):=by
     rw[ZoW (L:=P++(C1++(c :: A2++(B++A1)))) (x:=c) (R:=C2++Q) (by simp) (by simp;omega)];simp
    rw[g1,g2,s1,s2];have:=ih (A1++[a]) A2 (C1++[c]) C2 fu h1 h2 (by simp;omega) (by omega) (by simp;omega);simp only[List.length_append,List.length_singleton,List.append_assoc,List.singleton_append,List.cons_append]at this ⊢;have x1:A1.length+1+k=A1.length+(k+1):=by omega
    rw[x1]at this;exact this
theorem Zwh(P A B C Q:Ins)(h:A.length=C.length)(hb:P.length+B.length+Q.length+2*A.length<=1000000)(a b n:Int)(ha:a=(P.length:Int))(gR:b=((P.length+A.length+B.length:Nat):Int))(hn:n=(A.length:Int)) :
  ZbO (P++(A++(B++(C++Q)))) a b n K.c K.b K.s=some (P++(C++(B++(A++Q)))):=by
 subst ha gR hn;unfold ZbO;have:=ZBY P B Q A.length [] A [] C (((A.length:Int)-0).toNat+2) rfl h.symm rfl (by omega) (by simpa using hb);simpa using this
theorem ZDs(m:Nat):∀(s:Nat)(P X Y Q:Ins)(fu:Nat),X.length+Y.length<=s->0<X.length->0<Y.length->m=P.length+X.length->P.length+X.length+Y.length+Q.length<=1000000->s+1<=fu ->
  ZbC (m:Int) K.c K.b K.s fu (X.length:Int) (Y.length:Int) (P++(X++(Y++Q)))=some (P++(Y++(X++Q))):=by
 intro s;induction s with
 |zero=>intro P X Y Q fu h1 h2;omega
 |succ s ih=>
  intro P X Y Q fu h1 h2 h3 hm hb hf;obtain⟨fu,rfl⟩ : ∃x,fu=x+1:=⟨fu-1,by omega⟩;unfold ZbC;have e1:ZaQ (m:Int) (X.length:Int)=(P.length:Int):=by rw[Zes (by omega) (by omega)];omega
  by_cases he:X.length=Y.length
  .have e0:((X.length:Int) != (Y.length:Int))=false:=by rw[he];simp
   rw[e0,cond_false,e1];have:=Zwh (K:=K) P X [] Y Q he (by simp;omega) (P.length:Int) (m:Int) (X.length:Int) rfl (by simp[hm]) rfl;simp only[List.nil_append]at this;rw[this];rfl
  .have e0:((X.length:Int) != (Y.length:Int))=true:=by rw[bne_iff_ne];omega
   rw[e0,cond_true,Zai,e1];by_cases hg:Y.length<X.length
   .obtain⟨X1,X2,rfl,hx⟩ : ∃X1 X2,X=X1++X2/\X1.length=Y.length:=⟨X.take Y.length,X.drop Y.length,(List.take_append_drop ..).symm,by simp;omega⟩;simp only[List.length_append]at *
    have e2:ZaQ ((X1.length+X2.length:Nat):Int) (Y.length:Int)=(X2.length:Int):=by rw[Zes (by omega) (by omega)];omega
    rw[if_pos (by omega),e2];have:=Zwh (K:=K) P X1 X2 Y Q hx (by omega) (P.length:Int) (m:Int) (Y.length:Int) rfl (by omega) (by omega);simp only[List.append_assoc]at this ⊢;rw[this,ZaL];have h2:=ih (P++Y) X2 X1 Q fu (by omega) (by omega) (by omega) (by simp;omega) (by simp;omega) (by omega);simp only[List.append_assoc,hx]at h2;exact h2
   .obtain⟨Y1,Y2,rfl,hy⟩ : ∃Y1 Y2,Y=Y1++Y2/\Y2.length=X.length:=⟨Y.take (Y.length-X.length),Y.drop (Y.length-X.length),(List.take_append_drop ..).symm,by simp;omega⟩;simp only[List.length_append]at *
    have e2:ZaQ ((Y1.length+Y2.length:Nat):Int) (X.length:Int)=(Y1.length:Int):=by rw[Zes (by omega) (by omega)];omega
    have e3:Zar (m:Int) ((Y1.length+Y2.length:Nat):Int)=((m+Y1.length+Y2.length:Nat):Int):=by rw[Zdg (by omega) (by omega)];omega
    have e4:ZaQ ((m+Y1.length+Y2.length:Nat):Int) (X.length:Int)=((P.length+X.length+Y1.length:Nat):Int):=by rw[Zes (by omega) (by omega)];omega
    rw[if_neg (by omega),e2,e3,e4];have:=Zwh (K:=K) P X Y1 Y2 Q hy.symm (by omega) (P.length:Int) ((P.length+X.length+Y1.length:Nat):Int) (X.length:Int) rfl rfl rfl;simp only[List.append_assoc]at this ⊢;rw[this,ZaL];have h2:=ih P Y2 Y1 (X++Q) fu (by omega) (by omega) (by omega) (by omega) (by simp;omega) (by omega);simp only[List.append_assoc,hy]at h2;exact h2
theorem ZGU(P X Y Q:Ins)(h2:0<X.length)(h3:0<Y.length)(hb:P.length+X.length+Y.length+Q.length<=900000)(a m b:Int)(ha:a=(P.length:Int))(hm:m=((P.length+X.length:Nat):Int))(gR:b=((P.length+X.length+Y.length:Nat):Int)) :
  Zct (P++(X++(Y++Q))) a m b K.c K.b K.s=some (P++(Y++(X++Q))):=by
 subst ha hm gR;unfold Zct;have e1:ZaQ ((P.length+X.length:Nat):Int) (P.length:Int)=(X.length:Int):=by rw[Zes (by omega) (by omega)];omega
 have e2:ZaQ ((P.length+X.length+Y.length:Nat):Int) ((P.length+X.length:Nat):Int)=(Y.length:Int):=by rw[Zes (by omega) (by omega)];omega
 rw[e1,e2];exact ZDs _ (X.length+Y.length) P X Y Q 1000000 (Nat.le_refl _) h2 h3 rfl (by omega) (by omega)
theorem ZzP{x y z:Int}(h1:ltJ K z x=true)(h2:ltJ K y x=false):ltJ K z y=true:=by
 cases h:ltJ K z y with
 |true=>rfl
 |false=>rw[ZlW h h2]at h1;cases h1
def mrgJ(K:Cx):Ins->Ins->Ins | [],ys=>ys|x :: xs,[]=>x :: xs|x :: xs,y :: ys=>if ltJ K y x=true then y :: mrgJ K (x :: xs) ys else x :: mrgJ K xs (y :: ys)
termination_by xs ys=>xs.length+ys.length
theorem Zha(xs:Ins):mrgJ K xs []=xs:=by cases xs<;>simp[mrgJ]
theorem Zet(xs:Ins):mrgJ K [] xs=xs:=by simp[mrgJ]
theorem Zhu{x y:Int}(xs ys:Ins)(h:ltJ K y x=true):mrgJ K (x :: xs) (y :: ys)=y :: mrgJ K (x :: xs) ys:=by rw[mrgJ,if_pos h]
theorem Zid{x y:Int}(xs ys:Ins)(h:ltJ K y x=false):mrgJ K (x :: xs) (y :: ys)=x :: mrgJ K xs (y :: ys):=by rw[mrgJ,if_neg (by simp[h])]
theorem ZCr:∀(n:Nat)(a b c:Ins),a.length+b.length+c.length<=n->mrgJ K (mrgJ K a b) c=mrgJ K a (mrgJ K b c):=by
 intro n;induction n with
 |zero=>
  intro a b c h;obtain rfl:=List.eq_nil_of_length_eq_zero (show a.length=0 by omega);rw[Zet,Zet]
 |succ n ih=>
  intro a b c h;cases a with
  |nil=>rw[Zet,Zet]
  |cons x a=>
   cases b with
   |nil=>rw[Zha,Zet]
   |cons y b=>
    cases c with
    |nil=>rw[Zha,Zha]
    |cons z c=>
     simp only[List.length_cons]at h;cases h1:ltJ K y x with
     |true=>
      rw[Zhu _ _ h1];cases h2:ltJ K z y with
      |true=>
       rw[Zhu _ _ h2,Zhu _ _ h2,Zhu _ _ (Zyj h2 h1),<-Zhu a b h1,ih (x :: a) (y :: b) c (by simp only[List.length_cons];omega)]
      |false=>
       rw[Zid _ _ h2,Zid _ _ h2,Zhu _ _ h1,ih (x :: a) b (z :: c) (by simp only[List.length_cons];omega)]
     |false=>
      rw[Zid _ _ h1];cases h3:ltJ K z x with
      |true=>
       have h2:=ZzP h3 h1;rw[Zhu _ _ h3,Zhu _ _ h2,Zhu _ _ h3,<-Zid a b h1,ih (x :: a) (y :: b) c (by simp only[List.length_cons];omega)]
      |false=>
       rw[Zid _ _ h3,ih a (y :: b) (z :: c) (by simp only[List.length_cons];omega)];cases h2:ltJ K z y with
       |true=>rw[Zhu _ _ h2,Zid _ _ h3]
       |false=>rw[Zid _ _ h2,Zid _ _ h1]
theorem Znt:∀(n:Nat)(x1 x2 y1 y2:Ins),x1.length+y1.length<=n->(∀y∈y1,∀x∈x2,ltJ K y x=true)->(∀x∈x1,∀y∈y2,ltJ K y x=false)->mrgJ K (x1++x2) (y1++y2)=mrgJ K x1 y1++mrgJ K x2 y2:=by
 intro n;induction n with
 |zero=>
  intro x1 x2 y1 y2 h _ _;obtain rfl:=List.eq_nil_of_length_eq_zero (show x1.length=0 by omega);obtain rfl:=List.eq_nil_of_length_eq_zero (show y1.length=0 by omega);simp[Zet]
 |succ n ih=>
  intro x1 x2 y1 y2 h h1 h2;cases x1 with
  |nil=>
   cases y1 with
   |nil=>simp[Zet]
   |cons y y1=>
    cases x2 with
    |nil=>simp[Zet]
    |cons x x2=>
     simp only[List.length_cons,List.length_nil]at h;rw[List.nil_append,List.cons_append,Zhu _ _ (h1 y (by simp) x (by simp)),Zet];have:=ih [] (x :: x2) y1 y2 (by simp only[List.length_nil];omega) (fun y' ii=>h1 y' (by simp[ii])) (by simp);rw[List.nil_append,Zet]at this;rw[this];rfl
  |cons x x1=>
   cases y1 with
   |nil=>
    cases y2 with
    |nil=>simp[Zha]
    |cons y y2=>
     simp only[List.length_cons,List.length_nil]at h;rw[List.nil_append,List.cons_append,Zid _ _ (h2 x (by simp) y (by simp)),Zha];have:=ih x1 x2 [] (y :: y2) (by simp only[List.length_nil];omega) (by simp) (fun x' ij=>h2 x' (by simp[ij]));rw[List.nil_append,Zha]at this;rw[this];rfl
   |cons y y1=>
    simp only[List.length_cons]at h;rw[List.cons_append,List.cons_append];cases h3:ltJ K y x with
    |true=>
     rw[Zhu _ _ h3,Zhu _ _ h3,<-List.cons_append,ih (x :: x1) x2 y1 y2 (by simp only[List.length_cons];omega) (fun y' ii=>h1 y' (by simp[ii])) h2];rfl
    |false=>
     have:=ih x1 x2 (y :: y1) y2 (by simp only[List.length_cons];omega) h1 (fun x' ij=>h2 x' (by simp[ij]));rw[List.cons_append]at this;rw[Zid _ _ h3,Zid _ _ h3,this];rfl
theorem ZBk:∀(n:Nat)(a b:Ins),a.length+b.length<=n->(mrgJ K a b).length=a.length+b.length:=by
 intro n;induction n with
 |zero=>
  intro a b h;obtain rfl:=List.eq_nil_of_length_eq_zero (show a.length=0 by omega);simp[Zet]
 |succ n ih=>
  intro a b h;cases a with
  |nil=>simp[Zet]
  |cons x a=>
   cases b with
   |nil=>simp[Zha]
   |cons y b=>
    simp only[List.length_cons]at h ⊢;cases h3:ltJ K y x with
    |true=>rw[Zhu _ _ h3,List.length_cons,ih _ _ (by simp only[List.length_cons];omega)];simp only[List.length_cons];omega
    |false=>rw[Zid _ _ h3,List.length_cons,ih _ _ (by simp only[List.length_cons];omega)];simp only[List.length_cons];omega
theorem ZsT:∀(n:Nat)(a b:Ins),a.length+b.length<=n->∀z∈mrgJ K a b,z∈a\/z∈b:=by
 intro n;induction n with
 |zero=>
  intro a b h z hz;obtain rfl:=List.eq_nil_of_length_eq_zero (show a.length=0 by omega);rw[Zet]at hz;exact .inr hz
 |succ n ih=>
  intro a b h z hz;cases a with
  |nil=>rw[Zet]at hz;exact .inr hz
  |cons x a=>
   cases b with
   |nil=>rw[Zha]at hz;exact .inl hz
   |cons y b=>
    simp only[List.length_cons]at h;cases h3:ltJ K y x with
    |true=>
     rw[Zhu _ _ h3]at hz;rcases List.mem_cons.1 hz with hz|hz
     .exact .inr (by simp[hz])
     .rcases ih _ _ (by simp only[List.length_cons];omega) z hz with q|q
      .exact .inl q
      .exact .inr (by simp[q])
    |false=>
     rw[Zid _ _ h3]at hz;rcases List.mem_cons.1 hz with hz|hz
     .exact .inl (by simp[hz])
     .rcases ih _ _ (by simp only[List.length_cons];omega) z hz with q|q
      .exact .inl (by simp[q])
      .exact .inr q
def aZ(K:Cx)(l:Ins):Prop:=l.Pairwise fun x y=>ltJ K y x=false
theorem ZFO:∀(n:Nat)(a b:Ins),a.length+b.length<=n->aZ K a->aZ K b->aZ K (mrgJ K a b):=by
 intro n;induction n with
 |zero=>
  intro a b h ha hb;obtain rfl:=List.eq_nil_of_length_eq_zero (show a.length=0 by omega);rw[Zet];exact hb
 |succ n ih=>
  intro a b h ha hb;cases a with
  |nil=>rw[Zet];exact hb
  |cons x a=>
   cases b with
   |nil=>rw[Zha];exact ha
   |cons y b=>
    simp only[List.length_cons]at h;have ck:=List.pairwise_cons.1 ha;have aC:=List.pairwise_cons.1 hb;cases h3:ltJ K y x with
    |true=>
     rw[Zhu _ _ h3];refine List.pairwise_cons.2 ⟨fun z hz=>?_,ih _ _ (by simp only[List.length_cons];omega) ha aC.2⟩;rcases ZsT _ _ _ (Nat.le_refl _) z hz with q|q
     .have:ltJ K x y=false:=ZFQ h3;rcases List.mem_cons.1 q with q|q
      .rw[q];exact this
      .exact ZlW (ck.1 z q) this
     .exact aC.1 z q
    |false=>
     rw[Zid _ _ h3];refine List.pairwise_cons.2 ⟨fun z hz=>?_,ih _ _ (by simp only[List.length_cons];omega) ck.2 hb⟩;rcases ZsT _ _ _ (Nat.le_refl _) z hz with q|q
     .exact ck.1 z q
     .rcases List.mem_cons.1 q with q|q
      .rw[q];exact h3
      .exact ZlW (aC.1 z q) h3
def ZbW(K:Cx)(l:Ins):Ins:=l.foldl (fun o x=>mrgJ K o [x]) []
theorem Zhh(l:Ins)(x:Int):ZbW K (l++[x])=mrgJ K (ZbW K l) [x]:=by unfold ZbW;rw[List.foldl_append];rfl
theorem Zri(xs ys:Ins):ZbW K (xs++ys)=mrgJ K (ZbW K xs) (ZbW K ys):=by
 have:∀n,n<=ys.length->ZbW K (xs++ys.take n)=mrgJ K (ZbW K xs) (ZbW K (ys.take n)):=by
  intro n;induction n with
  |zero=>intro _;simp[ZbW,Zha]
  |succ n ih=>
   intro h;rw[List.take_succ_eq_append_getElem (show n<ys.length by omega),<-List.append_assoc,Zhh,Zhh,ih (by omega),ZCr _ _ _ _ (Nat.le_refl _)]
 have h:=this ys.length (Nat.le_refl _);rwa [List.take_length]at h
theorem Zgw(l:Ins):(ZbW K l).length=l.length:=by
 have:∀n,n<=l.length->(ZbW K (l.take n)).length=n:=by
  intro n;induction n with
  |zero=>intro _;simp[ZbW]
  |succ n ih=>
   intro h;rw[List.take_succ_eq_append_getElem (show n<l.length by omega),Zhh,ZBk _ _ _ (Nat.le_refl _),ih (by omega)];rfl
 have h:=this l.length (Nat.le_refl _);rwa [List.take_length]at h
theorem Zpf{l:Ins}(h:Rg K l):Rg K (ZbW K l):=by
 have:∀n,n<=l.length->Rg K (ZbW K (l.take n)):=by
  intro n;induction n with
  |zero=>intro _;simp[ZbW,Rg]
  |succ n ih=>
   intro hn;rw[List.take_succ_eq_append_getElem (show n<l.length by omega),Zhh];intro x hx;rcases ZsT _ _ _ (Nat.le_refl _) x hx with q|q
   .exact ih (by omega) x q
   .rw[List.mem_singleton.1 q];exact h _ (List.getElem_mem _)
 have h2:=this l.length (Nat.le_refl _);rwa [List.take_length]at h2
theorem Znx(l:Ins):aZ K (ZbW K l):=by
 have:∀n,n<=l.length->aZ K (ZbW K (l.take n)):=by
  intro n;induction n with
  |zero=>intro _;simp[ZbW,aZ]
  |succ n ih=>
   intro h;rw[List.take_succ_eq_append_getElem (show n<l.length by omega),Zhh];exact ZFO _ _ _ (Nat.le_refl _) (ih (by omega)) (by simp[aZ])
 have h:=this l.length (Nat.le_refl _);rwa [List.take_length]at h
theorem ZwG{o1 o2:Ins}{x:Int}(h1:∀y∈o1,ltJ K x y=false)(h2:∀y∈o2,ltJ K x y=true):mrgJ K (o1++o2) [x]=o1++x :: o2:=by
 have a:=Znt _ o1 o2 [x] [] (Nat.le_refl _) (fun y hy z hz=>by rw[List.mem_singleton.1 hy];exact h2 z hz) (by simp);have b:=Znt _ o1 [] [] [x] (Nat.le_refl _) (by simp) (fun z hz y hy=>by rw[List.mem_singleton.1 hy];exact h1 z hz);simp only[List.append_nil,List.nil_append,Zha,Zet]at a b;rw[a,b];simp
theorem ZFL{o1 o2:Ins}{x:Int}(h1:∀y∈o1,ltJ K y x=true)(h2:∀y∈o2,ltJ K y x=false):mrgJ K [x] (o1++o2)=o1++x :: o2:=by
 have a:=Znt _ [] [x] o1 o2 (Nat.le_refl _) (fun y hy z hz=>by rw[List.mem_singleton.1 hz];exact h1 y hy) (by simp);have b:=Znt _ [x] [] [] o2 (Nat.le_refl _) (by simp) (fun z hz y hy=>by rw[List.mem_singleton.1 hz];exact h2 y hy);simp only[List.append_nil,List.nil_append,Zha,Zet]at a b;rw[a,b];simp
theorem ZGR{α:Type}:∀(l:List α),l.length≠0->∃T s,l=T++[s]
 | [x],_=>⟨[],x,rfl⟩
 |x :: y :: l,_=>by
  obtain⟨T,s,h⟩:=ZGR (y :: l) (by simp)
  exact⟨x :: T,s,by rw[h];rfl⟩
theorem ZDi{K:Cx}{T:Ins}{s x:Int}(h:aZ K (T++[s]))(hx:ltJ K x s=false):∀y∈T++[s],ltJ K x y=false:=by
 intro y hy;rcases List.mem_append.1 hy with q|q
 .exact ZlW hx ((List.pairwise_append.1 h).2.2 y q s (by simp))
 .rw[List.mem_singleton.1 q];exact hx
theorem ZCw{K:Cx}(P:Ins)(x:Int)(hx:InR K x)(R:Ins)(a2 v8:Int)(k:Int->Ins->Option Ins):∀(n:Nat)(S1 S2:Ins)(fu:Nat),S1.length=n->aZ K S1->Rg K S1->(∀y∈S2,ltJ K x y=true)->n+1<=fu->P.length+S1.length+S2.length+R.length<=900000 ->
  Zbc (P.length:Int) a2 K.c K.b K.s v8 k fu ((P.length+n:Nat):Int) (P++(S1++(x :: (S2++R))))=k (Zar v8 1) (P++(mrgJ K (S1++S2) [x]++R)):=by
 intro n;induction n with
 |zero=>
  intro S1 S2 fu h1 hs hr h2 hf hb;obtain⟨fu,rfl⟩ : ∃x,fu=x+1:=⟨fu-1,by omega⟩;obtain rfl:=List.eq_nil_of_length_eq_zero h1;unfold Zbc;rw[Zai,if_neg (by omega),ZwG (o1:=[]) (by simp) h2];simp
 |succ n ih=>
  intro S1 S2 fu h1 hs hr h2 hf hb;obtain⟨fu,rfl⟩ : ∃x,fu=x+1:=⟨fu-1,by omega⟩;obtain⟨T,s,rfl⟩:=ZGR S1 (by omega);have hT:T.length=n:=by simpa using h1
  have e1:ZaQ ((P.length+(n+1):Nat):Int) 1=((P.length+n:Nat):Int):=by rw[Zes (by omega) (by omega)];omega
  have hl:(P++(T++[s]++(x :: (S2++R)))).length=P.length+(n+1)+1+S2.length+R.length:=by simp;omega
  unfold Zbc;rw[Zai,if_pos (by omega),e1,Zax (by rw[hl];omega),Zax (by rw[hl];omega)];simp only[Int.toNat_natCast];have g1:(P++(T++[s]++(x :: (S2++R)))).getD (P.length+(n+1)) 0=x:=ZmX (L:=P++(T++[s])) (R:=S2++R) (by simp) (by simp;omega);have g2:(P++(T++[s]++(x :: (S2++R)))).getD (P.length+n) 0=s:=ZmX (L:=P++T) (R:=x :: (S2++R)) (by simp) (by simp;omega);rw[g1,g2,Ztc hx (hr s (by simp)),ZaL,Zai];by_cases hc:cmpJ K x s<0
  .have eq:ltJ K x s=true:=ZtP.2 hc;have s1:(P++(T++[s]++(x :: (S2++R)))).set (P.length+(n+1)) s=P++(T++(s :: (s :: (S2++R)))):=by
    rw[ZoW (L:=P++(T++[s])) (x:=x) (R:=S2++R) (by simp) (by simp;omega)];simp
   have s2:(P++(T++(s :: (s :: (S2++R))))).set (P.length+n) x=P++(T++(x :: (s :: S2++R))):=by
    rw[ZoW (L:=P++T) (x:=s) (R:=s :: (S2++R)) (by simp) (by simp;omega)];simp
   rw[if_pos hc,s1,s2];have:=ih T (s :: S2) fu hT (List.pairwise_append.1 hs).1 (fun y hy=>hr y (by simp[hy])) (fun y hy=>by
    rcases List.mem_cons.1 hy with q|q
    .rw[q];exact eq
    .exact h2 y q) (by omega) (by simp only[List.length_append,List.length_singleton,List.length_cons]at hb ⊢;omega)
   rw[this];simp
  .rw[if_neg hc,ZwG (ZDi hs (ZvK.2 hc)) h2];simp
theorem ZDY{K:Cx}(P L Q:Ins)(hR:Rg K L)(hb:P.length+L.length+Q.length<=900000)(a b:Int)(ha:a=(P.length:Int))(gR:b=((P.length+L.length:Nat):Int)) :
  ZbR (P++(L++Q)) a b K.c K.b K.s=some (P++(ZbW K L++Q)):=by
 subst ha gR;have e0:Zar (P.length:Int) 1=((P.length+1:Nat):Int):=by rw[Zdg (by omega) (by omega)];omega
 unfold ZbR;rw[e0];cases hL:L with
 |nil=>
  unfold ZaJ;rw[Zai,if_neg (by simp;omega)];simp[ZbW]
 |cons z Z=>
  rw[<-hL];have eP:1<=L.length:=by rw[hL];simp
  have az:∀(j k fu:Nat),L.length-k=j->1<=k->k<=L.length->j+1<=fu->ZaJ (P.length:Int) ((P.length+L.length:Nat):Int) K.c K.b K.s fu ((P.length+k:Nat):Int) (P++(ZbW K (L.take k)++(L.drop k++Q)))=some (P++(ZbW K L++Q)):=by
   intro j;induction j with
   |zero=>
    intro k fu hj h1 hk hf;obtain⟨fu,rfl⟩ : ∃x,fu=x+1:=⟨fu-1,by omega⟩;unfold ZaJ;rw[Zai,if_neg (by omega),List.take_of_length_le (by omega),List.drop_eq_nil_of_le (by omega)];rfl
   |succ j ih=>
    intro k fu hj h1 hk hf;obtain⟨fu,rfl⟩ : ∃x,fu=x+1:=⟨fu-1,by omega⟩;unfold ZaJ;have il:=Zgw (K:=K) (L.take k);rw[List.length_take,Nat.min_eq_left hk]at il;have e1:Zar ((P.length+k:Nat):Int) 1=((P.length+(k+1):Nat):Int):=by rw[Zdg (by omega) (by omega)];omega
    rw[Zai,if_pos (by omega),Zjr L 0 k (by omega)];have:=ZCw (K:=K) P (L.getD k 0) (hR.get (by omega)) (L.drop (k+1)++Q) ((P.length+L.length:Nat):Int) ((P.length+k:Nat):Int) (ZaJ (P.length:Int) ((P.length+L.length:Nat):Int) K.c K.b K.s fu) k (ZbW K (L.take k)) [] ((((P.length+k:Nat):Int)-(P.length:Int)).toNat+2) il (Znx _) (Zpf (hR.take k)) (by simp) (by omega) (by simp[il];omega);simp only[List.nil_append,List.append_nil,List.cons_append]at this ⊢;rw[this,e1,<-Zhh,ZdM L _ k (by omega),<-List.take_succ_eq_append_getElem (by omega)];exact ih (k+1) fu (by omega) (by omega) (by omega) (by omega)
  have h1:ZbW K (L.take 1)=L.take 1:=by rw[hL];simp[ZbW,Zet]
  have:=az (L.length-1) 1 ((((P.length+L.length:Nat):Int)-((P.length+1:Nat):Int)).toNat+2) rfl (Nat.le_refl _) eP (by omega);rw[h1,<-List.append_assoc (L.take 1),List.take_append_drop]at this;exact this
theorem ZsY(i j:Nat)(h:i+j<=10000000):IntKind.wrap .i64 (Int.fdiv (IntKind.wrap .u64 (Zar (i:Int) (j:Int))) (2 ^ (min (1:Int).toNat (IntKind.bits .u64))))=(((i+j) / 2:Nat):Int):=by
 have e1:Zar (i:Int) (j:Int)=((i+j:Nat):Int):=by rw[Zdg (by omega) (by omega)];omega
 have e2:IntKind.wrap .u64 ((i+j:Nat):Int)=((i+j:Nat):Int):=by
  simp only[IntKind.wrap,IntKind.bits,IntKind.signed];simp;omega
 have e3:(2:Int) ^ (min (1:Int).toNat (IntKind.bits .u64))=2:=rfl;rw[e1,e2,e3,Int.fdiv_eq_ediv_of_nonneg _ (by omega),ZkI (by omega) (by omega)];omega
theorem ZBl{K:Cx}{x y z:Int}(h1:ltJ K z x=true)(h2:ltJ K z y=false):ltJ K y x=true:=by
 cases h:ltJ K y x with
 |true=>rfl
 |false=>rw[ZlW h2 h]at h1;cases h1
theorem ZkQ{K:Cx}{Y:Ins}(h:aZ K Y){i j:Nat}(hi:i<=j)(hj:j<Y.length):ltJ K (Y.getD j 0) (Y.getD i 0)=false:=by
 by_cases e:i=j
 .rw[e];exact ZDR _
 .rw[ZdM Y _ j hj,ZdM Y _ i (by omega)];exact List.pairwise_iff_getElem.1 h i j (by omega) hj (by omega)
theorem ZqQ{Y:Ins}{k:Nat}{y:Int}(h:y∈Y.take k):∃i,i<k/\i<Y.length/\y=Y.getD i 0:=by
 obtain⟨i,hi,rfl⟩:=List.getElem_of_mem h;rw[List.length_take]at hi;exact⟨i,by omega,by omega,by rw[ZdM Y _ i (by omega),List.getElem_take]⟩
theorem ZrG{Y:Ins}{k:Nat}{y:Int}(h:y∈Y.drop k):∃i,k<=i/\i<Y.length/\y=Y.getD i 0:=by
 obtain⟨i,hi,rfl⟩:=List.getElem_of_mem h;rw[List.length_drop]at hi;exact⟨k+i,by omega,by omega,by rw[ZdM Y _ (k+i) (by omega),List.getElem_drop]⟩
theorem ZwR{P Y Q:Ins}{i k:Nat}(hk:k=P.length+i)(hi:i<Y.length):(P++(Y++Q)).getD k 0=Y.getD i 0:=by
 have:=Zjr Y 0 i hi;have e:P++(Y++Q)=(P++Y.take i)++Y.getD i 0 :: (Y.drop (i+1)++Q):=by
  rw[List.append_assoc,<-List.cons_append,<-this,<-List.append_assoc (Y.take i),List.take_append_drop]
 exact ZmX e (by simp;omega)
theorem mv1J{K:Cx}(P R:Ins)(x jM:Int)(k:Int->Int->Ins->Option Ins):∀(Y2 Y1:Ins)(fu:Nat),Y2.length+1<=fu->P.length+Y1.length+Y2.length+R.length<=900000 ->
  Zbu (P.length:Int) K.c K.b K.s ((P.length+Y1.length+Y2.length+1:Nat):Int) jM k fu ((P.length+Y1.length:Nat):Int) (P++(Y1++(x :: (Y2++R))))=some (P++(Y1++(Y2++(x :: R)))):=by
 intro Y2;induction Y2 with
 |nil=>
  intro Y1 fu hf hb;obtain⟨fu,rfl⟩ : ∃x,fu=x+1:=⟨fu-1,by omega⟩;unfold Zbu;simp only[List.length_nil,Nat.add_zero];rw[Zai,if_neg (by rw[Zes (by omega) (by omega)];omega)];rfl
 |cons y Y2 ih=>
  intro Y1 fu hf hb;obtain⟨fu,rfl⟩ : ∃x,fu=x+1:=⟨fu-1,by omega⟩;simp only[List.length_cons]at hf hb ⊢;have e1:Zar ((P.length+Y1.length:Nat):Int) 1=((P.length+Y1.length+1:Nat):Int):=by rw[Zdg (by omega) (by omega)];omega
  have hl:(P++(Y1++(x :: (y :: Y2++R)))).length=P.length+Y1.length+Y2.length+R.length+2:=by simp;omega
  unfold Zbu;rw[Zai,if_pos (by rw[Zes (by omega) (by omega)];omega),e1,Zax (by rw[hl];omega),Zax (by rw[hl];omega)];simp only[Int.toNat_natCast];have g1:(P++(Y1++(x :: (y :: Y2++R)))).getD (P.length+Y1.length+1) 0=y:=ZmX (L:=P++(Y1++[x])) (R:=Y2++R) (by simp) (by simp;omega);have g2:(P++(Y1++(x :: (y :: Y2++R)))).getD (P.length+Y1.length) 0=x:=ZmX (L:=P++Y1) (R:=y :: (Y2++R)) (by simp) (by simp);have s1:(P++(Y1++(x :: (y :: Y2++R)))).set (P.length+Y1.length) y=P++(Y1++(y :: (y :: Y2++R))):=by
   rw[ZoW (L:=P++Y1) (x:=x) (R:=y :: (Y2++R)) (by simp) (by simp)];simp
  have s2:(P++(Y1++(y :: (y :: Y2++R)))).set (P.length+Y1.length+1) x=P++(Y1++(y :: (x :: (Y2++R)))):=by
   rw[ZoW (L:=P++(Y1++[y])) (x:=y) (R:=Y2++R) (by simp) (by simp;omega)];simp
  rw[g1,g2,s1,s2];have:=ih (Y1++[y]) fu (by omega) (by simp only[List.length_append,List.length_singleton];omega);simp only[List.length_append,List.length_singleton,List.append_assoc,List.singleton_append]at this;have x1:P.length+(Y1.length+1)+Y2.length+1=P.length+Y1.length+(Y2.length+1)+1:=by omega
  have x2:P.length+(Y1.length+1)=P.length+Y1.length+1:=by omega
  rw[x1,x2]at this;exact this
theorem bs1J{K:Cx}(P Y Q:Ins)(x:Int)(hs:aZ K Y)(hxR:InR K x)(hR:Rg K Y)(hb:P.length+Y.length+Q.length<=800000):∀(s lo hi fu:Nat),hi-lo<=s->lo<=hi->hi<=Y.length->s+1<=fu->(∀y∈Y.take lo,ltJ K y x=true)->(∀y∈Y.drop hi,ltJ K y x=false) ->
  ZaI (P.length:Int) K.c K.b K.s fu ((P.length+1+lo:Nat):Int) ((P.length+1+hi:Nat):Int) (P++(x :: (Y++Q)))=some (P++(mrgJ K [x] Y++Q)):=by
 intro s;have cj:∀(lo hi fu:Nat),lo=hi->hi<=Y.length->(∀y∈Y.take lo,ltJ K y x=true)->(∀y∈Y.drop hi,ltJ K y x=false) ->
   ZaI (P.length:Int) K.c K.b K.s (fu+1) ((P.length+1+lo:Nat):Int) ((P.length+1+hi:Nat):Int) (P++(x :: (Y++Q)))=some (P++(mrgJ K [x] Y++Q)):=by
  intro lo hi fu e hh h1 h2;subst e;unfold ZaI;rw[Zai,if_neg (by omega)];have ho:=ZFL h1 h2;rw[List.take_append_drop]at ho;have:=mv1J (K:=K) P (Y.drop lo++Q) x ((P.length+1+lo:Nat):Int) (ZaI (P.length:Int) K.c K.b K.s fu) (Y.take lo) [] 1000000 (by simp;omega) (by simp;omega);simp only[List.length_take,Nat.min_eq_left hh,List.length_nil,Nat.add_zero,List.nil_append]at this;rw[<-List.append_assoc (Y.take lo),List.take_append_drop,show P.length+lo+1=P.length+1+lo by omega]at this;rw[this,ho];simp
 induction s with
 |zero=>
  intro lo hi fu h0 h1 h2 hf h3 h4;obtain⟨fu,rfl⟩ : ∃x,fu=x+1:=⟨fu-1,by omega⟩;exact cj lo hi fu (by omega) h2 h3 h4
 |succ s ih=>
  intro lo hi fu h0 h1 h2 hf h3 h4;obtain⟨fu,rfl⟩ : ∃x,fu=x+1:=⟨fu-1,by omega⟩;by_cases e:lo=hi
  .exact cj lo hi fu e h2 h3 h4
  .have hm:(P.length+1+lo+(P.length+1+hi)) / 2=P.length+1+(lo+hi) / 2:=by omega
   have ht:(lo+hi) / 2<Y.length:=by omega
   have hl:(P++(x :: (Y++Q))).length=P.length+1+Y.length+Q.length:=by simp;omega
   unfold ZaI;rw[Zai,if_pos (by omega),ZsY _ _ (by omega),hm,Zax (by rw[hl];omega),Zax (by rw[hl];omega)];simp only[Int.toNat_natCast];have g1:(P++(x :: (Y++Q))).getD (P.length+1+(lo+hi) / 2) 0=Y.getD ((lo+hi) / 2) 0:=by
    have:=ZwR (P:=P++[x]) (Y:=Y) (Q:=Q) (i:=(lo+hi) / 2) (k:=P.length+1+(lo+hi) / 2) (by simp) ht;simpa using this
   rw[g1,ZBu,Ztc (hR.get ht) hxR,ZaL,Zai];have e1:Zar ((P.length+1+(lo+hi) / 2:Nat):Int) 1=((P.length+1+((lo+hi) / 2+1):Nat):Int):=by rw[Zdg (by omega) (by omega)];omega
   by_cases hc:cmpJ K (Y.getD ((lo+hi) / 2) 0) x<0
   .rw[if_pos hc,e1];refine ih _ _ fu (by omega) (by omega) h2 (by omega) (fun y hy=>?_) h4;obtain⟨i,i1,i2,rfl⟩:=ZqQ hy;exact ZBl (ZtP.2 hc) (ZkQ hs (by omega) ht)
   .rw[if_neg hc];refine ih _ _ fu (by omega) (by omega) (by omega) (by omega) h3 (fun y hy=>?_);obtain⟨i,i1,i2,rfl⟩:=ZrG hy;exact ZlW (ZkQ hs i1 i2) (ZvK.2 hc)
theorem mv2J{K:Cx}(P Q:Ins)(y a2 v15:Int)(k:Int->Int->Ins->Option Ins):∀(n:Nat)(T U:Ins)(fu:Nat),T.length=n->n+1<=fu->P.length+T.length+U.length+Q.length<=900000 ->
  Zbt a2 K.c K.b K.s (P.length:Int) v15 k fu ((P.length+n:Nat):Int) (P++(T++(y :: (U++Q))))=some (P++(y :: (T++(U++Q)))):=by
 intro n;induction n with
 |zero=>
  intro T U fu h1 hf hb;obtain⟨fu,rfl⟩ : ∃x,fu=x+1:=⟨fu-1,by omega⟩;obtain rfl:=List.eq_nil_of_length_eq_zero h1;unfold Zbt;rw[Zai,if_neg (by omega)];rfl
 |succ n ih=>
  intro T U fu h1 hf hb;obtain⟨fu,rfl⟩ : ∃x,fu=x+1:=⟨fu-1,by omega⟩;obtain⟨T,s,rfl⟩:=ZGR T (by omega);have hT:T.length=n:=by simpa using h1
  simp only[List.length_append,List.length_singleton]at hb;have e1:ZaQ ((P.length+(n+1):Nat):Int) 1=((P.length+n:Nat):Int):=by rw[Zes (by omega) (by omega)];omega
  have hl:(P++(T++[s]++(y :: (U++Q)))).length=P.length+(n+1)+1+U.length+Q.length:=by simp;omega
  unfold Zbt;rw[Zai,if_pos (by omega),e1,Zax (by rw[hl];omega),Zax (by rw[hl];omega)];simp only[Int.toNat_natCast];have g1:(P++(T++[s]++(y :: (U++Q)))).getD (P.length+(n+1)) 0=y:=ZmX (L:=P++(T++[s])) (R:=U++Q) (by simp) (by simp;omega);have g2:(P++(T++[s]++(y :: (U++Q)))).getD (P.length+n) 0=s:=ZmX (L:=P++T) (R:=y :: (U++Q)) (by simp) (by simp;omega);have s1:(P++(T++[s]++(y :: (U++Q)))).set (P.length+(n+1)) s=P++(T++(s :: (s :: (U++Q)))):=by
   rw[ZoW (L:=P++(T++[s])) (x:=y) (R:=U++Q) (by simp) (by simp;omega)];simp
  have s2:(P++(T++(s :: (s :: (U++Q))))).set (P.length+n) y=P++(T++(y :: (s :: U++Q))):=by
   rw[ZoW (L:=P++T) (x:=s) (R:=s :: (U++Q)) (by simp) (by simp;omega)];simp
  rw[g1,g2,s1,s2,ih T (s :: U) fu hT (by omega) (by simp only[List.length_cons];omega)];simp
theorem bs2J{K:Cx}(P X Q:Ins)(y:Int)(hs:aZ K X)(hyR:InR K y)(hR:Rg K X)(hb:P.length+X.length+Q.length<=800000):∀(s lo hi fu:Nat),hi-lo<=s->lo<=hi->hi<=X.length->s+1<=fu->(∀x∈X.take lo,ltJ K y x=false)->(∀x∈X.drop hi,ltJ K y x=true) ->
  ZaH ((P.length+X.length:Nat):Int) K.c K.b K.s fu ((P.length+lo:Nat):Int) ((P.length+hi:Nat):Int) (P++(X++(y :: Q)))=some (P++(mrgJ K X [y]++Q)):=by
 intro s;have cj:∀(lo hi fu:Nat),lo=hi->hi<=X.length->(∀x∈X.take lo,ltJ K y x=false)->(∀x∈X.drop hi,ltJ K y x=true) ->
   ZaH ((P.length+X.length:Nat):Int) K.c K.b K.s (fu+1) ((P.length+lo:Nat):Int) ((P.length+hi:Nat):Int) (P++(X++(y :: Q)))=some (P++(mrgJ K X [y]++Q)):=by
  intro lo hi fu e hh h1 h2;subst e;unfold ZaH;rw[Zai,if_neg (by omega)];have ho:=ZwG h1 h2;rw[List.take_append_drop]at ho;have:=mv2J (K:=K) (P++X.take lo) Q y ((P.length+X.length:Nat):Int) ((P.length+lo:Nat):Int) (ZaH ((P.length+X.length:Nat):Int) K.c K.b K.s fu) (X.length-lo) (X.drop lo) [] ((((P.length+X.length:Nat):Int)-((P.length+lo:Nat):Int)).toNat+2) (by simp) (by omega) (by simp;omega);simp only[List.length_append,List.length_take,Nat.min_eq_left hh,List.nil_append,List.append_assoc]at this;rw[<-List.append_assoc (X.take lo) (X.drop lo),List.take_append_drop,show P.length+lo+(X.length-lo)=P.length+X.length by omega]at this;rw[this,ho];simp
 induction s with
 |zero=>
  intro lo hi fu h0 h1 h2 hf h3 h4;obtain⟨fu,rfl⟩ : ∃x,fu=x+1:=⟨fu-1,by omega⟩;exact cj lo hi fu (by omega) h2 h3 h4
 |succ s ih=>
  intro lo hi fu h0 h1 h2 hf h3 h4;obtain⟨fu,rfl⟩ : ∃x,fu=x+1:=⟨fu-1,by omega⟩;by_cases e:lo=hi
  .exact cj lo hi fu e h2 h3 h4
  .have hm:(P.length+lo+(P.length+hi)) / 2=P.length+(lo+hi) / 2:=by omega
   have ht:(lo+hi) / 2<X.length:=by omega
   have hl:(P++(X++(y :: Q))).length=P.length+X.length+1+Q.length:=by simp;omega
   unfold ZaH;rw[Zai,if_pos (by omega),ZsY _ _ (by omega),hm,Zax (by rw[hl];omega),Zax (by rw[hl];omega)];simp only[Int.toNat_natCast];have g1:(P++(X++(y :: Q))).getD (P.length+(lo+hi) / 2) 0=X.getD ((lo+hi) / 2) 0:=ZwR rfl ht;have g2:(P++(X++(y :: Q))).getD (P.length+X.length) 0=y:=ZmX (L:=P++X) (R:=Q) (by simp) (by simp);rw[g1,g2,Ztc hyR (hR.get ht),ZaL];have e1:Zar ((P.length+(lo+hi) / 2:Nat):Int) 1=((P.length+((lo+hi) / 2+1):Nat):Int):=by rw[Zdg (by omega) (by omega)];omega
   by_cases hc:cmpJ K y (X.getD ((lo+hi) / 2) 0)<0
   .rw[decide_eq_true hc,Bool.not_true,cond_false];refine ih _ _ fu (by omega) (by omega) (by omega) (by omega) h3 (fun x hx=>?_);obtain⟨i,i1,i2,rfl⟩:=ZrG hx;exact ZzP (ZtP.2 hc) (ZkQ hs i1 i2)
   .rw[decide_eq_false hc,Bool.not_false,cond_true,e1];refine ih _ _ fu (by omega) (by omega) h2 (by omega) (fun x hx=>?_) h4;obtain⟨i,i1,i2,rfl⟩:=ZqQ hx;exact ZlW (ZvK.2 hc) (ZkQ hs (by omega) ht)
def ib(K:Cx)(gr:Ins->Int->Int->Int->List Zaa->Int->Int->Option Ins)(N:Nat):Prop:=∀(P X Y Q:Ins),0<X.length->0<Y.length->aZ K X->aZ K Y->Rg K X->Rg K Y->X.length+Y.length<=N->P.length+X.length+Y.length+Q.length<=700000->gr (P++(X++(Y++Q))) (P.length:Int) ((P.length+X.length:Nat):Int) ((P.length+X.length+Y.length:Nat):Int) K.c K.b K.s=some (P++(mrgJ K X Y++Q))
theorem ZIe{K:Cx}{gr:Ins->Int->Int->Int->List Zaa->Int->Int->Option Ins}{N:Nat}(bG:ib K gr N)(P X Y Q:Ins)(hX:aZ K X)(hY:aZ K Y)(dP:Rg K X)(dQ:Rg K Y)(hN:X.length+Y.length<=N)(hb:P.length+X.length+Y.length+Q.length<=700000)(a1 a2 jv v20 fF v22:Int)(k:Int->Int->Int->Ins->Option Ins) :
  Zbs a1 a2 ((P.length+X.length+Y.length:Nat):Int) K.c K.b K.s gr (P.length:Int) jv v20 fF v22 ((P.length+X.length:Nat):Int) k (P++(X++(Y++Q)))=some (P++(mrgJ K X Y++Q)):=by
 unfold Zbs;rw[Zai,Zai];by_cases h1:X.length=0
 .rw[if_neg (by omega)];obtain rfl:=List.eq_nil_of_length_eq_zero h1;rw[Zet];rfl
 .rw[if_pos (by omega)];by_cases h2:Y.length=0
  .rw[if_neg (by omega)];obtain rfl:=List.eq_nil_of_length_eq_zero h2;rw[Zha];rfl
  .rw[if_pos (by omega),bG P X Y Q (by omega) (by omega) hX hY dP dQ hN hb];rfl
theorem ZIf{K:Cx}{gr:Ins->Int->Int->Int->List Zaa->Int->Int->Option Ins}{N:Nat}(bG:ib K gr N)(P X1 Y1 X2 Y2 Q:Ins)(hX1:aZ K X1)(hY1:aZ K Y1)(fi:aZ K X2)(fj:aZ K Y2)(hR1:Rg K X1)(hR2:Rg K Y1)(hR3:Rg K X2)(hR4:Rg K Y2)(hN1:X1.length+Y1.length<=N)(hN2:X2.length+Y2.length<=N)
  (hb:P.length+X1.length+Y1.length+X2.length+Y2.length+Q.length<=700000) (a2 jv fF v22:Int) (k:Int->Int->Int->Ins->Option Ins) :
  ZaZ (P.length:Int) a2 ((P.length+X1.length+Y1.length+X2.length+Y2.length:Nat):Int) K.c K.b K.s gr ((P.length+X1.length+Y1.length:Nat):Int) jv ((P.length+X1.length:Nat):Int) fF v22 k ((P.length+X1.length+Y1.length+X2.length:Nat):Int) (P++(X1++(Y1++(X2++(Y2++Q))))) =
   some (P++(mrgJ K X1 Y1++(mrgJ K X2 Y2++Q))):=by
 have hm:=ZBk (K:=K) _ X1 Y1 (Nat.le_refl _);have next:Zbs (P.length:Int) a2 ((P.length+X1.length+Y1.length+X2.length+Y2.length:Nat):Int) K.c K.b K.s gr ((P.length+X1.length+Y1.length:Nat):Int) jv ((P.length+X1.length:Nat):Int) fF v22 ((P.length+X1.length+Y1.length+X2.length:Nat):Int) k (P++(mrgJ K X1 Y1++(X2++(Y2++Q)))) =
   some (P++(mrgJ K X1 Y1++(mrgJ K X2 Y2++Q))):=by
  have:=ZIe bG (P++mrgJ K X1 Y1) X2 Y2 Q fi fj hR3 hR4 hN2 (by simp only[List.length_append,hm];omega) (P.length:Int) a2 jv ((P.length+X1.length:Nat):Int) fF v22 k;simp only[List.length_append,hm,List.append_assoc]at this;rw[show P.length+(X1.length+Y1.length)=P.length+X1.length+Y1.length by omega]at this;exact this
 unfold ZaZ;rw[Zai,Zai];by_cases h1:X1.length=0
 .rw[if_neg (by omega)];obtain rfl:=List.eq_nil_of_length_eq_zero h1;rw[Zet]at next ⊢
  exact next
 .rw[if_pos (by omega)];by_cases h2:Y1.length=0
  .rw[if_neg (by omega)];obtain rfl:=List.eq_nil_of_length_eq_zero h2;rw[Zha]at next ⊢
   exact next
  .rw[if_pos (by omega),bG P X1 Y1 (X2++(Y2++Q)) (by omega) (by omega) hX1 hY1 hR1 hR2 hN1 (by simp only[List.length_append];omega),ZaL];exact next
theorem aZ.take{K:Cx}{l:Ins}(h:aZ K l)(k:Nat):aZ K (l.take k):=List.Pairwise.sublist (List.take_sublist k l) h
theorem aZ.drop{K:Cx}{l:Ins}(h:aZ K l)(k:Nat):aZ K (l.drop k):=List.Pairwise.sublist (List.drop_sublist k l) h
section
variable {K:Cx} {gr:Ins->Int->Int->Int->List Zaa->Int->Int->Option Ins} {N:Nat} (bG:ib K gr N) (P X Y Q:Ins) (hX:aZ K X) (hY:aZ K Y) (dP:Rg K X) (dQ:Rg K Y) (fi:0 < X.length) (fj:0 < Y.length) (hN:X.length + Y.length<=N + 1) (hb:P.length + X.length + Y.length + Q.length<=700000)
 (mid s0 r0:Nat) (hmid:mid=(P.length+(P.length+X.length+Y.length)) / 2)
 (h0:(mid<P.length+X.length/\s0+(P.length+X.length+Y.length)=mid+(P.length+X.length)/\r0=mid)\/(P.length+X.length<=mid/\s0=P.length/\r0=P.length+X.length))
include bG hX hY dP dQ fi fj hN hb hmid h0
def Zrc(K:Cx)(P X Y:Ins)(mid c:Nat):Bool:=ltJ K (Y.getD (mid-1-c) 0) (X.getD (c-P.length) 0)
theorem ZHu(st:Nat)(h1:s0<=st)(h2:st<=r0)(jn:∀c,s0<=c->c<st->Zrc K P X Y mid c=false)(dy:∀c,st<=c->c<r0->Zrc K P X Y mid c=true)(fF v22:Int)(k:Int->Int->Int->Ins->Option Ins) :
  (bif(decide ((st:Int)<((P.length+X.length:Nat):Int)))then
    bif(decide (((P.length+X.length:Nat):Int)<(ZaQ ((mid+(P.length+X.length):Nat):Int) (st:Int))))then
     (Zct (P++(X++(Y++Q))) (st:Int) ((P.length+X.length:Nat):Int) (ZaQ ((mid+(P.length+X.length):Nat):Int) (st:Int)) K.c K.b K.s).bind fun x2=>
     ZaZ (P.length:Int) ((P.length+X.length:Nat):Int) ((P.length+X.length+Y.length:Nat):Int) K.c K.b K.s gr (mid:Int) ((mid+(P.length+X.length):Nat):Int) (st:Int) fF v22 k (ZaQ ((mid+(P.length+X.length):Nat):Int) (st:Int)) x2
    else
     ZaZ (P.length:Int) ((P.length+X.length:Nat):Int) ((P.length+X.length+Y.length:Nat):Int) K.c K.b K.s gr (mid:Int) ((mid+(P.length+X.length):Nat):Int) (st:Int) fF v22 k (ZaQ ((mid+(P.length+X.length):Nat):Int) (st:Int)) (P++(X++(Y++Q)))
   else
    ZaZ (P.length:Int) ((P.length+X.length:Nat):Int) ((P.length+X.length+Y.length:Nat):Int) K.c K.b K.s gr (mid:Int) ((mid+(P.length+X.length):Nat):Int) (st:Int) fF v22 k (ZaQ ((mid+(P.length+X.length):Nat):Int) (st:Int)) (P++(X++(Y++Q))))=some (P++(mrgJ K X Y++Q)):=by
 have ha:P.length<=st:=by omega
 have hmm:st<=mid:=by omega
 have bN:st-P.length<=X.length:=by omega
 have hk2:mid-st<=Y.length:=by omega
 obtain⟨k1,e1⟩ : ∃k1,st=P.length+k1:=⟨st-P.length,by omega⟩;obtain⟨k2,e2⟩ : ∃k2,mid=st+k2:=⟨mid-st,by omega⟩;have ee:ZaQ ((mid+(P.length+X.length):Nat):Int) (st:Int)=((P.length+X.length+k2:Nat):Int):=by rw[Zes (by omega) (by omega)];omega
 have hA:∀y∈Y.take k2,∀x∈X.drop k1,ltJ K y x=true:=by
  intro y hy x hx;obtain⟨i,i1,i2,rfl⟩:=ZqQ hy;obtain⟨j,j1,j2,rfl⟩:=ZrG hx;have h:=dy st (Nat.le_refl _) (by omega);unfold Zrc at h;rw[show mid-1-st=k2-1 by omega,show st-P.length=k1 by omega]at h;exact ZzP (ZBl h (ZkQ hY (by omega) (by omega))) (ZkQ hX j1 j2)
 have hB:∀x∈X.take k1,∀y∈Y.drop k2,ltJ K y x=false:=by
  intro x hx y hy;obtain⟨i,i1,i2,rfl⟩:=ZqQ hx;obtain⟨j,j1,j2,rfl⟩:=ZrG hy;have h:=jn (st-1) (by omega) (by omega);unfold Zrc at h;rw[show mid-1-(st-1)=k2 by omega,show st-1-P.length=k1-1 by omega]at h;exact ZlW (ZlW (ZkQ hY j1 j2) h) (ZkQ hX (by omega) (by omega))
 have hM:mrgJ K X Y=mrgJ K (X.take k1) (Y.take k2)++mrgJ K (X.drop k1) (Y.drop k2):=by
  have:=Znt (K:=K) _ (X.take k1) (X.drop k1) (Y.take k2) (Y.drop k2) (Nat.le_refl _) hA hB;rwa [List.take_append_drop,List.take_append_drop]at this
 have l1:(X.take k1).length=k1:=by simp;omega
 have l2:(Y.take k2).length=k2:=by simp;omega
 have l3:(X.drop k1).length=X.length-k1:=by simp
 have l4:(Y.drop k2).length=Y.length-k2:=by simp
 have last:=ZIf bG P (X.take k1) (Y.take k2) (X.drop k1) (Y.drop k2) Q (hX.take _) (hY.take _) (hX.drop _) (hY.drop _) (dP.take _) (dQ.take _) (dP.drop _) (dQ.drop _) (by omega) (by omega) (by omega) ((P.length+X.length:Nat):Int) ((mid+(P.length+X.length):Nat):Int) fF v22 k;rw[l1,l2,l3,l4,show P.length+k1+k2+(X.length-k1)+(Y.length-k2)=P.length+X.length+Y.length by omega,show P.length+k1+k2+(X.length-k1)=P.length+X.length+k2 by omega,show P.length+k1+k2=mid by omega,<-e1]at last;have hw:P++(X++(Y++Q))=P++X.take k1++(X.drop k1++(Y.take k2++(Y.drop k2++Q))):=by
  rw[<-List.append_assoc (Y.take k2),List.take_append_drop,List.append_assoc,<-List.append_assoc (X.take k1),List.take_append_drop]
 have hR:some (P++(mrgJ K (X.take k1) (Y.take k2)++(mrgJ K (X.drop k1) (Y.drop k2)++Q)))=some (P++(mrgJ K X Y++Q)):=by rw[hM,List.append_assoc]
 rw[hR]at last;rw[ee,Zai,Zai];by_cases q1:k1<X.length
 .rw[if_pos (by omega)];by_cases q2:0<k2
  .rw[if_pos (by omega),hw,ZGU (P++X.take k1) (X.drop k1) (Y.take k2) (Y.drop k2++Q) (by omega) (by omega) (by simp only[List.length_append];omega) _ _ _ (by simp only[List.length_append];omega) (by simp only[List.length_append];omega) (by simp only[List.length_append];omega),ZaL];simp only[List.append_assoc]at last ⊢;exact last
  .obtain rfl:k2=0:=by omega
   rw[if_neg (by omega),hw];simp only[List.append_assoc,List.take_zero,List.nil_append]at last ⊢;exact last
 .rw[if_neg (by omega),hw,show k1=X.length by omega];rw[show k1=X.length by omega]at last;simp only[List.append_assoc,List.drop_length,List.nil_append]at last ⊢;exact last
end
section
variable {K:Cx} {gr:Ins->Int->Int->Int->List Zaa->Int->Int->Option Ins} {N:Nat} (bG:ib K gr N) (P X Y Q:Ins) (hX:aZ K X) (hY:aZ K Y) (dP:Rg K X) (dQ:Rg K Y) (fi:0 < X.length) (fj:0 < Y.length) (hN:X.length + Y.length<=N + 1) (hb:P.length + X.length + Y.length + Q.length<=700000)
 (mid s0 r0:Nat) (hmid:mid=(P.length+(P.length+X.length+Y.length)) / 2)
 (h0:(mid<P.length+X.length/\s0+(P.length+X.length+Y.length)=mid+(P.length+X.length)/\r0=mid)\/(P.length+X.length<=mid/\s0=P.length/\r0=P.length+X.length))
include bG hX hY dP dQ fi fj hN hb hmid h0
omit bG hN hb dP dQ in
theorem ZvG{c c':Nat}(h1:s0<=c')(h2:c'<=c)(h3:c<r0)(h:Zrc K P X Y mid c=false):Zrc K P X Y mid c'=false:=by
 unfold Zrc at *
 exact ZlW (ZlW (ZkQ hY (by omega) (by omega)) h) (ZkQ hX (by omega) (by omega))
theorem ZBJ:∀(s lo hi fu:Nat),hi-lo<=s->s0<=lo->lo<=hi->hi<=r0->s+1<=fu->(∀c,s0<=c->c<lo->Zrc K P X Y mid c=false)->(∀c,hi<=c->c<r0->Zrc K P X Y mid c=true) ->
  ZaD (P.length:Int) ((P.length+X.length:Nat):Int) ((P.length+X.length+Y.length:Nat):Int) K.c K.b K.s gr (mid:Int) ((mid+(P.length+X.length):Nat):Int) fu (lo:Int) (hi:Int) ((mid+(P.length+X.length)-1:Nat):Int) (P++(X++(Y++Q)))=some (P++(mrgJ K X Y++Q)):=by
 intro s;have cj:∀(lo fu:Nat),s0<=lo->lo<=r0->(∀c,s0<=c->c<lo->Zrc K P X Y mid c=false)->(∀c,lo<=c->c<r0->Zrc K P X Y mid c=true) ->
   ZaD (P.length:Int) ((P.length+X.length:Nat):Int) ((P.length+X.length+Y.length:Nat):Int) K.c K.b K.s gr (mid:Int) ((mid+(P.length+X.length):Nat):Int) (fu+1) (lo:Int) (lo:Int) ((mid+(P.length+X.length)-1:Nat):Int) (P++(X++(Y++Q)))=some (P++(mrgJ K X Y++Q)):=by
  intro lo fu h1 h2 h3 h4;unfold ZaD;rw[Zai,if_neg (by omega)];exact ZHu bG P X Y Q hX hY dP dQ fi fj hN hb mid s0 r0 hmid h0 lo h1 h2 h3 h4 _ _ _
 induction s with
 |zero=>
  intro lo hi fu e1 e2 e3 e4 hf h1 h2;obtain⟨fu,rfl⟩ : ∃x,fu=x+1:=⟨fu-1,by omega⟩;obtain rfl:lo=hi:=by omega
  exact cj lo fu e2 e4 h1 h2
 |succ s ih=>
  intro lo hi fu e1 e2 e3 e4 hf h1 h2;obtain⟨fu,rfl⟩ : ∃x,fu=x+1:=⟨fu-1,by omega⟩;by_cases e:lo=hi
  .subst e;exact cj lo fu e2 e4 h1 h2
  .have t1:(lo+hi) / 2<r0:=by omega
   have t2:s0<=(lo+hi) / 2:=by omega
   have ep:ZaQ ((mid+(P.length+X.length)-1:Nat):Int) (((lo+hi) / 2:Nat):Int)=((P.length+X.length+(mid-1-(lo+hi) / 2):Nat):Int):=by rw[Zes (by omega) (by omega)];omega
   have hl:(P++(X++(Y++Q))).length=P.length+X.length+Y.length+Q.length:=by simp;omega
   have ld:Zar (((lo+hi) / 2:Nat):Int) 1=(((lo+hi) / 2+1:Nat):Int):=by rw[Zdg (by omega) (by omega)];omega
   unfold ZaD;rw[Zai,if_pos (by omega),ZsY _ _ (by omega),ep,Zax (by rw[hl];omega),Zax (by rw[hl];omega)];simp only[Int.toNat_natCast];have g1:(P++(X++(Y++Q))).getD (P.length+X.length+(mid-1-(lo+hi) / 2)) 0=Y.getD (mid-1-(lo+hi) / 2) 0:=by
    have:=ZwR (P:=P++X) (Y:=Y) (Q:=Q) (i:=mid-1-(lo+hi) / 2) (k:=P.length+X.length+(mid-1-(lo+hi) / 2)) (by simp) (by omega);simpa using this
   have g2:(P++(X++(Y++Q))).getD ((lo+hi) / 2) 0=X.getD ((lo+hi) / 2-P.length) 0:=ZwR (by omega) (by omega);rw[g1,g2,Ztc (dQ.get (by omega)) (dP.get (by omega)),ZaL,ld];by_cases hc:cmpJ K (Y.getD (mid-1-(lo+hi) / 2) 0) (X.getD ((lo+hi) / 2-P.length) 0)<0
   .have ok:Zrc K P X Y mid ((lo+hi) / 2)=true:=ZtP.2 hc;rw[decide_eq_true hc,Bool.not_true,cond_false];refine ih lo _ fu (by omega) e2 (by omega) (by omega) (by omega) h1 (fun c c1 c2=>?_);cases q:Zrc K P X Y mid c with
    |true=>rfl
    |false=>
     have:=ZvG P X Y hX hY fi fj mid s0 r0 hmid h0 t2 c1 c2 q;rw[ok]at this;cases this
   .have ok:Zrc K P X Y mid ((lo+hi) / 2)=false:=ZvK.2 hc;rw[decide_eq_false hc,Bool.not_false,cond_true];exact ih _ hi fu (by omega) (by omega) (by omega) e4 (by omega) (fun c c1 c2=>ZvG P X Y hX hY fi fj mid s0 r0 hmid h0 c1 (by omega) t1 ok) h2
end
theorem ZGr{K:Cx}{gr:Ins->Int->Int->Int->List Zaa->Int->Int->Option Ins}{N:Nat}(bG:ib K gr N):ib K (Zcy gr) (N+1):=by
 intro P X Y Q fi fj hX hY dP dQ hN hb;unfold Zcy;have e1:ZaQ ((P.length+X.length:Nat):Int) (P.length:Int)=(X.length:Int):=by rw[Zes (by omega) (by omega)];omega
 have e2:ZaQ ((P.length+X.length+Y.length:Nat):Int) ((P.length+X.length:Nat):Int)=(Y.length:Int):=by rw[Zes (by omega) (by omega)];omega
 rw[e1,e2,ZjF,ZjF];by_cases h1:X.length=1
 .rw[if_pos (by omega)];obtain⟨x,rfl⟩ : ∃x,X=[x]:=by
   cases X with
   |nil=>cases h1
   |cons x X=>exact⟨x,by rw[List.eq_nil_of_length_eq_zero (show X.length=0 by simpa using h1)]⟩
  have:=bs1J P Y Q x hY (dP x (by simp)) dQ (by omega) Y.length 0 Y.length ((((P.length+[x].length+Y.length:Nat):Int)-((P.length+[x].length:Nat):Int)).toNat+2) (by omega) (by omega) (Nat.le_refl _) (by simp only[List.length_singleton];omega) (by simp) (by simp);exact this
 .rw[if_neg (by omega)];by_cases h2:Y.length=1
  .rw[if_pos (by omega)];obtain⟨y,rfl⟩ : ∃y,Y=[y]:=by
    cases Y with
    |nil=>cases h2
    |cons y Y=>exact⟨y,by rw[List.eq_nil_of_length_eq_zero (show Y.length=0 by simpa using h2)]⟩
   have:=bs2J P X Q y hX (dQ y (by simp)) dP (by omega) X.length 0 X.length ((((P.length+X.length:Nat):Int)-(P.length:Int)).toNat+2) (by omega) (by omega) (Nat.le_refl _) (by omega) (by simp) (by simp);exact this
  .rw[if_neg (by omega)];rw[ZsY _ _ (by omega)];obtain⟨mid,hmid⟩ : ∃mid,mid=(P.length+(P.length+X.length+Y.length)) / 2:=⟨_,rfl⟩;rw[<-hmid];have en:Zar (mid:Int) ((P.length+X.length:Nat):Int)=((mid+(P.length+X.length):Nat):Int):=by rw[Zdg (by omega) (by omega)];omega
   have ep:ZaQ ((mid+(P.length+X.length):Nat):Int) 1=((mid+(P.length+X.length)-1:Nat):Int):=by rw[Zes (by omega) (by omega)];omega
   rw[en,Zai];by_cases h3:mid<P.length+X.length
   .have es:ZaQ ((mid+(P.length+X.length):Nat):Int) ((P.length+X.length+Y.length:Nat):Int)=((mid+(P.length+X.length)-(P.length+X.length+Y.length):Nat):Int):=by rw[Zes (by omega) (by omega)];omega
    rw[if_pos (by omega),es];unfold ZbX;rw[ep];exact ZBJ bG P X Y Q hX hY dP dQ fi fj hN hb mid (mid+(P.length+X.length)-(P.length+X.length+Y.length)) mid hmid (.inl ⟨h3,by omega,rfl⟩) _ _ _ _ (Nat.le_refl _) (Nat.le_refl _) (by omega) (Nat.le_refl _) (by omega) (fun c c1 c2=>by omega) (fun c c1 c2=>by omega)
   .rw[if_neg (by omega)];unfold ZbX;rw[ep];exact ZBJ bG P X Y Q hX hY dP dQ fi fj hN hb mid P.length (P.length+X.length) hmid (.inr ⟨by omega,rfl,rfl⟩) _ _ _ _ (Nat.le_refl _) (Nat.le_refl _) (by omega) (Nat.le_refl _) (by omega) (fun c c1 c2=>by omega) (fun c c1 c2=>by omega)
theorem ZAK{K:Cx}:∀fu,ib K (Zbr fu) fu
 | 0=>fun P X Y Q h1 h2 _ _ _ _ h3=>by omega
 |fu+1=>fun P X Y Q h1 h2 h3 h4 h5 h6 h7 h8=>by
  unfold Zbr
  exact ZGr (ZAK fu) P X Y Q h1 h2 h3 h4 h5 h6 h7 h8
inductive BlkJ (K:Cx) (B:Nat):Ins->Ins->Prop
 |last (L:Ins) (h:L.length<=B):BlkJ K B L (ZbW K L)
 |more (L D:Ins) (h:B<=L.length) (r:BlkJ K B (L.drop B) D):BlkJ K B L (ZbW K (L.take B)++D)
theorem BlkJ.len{K:Cx}{B:Nat}{L D:Ins}(h:BlkJ K B L D):D.length=L.length:=by
 induction h with
 |last L h=>exact Zgw L
 |more L D h r ih=>rw[List.length_append,Zgw,ih];simp;omega
theorem BlkJ.one{K:Cx}{B:Nat}(hB:0<B){L D:Ins}(h:BlkJ K B L D)(hl:L.length<=B):D=ZbW K L:=by
 cases h with
 |last _ h=>rfl
 |more _ D h r=>
  have:L.length=B:=by omega
  have hd:L.drop B=[]:=List.drop_eq_nil_of_le (by omega);have hr:=r.len;rw[hd]at hr;rw[List.eq_nil_of_length_eq_zero hr,List.take_of_length_le (by omega),List.append_nil]
theorem BlkJ.split{K:Cx}{B:Nat}{L D:Ins}(h:BlkJ K B L D)(hl:B<=L.length):∃D1,D=ZbW K (L.take B)++D1/\BlkJ K B (L.drop B) D1:=by
 cases h with
 |last _ h=>
  have e:L.length=B:=by omega
  refine⟨[],by rw[List.take_of_length_le (by omega),List.append_nil],?_⟩;rw[List.drop_eq_nil_of_le (by omega)];exact BlkJ.last [] (by simp)
 |more _ D h r=>exact⟨D,rfl,r⟩
theorem ZHI{K:Cx}(B:Nat)(hB:0<B)(hB2:B<=800)(k0:Int->Int->Int->Ins->Option Ins)(k1:Int->Ins->Option Ins):∀(s:Nat)(L P D:Ins)(fu:Nat),L.length<2*B*(s+1)->s+1<=fu->P.length+L.length<=900->Rg K L->BlkJ K B L D ->
  ∃D',BlkJ K (2*B) L D'/\Zbk ((P.length+L.length:Nat):Int) K.c K.b K.s (B:Int) k0 k1 fu (P.length:Int) ((P.length+2*B:Nat):Int) (P++D)=k1 ((2*B:Nat):Int) (P++D'):=by
 intro s;induction s with
 |zero=>
  intro L P D fu h1 hf hb hR h;obtain⟨fu,rfl⟩ : ∃x,fu=x+1:=⟨fu-1,by omega⟩;have e1:Zar (P.length:Int) (B:Int)=((P.length+B:Nat):Int):=by rw[Zdg (by omega) (by omega)];omega
  have e2:Zrd (B:Int) 2=((2*B:Nat):Int):=by rw[ZwF (by omega) (by omega)];omega
  unfold Zbk;rw[Zai,if_neg (by omega),e1,e2,Zai];refine⟨ZbW K L,BlkJ.last L (by omega),?_⟩;by_cases h3:B<L.length
  .obtain⟨D1,rfl,r1⟩:=h.split (by omega);have e:=r1.one hB (by simp;omega);subst e;have l1:(ZbW K (L.take B)).length=B:=by rw[Zgw];simp;omega
   have l2:(ZbW K (L.drop B)).length=L.length-B:=by rw[Zgw];simp
   have hm:=ZAK (K:=K) 1000 P (ZbW K (L.take B)) (ZbW K (L.drop B)) [] (by omega) (by omega) (Znx _) (Znx _) (Zpf (hR.take _)) (Zpf (hR.drop _)) (by omega) (by simp;omega);rw[l1,l2,show P.length+B+(L.length-B)=P.length+L.length by omega,<-Zri,List.take_append_drop,List.append_nil,List.append_nil]at hm;rw[if_pos (by omega),hm,ZaL]
  .rw[if_neg (by omega),h.one hB (by omega)]
 |succ s ih=>
  intro L P D fu h1 hf hb hR h;rw[Nat.mul_succ]at h1;by_cases h2:2*B<=L.length
  .obtain⟨fu,rfl⟩ : ∃x,fu=x+1:=⟨fu-1,by omega⟩;have e1:Zar (P.length:Int) (B:Int)=((P.length+B:Nat):Int):=by rw[Zdg (by omega) (by omega)];omega
   have e3:Zrd (2:Int) (B:Int)=((2*B:Nat):Int):=by rw[ZwF (by omega) (by omega)];omega
   have e4:Zar ((P.length+2*B:Nat):Int) ((2*B:Nat):Int)=((P.length+2*B+2*B:Nat):Int):=by rw[Zdg (by omega) (by omega)];omega
   unfold Zbk;rw[Zai,e1,e3,e4];obtain⟨D1,rfl,r1⟩:=h.split (by omega);obtain⟨D2,rfl,r2⟩:=r1.split (by simp;omega);have l1:(ZbW K (L.take B)).length=B:=by rw[Zgw];simp;omega
   have l2:(ZbW K ((L.drop B).take B)).length=B:=by rw[Zgw];simp;omega
   have lD:=r2.len;simp only[List.length_drop]at lD;have hm:=ZAK (K:=K) 1000 P (ZbW K (L.take B)) (ZbW K ((L.drop B).take B)) D2 (by omega) (by omega) (Znx _) (Znx _) (Zpf (hR.take _)) (Zpf ((hR.drop _).take _)) (by omega) (by omega);rw[l1,l2,show P.length+B+B=P.length+2*B by omega,<-Zri]at hm;have et:L.take B++(L.drop B).take B=L.take (2*B):=by rw[show 2*B=B+B by omega,List.take_add]
   have ed:(L.drop B).drop B=L.drop (2*B):=by rw[List.drop_drop];congr 1;omega
   rw[et]at hm;rw[ed]at r2;rw[if_pos (by omega),hm,ZaL];have lt:(ZbW K (L.take (2*B))).length=2*B:=by rw[Zgw];simp;omega
   obtain⟨D',d1,d2⟩:=ih (L.drop (2*B)) (P++ZbW K (L.take (2*B))) D2 fu (by rw[List.length_drop];omega) (by omega) (by simp only[List.length_append,lt,List.length_drop];omega) (hR.drop _) r2;refine⟨ZbW K (L.take (2*B))++D',BlkJ.more L D' h2 d1,?_⟩;simp only[List.length_append,lt,List.length_drop,List.append_assoc]at d2;rw[show P.length+2*B+(L.length-2*B)=P.length+L.length by omega]at d2;exact d2
  .obtain⟨fu,rfl⟩ : ∃x,fu=x+1:=⟨fu-1,by omega⟩;have hp:L.length<2*B*(s+1):=by
    have:2*B<=2*B*(s+1):=Nat.le_mul_of_pos_right _ (by omega);omega
   exact ih L P D (fu+1) hp (by omega) hb hR h
theorem ZHJ{K:Cx}(v7 v8:Int)(k0:Int->Int->Int->Ins->Option Ins)(L:Ins)(hL:L.length<=800)(hR:Rg K L):∀(s B:Nat)(D:Ins)(fu:Nat),L.length-B<=s->0<B->B<=1600->s+1<=fu->BlkJ K B L D ->
  ZaT (L.length:Int) K.c K.b K.s v7 v8 k0 fu (B:Int) D=some (ZbW K L):=by
 intro s;induction s with
 |zero=>
  intro B D fu h1 hB hB2 hf h;obtain⟨fu,rfl⟩ : ∃x,fu=x+1:=⟨fu-1,by omega⟩;unfold ZaT;rw[Zai,if_neg (by omega),h.one hB (by omega)]
 |succ s ih=>
  intro B D fu h1 hB hB2 hf h;obtain⟨fu,rfl⟩ : ∃x,fu=x+1:=⟨fu-1,by omega⟩;unfold ZaT;rw[Zai];by_cases h2:B<L.length
  .have e3:Zrd (2:Int) (B:Int)=((2*B:Nat):Int):=by rw[ZwF (by omega) (by omega)];omega
   rw[if_pos (by omega),e3];have hq:L.length / (2*B)+1<=(((L.length:Nat):Int)-((2*B:Nat):Int)).toNat+2:=by
    by_cases h4:L.length<2*B
    .rw[Nat.div_eq_of_lt h4];omega
    .rw[Nat.div_eq_sub_div (by omega) (by omega)];have:=Nat.div_le_self (L.length-2*B) (2*B);omega
   obtain⟨D',d1,d2⟩:=ZHI B hB (by omega) k0 (ZaT (L.length:Int) K.c K.b K.s v7 v8 k0 fu) (L.length / (2*B)) L [] D _ (Nat.lt_mul_div_succ _ (by omega)) hq (by simp;omega) hR h;simp only[List.length_nil,Nat.zero_add,List.nil_append]at d2;have d2':Zbk (L.length:Int) K.c K.b K.s (B:Int) k0 (ZaT (L.length:Int) K.c K.b K.s v7 v8 k0 fu) ((((L.length:Nat):Int)-((2*B:Nat):Int)).toNat+2) 0 ((2*B:Nat):Int) D=_:=d2;rw[d2'];exact ih (2*B) D' fu (by omega) (by omega) (by omega) (by omega) d1
  .rw[if_neg (by omega),h.one hB (by omega)]
theorem ZHK{K:Cx}(A:Ins)(hA:A.length<=800)(hR:Rg K A):∀(s:Nat)(L P:Ins)(fu:Nat),L.length<20*(s+1)->s+1<=fu->P.length+L.length=A.length->Rg K L->(∀D,BlkJ K 20 L D->BlkJ K 20 A (P++D)) ->
  ZaN (A.length:Int) K.c K.b K.s fu 20 (P.length:Int) ((P.length+20:Nat):Int) (P++L)=some (ZbW K A):=by
 intro s;have cj:∀(L P:Ins)(fu:Nat),L.length<20->P.length+L.length=A.length->Rg K L->(∀D,BlkJ K 20 L D->BlkJ K 20 A (P++D)) ->
   ZaN (A.length:Int) K.c K.b K.s (fu+1) 20 (P.length:Int) ((P.length+20:Nat):Int) (P++L)=some (ZbW K A):=by
  intro L P fu h1 hl ic hP;unfold ZaN;have hi:=ZDY (K:=K) P L [] ic (by simp;omega) (P.length:Int) (A.length:Int) rfl (by omega);simp only[List.append_nil]at hi;rw[Zai,if_neg (by omega),hi,ZaL];exact ZHJ _ _ _ A hA hR (A.length-20) 20 _ _ (Nat.le_refl _) (by omega) (by omega) (by omega) (hP _ (BlkJ.last L (by omega)))
 induction s with
 |zero=>
  intro L P fu h1 hf hl ic hP;obtain⟨fu,rfl⟩ : ∃x,fu=x+1:=⟨fu-1,by omega⟩;exact cj L P fu (by omega) hl ic hP
 |succ s ih=>
  intro L P fu h1 hf hl ic hP;obtain⟨fu,rfl⟩ : ∃x,fu=x+1:=⟨fu-1,by omega⟩;by_cases h2:L.length<20
  .exact cj L P fu h2 hl ic hP
  .unfold ZaN;have lt:(L.take 20).length=20:=by simp;omega
   have hi:=ZDY (K:=K) P (L.take 20) (L.drop 20) (ic.take _) (by simp;omega) (P.length:Int) ((P.length+20:Nat):Int) rfl (by rw[lt]);rw[List.take_append_drop]at hi;have e1:Zar ((P.length+20:Nat):Int) 20=((P.length+20+20:Nat):Int):=by rw[Zdg (by omega) (by omega)];omega
   rw[Zai,if_pos (by omega),hi,ZaL,e1];have li:(ZbW K (L.take 20)).length=20:=by rw[Zgw,lt]
   have:=ih (L.drop 20) (P++ZbW K (L.take 20)) fu (by rw[List.length_drop];omega) (by omega) (by simp only[List.length_append,li,List.length_drop];omega) (ic.drop _) (fun D hD=>by
    have:=hP _ (BlkJ.more L D (by omega) hD);rwa [<-List.append_assoc]at this)
   simp only[List.length_append,li,List.append_assoc]at this;exact this
theorem ZxG{K:Cx}(A:Ins)(hA:A.length<=800)(hR:Rg K A):Zcp A K.c K.b K.s=some (ZbW K A):=by
 unfold Zcp ZdV;have hq:A.length / 20+1<=(((A.length:Nat):Int)-(20:Int)).toNat+2:=by omega
 have:=ZHK (K:=K) A hA hR (A.length / 20) A [] ((((A.length:Nat):Int)-(20:Int)).toNat+2) (by omega) hq (by simp) hR (fun D h=>h);simp only[List.length_nil,Nat.zero_add,List.nil_append]at this;have fk:ZaN (A.length:Int) K.c K.b K.s ((((A.length:Nat):Int)-(20:Int)).toNat+2) 20 0 20 A=some (ZbW K A):=this;rw[fk];rfl
def bstJ(K:Cx):Int->Ins->Int|b,[]=>b|b,y :: r=>if ltJ K y b=true then bstJ K y r else bstJ K b r
theorem Zxj{K:Cx}(y:Int):∀(l:Ins)(b:Int),bstJ K b (l++[y])=if ltJ K y (bstJ K b l)=true then y else bstJ K b l
 | [],b=>rfl
 |x :: r,b=>by
  simp only[List.cons_append,bstJ]
  split
  .exact Zxj y r x
  .exact Zxj y r b
theorem Zxi{K:Cx}:∀(l:Ins)(b:Int),bstJ K b l∈b :: l
 | [],b=>by simp[bstJ]
 |x :: r,b=>by
  simp only[bstJ]
  split
  .exact List.mem_cons_of_mem _ (Zxi r x)
  .rcases List.mem_cons.1 (Zxi (K:=K) r b)with h|h
   .rw[h];simp
   .exact List.mem_cons_of_mem _ (List.mem_cons_of_mem _ h)
theorem ZHl{l:Ins}{y:Int}(h:y ∉ l):l.filter (fun x=>x != y)=l:=List.filter_eq_self.2 fun x hx=>by
 rw[bne_iff_ne];rintro rfl;exact h hx
theorem ZCv{K:Cx}(b:Int)(l:Ins)(hn:(b :: l).Nodup):ZbW K (b :: l)=bstJ K b l :: ZbW K ((b :: l).filter fun x=>x != bstJ K b l):=by
 have az:∀n,n<=l.length->ZbW K (b :: l.take n)=bstJ K b (l.take n) :: ZbW K ((b :: l.take n).filter fun x=>x != bstJ K b (l.take n)):=by
  intro n;induction n with
  |zero=>intro _;simp[ZbW,bstJ,Zet]
  |succ n ih=>
   intro h;have hy:l.take (n+1)=l.take n++[l[n]]:=List.take_succ_eq_append_getElem (show n<l.length by omega);have hn2:(b :: l.take n++[l[n]]).Nodup:=by
    have:(b :: l.take (n+1)).Nodup:=hn.sublist (List.Sublist.cons_cons _ (List.take_sublist _ _));rw[hy]at this;exact this
   have bO:l[n] ∉ b :: l.take n:=fun hm=>(List.nodup_append.1 hn2).2.2 _ hm _ (by simp) rfl;have e:b :: l.take (n+1)=(b :: l.take n)++[l[n]]:=by rw[hy];rfl
   have hm:=Zxi (K:=K) (l.take n) b;rw[e,Zhh,ih (by omega),hy,Zxj];cases hlt:ltJ K l[n] (bstJ K b (l.take n))with
   |true=>
    rw[if_pos rfl,Zhu _ _ hlt,Zha,<-ih (by omega),List.filter_append,ZHl bO];simp
   |false=>
    have hne:l[n]≠bstJ K b (l.take n):=fun h=>bO (h ▸ hm);rw[if_neg (by decide),Zid _ _ hlt,List.filter_append,<-Zhh];congr 2;simp[hne]
 have:=az l.length (Nat.le_refl _);rwa [List.take_length]at this
def selN(K:Cx):Nat->Ins->Ins|0,_=>[]|_+1,[]=>[]|n+1,b :: l=>bstJ K b l :: selN K n ((b :: l).filter fun x=>x != bstJ K b l)
theorem ZAR{K:Cx}:∀(n:Nat)(L:Ins),L.Nodup->selN K n L=(ZbW K L).take n
 | 0,_,_=>by simp[selN]
 |n+1,[],_=>by simp[selN,ZbW]
 |n+1,b :: l,h=>by
  rw[selN,ZCv b l h,List.take_succ_cons,ZAR n _ (h.sublist List.filter_sublist)]
theorem ZHb{K K':Cx}(f:Int->Int):∀(n:Nat)(a b:Ins),a.length+b.length<=n->(∀x∈a,∀y∈b,ltJ K' (f y) (f x)=ltJ K y x)->mrgJ K' (a.map f) (b.map f)=(mrgJ K a b).map f:=by
 intro n;induction n with
 |zero=>
  intro a b h _;obtain rfl:=List.eq_nil_of_length_eq_zero (show a.length=0 by omega);simp[Zet]
 |succ n ih=>
  intro a b h hf;cases a with
  |nil=>simp[Zet]
  |cons x a=>
   cases b with
   |nil=>simp[Zha]
   |cons y b=>
    simp only[List.length_cons]at h;have e:=hf x (by simp) y (by simp);simp only[List.map_cons];cases h3:ltJ K y x with
    |true=>
     rw[h3]at e;have:=ih (x :: a) b (by simp only[List.length_cons];omega) fun x' hx y' hy=>hf x' hx y' (by simp[hy]);simp only[List.map_cons]at this;rw[Zhu _ _ e,Zhu _ _ h3,List.map_cons,this]
    |false=>
     rw[h3]at e;have:=ih a (y :: b) (by simp only[List.length_cons];omega) fun x' hx y' hy=>hf x' (by simp[hx]) y' hy;simp only[List.map_cons]at this;rw[Zid _ _ e,Zid _ _ h3,List.map_cons,this]
theorem Zyn{K:Cx}(l:Ins):∀x∈ZbW K l,x∈l:=by
 have:∀n,n<=l.length->∀x∈ZbW K (l.take n),x∈l.take n:=by
  intro n;induction n with
  |zero=>intro _;simp[ZbW]
  |succ n ih=>
   intro h;rw[List.take_succ_eq_append_getElem (show n<l.length by omega),Zhh];intro x hx;rcases ZsT _ _ _ (Nat.le_refl _) x hx with q|q
   .exact List.mem_append.2 (.inl (ih (by omega) x q))
   .exact List.mem_append.2 (.inr q)
 have h:=this l.length (Nat.le_refl _);rwa [List.take_length]at h
theorem ZDV{K K':Cx}(f:Int->Int)(C:Ins)(hf:∀x∈C,∀y∈C,ltJ K' (f y) (f x)=ltJ K y x):ZbW K' (C.map f)=(ZbW K C).map f:=by
 have:∀n,n<=C.length->ZbW K' ((C.take n).map f)=(ZbW K (C.take n)).map f:=by
  intro n;induction n with
  |zero=>intro _;simp[ZbW]
  |succ n ih=>
   intro h;rw[List.take_succ_eq_append_getElem (show n<C.length by omega),Zhh,List.map_append,List.map_singleton,Zhh,ih (by omega)];have:=ZHb (K:=K) (K':=K') f _ (ZbW K (C.take n)) [C[n]] (Nat.le_refl _) fun x hx y hy=>hf x (List.mem_of_mem_take (Zyn _ x hx)) y (by rw[List.mem_singleton.1 hy];exact List.getElem_mem _);simpa using this
 have h:=this C.length (Nat.le_refl _);rwa [List.take_length]at h
def gP(l:List Zaa)(i:Int):Zaa:=l.getD i.toNat Zaa.d
def okPs(l:List Zaa):Prop:=∀p∈l,p.fEnd.fAddr.ok
def cntB(b:Int)(p:Zaa):Bool:=if b=1 then true else if b=4 then true else if b=2 then decide (p.fPing>0)else if b=3 then decide (p.fWork>0)else false
def upto(n:Nat):Ins:=(List.range n).map fun(i:Nat)=>(i:Int)
def Zgv(l:List Zaa)(b:Int)(at_:Ins):Ins:=at_.filter fun i=>cntB b (gP l i)
def inL(l:List Zaa)(at_:Ins):Prop:=∀i∈at_,0<=i/\i<((l.length:Nat):Int)
theorem ZzD(p:Zaa)(b:Int):Zkh p b=some (cntB b p):=by
 unfold Zkh ZhM cntB;simp only[ZjF];by_cases h1:b=1
 .subst h1;simp
 .by_cases h4:b=4
  .subst h4;simp
  .have e1:(b==(1:Int))=false:=beq_false_of_ne h1;have e4:(b==(4:Int))=false:=beq_false_of_ne h4;simp only[if_neg h1,if_neg h4,e1,e4,cond_false];by_cases h2:b=2
   .simp only[if_pos h2]
   .by_cases h3:b=3
    .simp only[if_neg h2,if_pos h3]
    .simp only[if_neg h2,if_neg h3]
theorem ZCf(p:Zaa)(b:Int):Zfu p b=some (cntB b p):=by
 unfold Zfu cntB;simp only[ZjF];by_cases h1:b=1
 .simp only[if_pos h1]
 .by_cases h4:b=4
  .simp only[if_neg h1,if_pos h4]
  .by_cases h2:b=2
   .subst h2;simp only[Zai];by_cases hp:p.fPing>0
    .simp[hp]
    .simp[hp]
   .by_cases h3:b=3
    .simp only[if_neg h1,if_neg h4,if_neg h2,if_pos h3]
    .simp only[if_neg h1,if_neg h4,if_neg h2,if_neg h3]
theorem ZqO(n:Nat):upto (n+1)=upto n++[(n:Int)]:=by simp[upto,List.range_succ]
theorem ZmH(n:Nat):(upto n).length=n:=by simp[upto]
theorem Zjt{n:Nat}{x:Int}:x∈upto n↔0<=x/\x<(n:Int):=by
 simp only[upto,List.mem_map,List.mem_range];constructor
 .rintro ⟨a,h,rfl⟩;omega
 .rintro ⟨h1,h2⟩;exact⟨x.toNat,by omega,by omega⟩
theorem Znn(n:Nat):(upto n).Nodup:=by
 induction n with
 |zero=>simp[upto]
 |succ n ih=>
  rw[ZqO,List.nodup_append];refine⟨ih,by simp,fun a ha b hb=>?_⟩;rw[List.mem_singleton.1 hb];have:=Zjt.1 ha;omega
theorem ZBI(l:List Zaa)(b:Int)(X Y:Ins):Zgv l b (X++Y)=Zgv l b X++Zgv l b Y:=List.filter_append ..
theorem Ztf(l:List Zaa)(b:Int)(X:Ins):(Zgv l b X).length<=X.length:=List.length_filter_le ..
theorem rg_of{l:List Zaa}{b s:Int}{at_:Ins}(ho:okPs l)(h:inL l at_):Rg ⟨l,b,s⟩ at_:=fun x hx=>by
 obtain⟨h1,h2⟩:=h x hx
 refine⟨⟨h1,h2⟩,?_⟩
 rw[ZdM l _ x.toNat (by omega)]
 exact ho _ (List.getElem_mem _)
theorem ZBX{S:Ins}{m n:Int}(hm:(S.length:Int)=m):S.take ((if m<(if(0:Int)>n then 0 else n)then m else(if(0:Int)>n then 0 else n)).toNat)=S.take n.toNat:=by
 by_cases h0:(0:Int)>n
 .rw[if_pos h0];rw[if_neg (by omega)];congr 1;omega
 .rw[if_neg h0];by_cases h1:m<n
  .rw[if_pos h1,List.take_of_length_le (by omega),List.take_of_length_le (by omega)]
  .rw[if_neg h1]
theorem ZCh(l:List Zaa)(b n s:Int)(hl:l.length<=800)(ho:okPs l):Zeo l b n s=some ((ZbW ⟨l,b,s⟩ (Zgv l b (upto l.length))).take n.toNat):=by
 have az:∀(k i fu:Nat),l.length-i=k->i<=l.length->k+1<=fu->ZeA n fu l (l.length:Int) (i:Int) (Zgv l b (upto i)) l b s=some ((ZbW ⟨l,b,s⟩ (Zgv l b (upto l.length))).take n.toNat):=by
  intro k;induction k with
  |zero=>
   intro i fu hk hi hf;obtain⟨fu,rfl⟩ : ∃x,fu=x+1:=⟨fu-1,by omega⟩;obtain rfl:i=l.length:=by omega
   unfold ZeA;have hc:=Ztf l b (upto l.length);rw[ZmH]at hc;have hin:inL l (Zgv l b (upto l.length)):=fun x hx=>Zjt.1 (List.mem_filter.1 hx).1;have e:=ZxG (K:=⟨l,b,s⟩) (Zgv l b (upto l.length)) (by omega) (rg_of ho hin);dsimp only at e;have hs:=Zgw (K:=⟨l,b,s⟩) (Zgv l b (upto l.length));rw[Zai,if_neg (by omega),e,ZaL,Zax (by refine⟨by omega,?_,?_⟩<;>(repeat' split)<;>omega),Zax (by (repeat' split)<;>omega),ZBX (by rw[hs])]
  |succ k ih=>
   intro i fu hk hi hf;obtain⟨fu,rfl⟩ : ∃x,fu=x+1:=⟨fu-1,by omega⟩;unfold ZeA;have hc:=Ztf l b (upto i);rw[ZmH]at hc;have e1:Zar (i:Int) 1=((i+1:Nat):Int):=add1 (n:=i+1) (by omega) (by simp only[maxLen];omega);rw[Zai,if_pos (by omega),Zax (by omega),ZzD,ZaL,e1];have bi:=ih (i+1) fu (by omega) (by omega) (by omega);rw[ZqO,ZBI]at bi;cases hb:cntB b (l.getD ((i:Int)).toNat Zaa.d)with
   |true=>
    have:Zgv l b [(i:Int)]=[(i:Int)]:=by simp only[Zgv,gP,List.filter_cons,hb,if_true,List.filter_nil]
    rw[this]at bi;rw[cond_true,Zax (by simp only[List.length_append,List.length_singleton,maxLen];omega)];exact bi
   |false=>
    have:Zgv l b [(i:Int)]=[]:=by simp only[Zgv,gP,List.filter_cons,hb,Bool.false_eq_true,if_false,List.filter_nil]
    rw[this,List.append_nil]at bi;rw[cond_false];exact bi
 have:=az l.length 0 _ (by omega) (by omega) (Nat.le_refl _);unfold Zeo;exact az l.length 0 _ (by omega) (by omega) (by omega)
theorem Zzv(l:List Zaa)(at_:Ins)(hl:at_.length<=800)(hr:inL l at_):ZdH l at_=some (at_.map (gP l)):=by
 have az:∀(k i fu:Nat),at_.length-i=k->i<=at_.length->k+1<=fu->ZeU l fu at_ (at_.length:Int) (i:Int) ((at_.take i).map (gP l))=some (at_.map (gP l)):=by
  intro k;induction k with
  |zero=>
   intro i fu hk hi hf;obtain⟨fu,rfl⟩ : ∃x,fu=x+1:=⟨fu-1,by omega⟩;unfold ZeU;rw[Zai,if_neg (by omega),List.take_of_length_le (by omega)]
  |succ k ih=>
   intro i fu hk hi hf;obtain⟨fu,rfl⟩ : ∃x,fu=x+1:=⟨fu-1,by omega⟩;unfold ZeU;have e1:Zar (i:Int) 1=((i+1:Nat):Int):=add1 (n:=i+1) (by omega) (by simp only[maxLen];omega);have bm:i<at_.length:=by omega
   have hm:=hr _ (List.getElem_mem bm);have hg:at_.getD ((i:Int)).toNat 0=at_[i]:=ZdM at_ 0 i bm;have hlt:((at_.take i).map (gP l)).length=i:=by simp;omega
   rw[Zai,if_pos (by omega),Zax (by omega),hg,Zax hm,Zax (by simp only[List.length_append,hlt,List.length_singleton,maxLen];omega),e1];have:=ih (i+1) fu (by omega) (by omega) (by omega);rw[List.take_succ_eq_append_getElem bm,List.map_append,List.map_singleton]at this;exact this
 unfold ZdH;rw[Zax (by omega)];exact az at_.length 0 _ (by omega) (by omega) (by omega)
def ZuZ(at_ aW:Ins)(i:Nat):Ins:=((List.range i).filter fun(j:Nat)=>!decide ((j:Int)∈aW)).map fun(j:Nat)=>at_.getD j 0
theorem Zzx(at_ aW:Ins)(hl:at_.length<=800)(hg:aW.length<=800)(hr:∀k∈aW,0<=k/\k<((at_.length:Nat):Int)):Zez at_ aW=some (ZuZ at_ aW at_.length):=by
 have dq:∀(a b:Int)(v w:Ins)(kk:Ins->Int->Int->Ins->List Bool->Option Ins)(fl:List Bool),fl.length=at_.length->(∀i,i<at_.length->fl.getD i false=decide ((i:Int)∈aW))->∀(k i fu:Nat),at_.length-i=k->i<=at_.length->k+1<=fu ->
   Zei at_ v a b w kk fu at_ (at_.length:Int) (i:Int) (ZuZ at_ aW i) fl=some (ZuZ at_ aW at_.length):=by
  intro a b v w kk fl er cN k;induction k with
  |zero=>
   intro i fu hk hi hf;obtain⟨fu,rfl⟩ : ∃x,fu=x+1:=⟨fu-1,by omega⟩;obtain rfl:i=at_.length:=by omega
   unfold Zei;rw[Zai,if_neg (by omega)]
  |succ k ih=>
   intro i fu hk hi hf;obtain⟨fu,rfl⟩ : ∃x,fu=x+1:=⟨fu-1,by omega⟩;unfold Zei;have e1:Zar (i:Int) 1=((i+1:Nat):Int):=add1 (n:=i+1) (by omega) (by simp only[maxLen];omega);have hk2:(ZuZ at_ aW i).length<=i:=by
    unfold ZuZ;rw[List.length_map];have:=List.length_filter_le (fun j:Nat=>!decide ((j:Int)∈aW)) (List.range i);rw[List.length_range]at this;exact this
   have bi:=ih (i+1) fu (by omega) (by omega) (by omega);have hfi:fl.getD ((i:Int)).toNat false=decide ((i:Int)∈aW):=cN i (by omega);rw[Zai,if_pos (by omega),Zax (by omega),Zax (by rw[er];omega),hfi,e1];have hs:ZuZ at_ aW (i+1)=ZuZ at_ aW i++(if(i:Int)∈aW then[]else[at_.getD i 0]):=by
    unfold ZuZ;rw[List.range_succ,List.filter_append,List.map_append];congr 1;by_cases h:(i:Int)∈aW<;>simp[h]
   rw[hs]at bi;by_cases h:(i:Int)∈aW
   .rw[if_pos h,List.append_nil]at bi;rw[decide_eq_true h,Bool.not_true,cond_false];exact bi
   .rw[if_neg h]at bi;rw[decide_eq_false h,Bool.not_false,cond_true,Zax (by simp only[List.length_append,List.length_singleton,maxLen];omega)];exact bi
 have dr:∀(k i fu:Nat)(fl:List Bool),aW.length-i=k->i<=aW.length->k+1<=fu->fl.length=at_.length->(∀j,j<at_.length->fl.getD j false=decide ((j:Int)∈aW.take i)) ->
   ZdB at_ fu aW (aW.length:Int) (i:Int) [] fl=some (ZuZ at_ aW at_.length):=by
  intro k;induction k with
  |zero=>
   intro i fu fl hk hi hf er cN;obtain⟨fu,rfl⟩ : ∃x,fu=x+1:=⟨fu-1,by omega⟩;unfold ZdB;rw[Zai,if_neg (by omega)];rw[List.take_of_length_le (by omega)]at cN;exact dq _ _ _ _ _ fl er cN at_.length 0 _ (by omega) (by omega) (by omega)
  |succ k ih=>
   intro i fu fl hk hi hf er cN;obtain⟨fu,rfl⟩ : ∃x,fu=x+1:=⟨fu-1,by omega⟩;unfold ZdB;have e1:Zar (i:Int) 1=((i+1:Nat):Int):=add1 (n:=i+1) (by omega) (by simp only[maxLen];omega);have bm:i<aW.length:=by omega
   have hm:=hr _ (List.getElem_mem bm);have bI:aW.getD ((i:Int)).toNat 0=aW[i]:=ZdM aW 0 i bm;rw[Zai,if_pos (by omega),Zax (by omega),bI,Zax (by rw[er];exact hm),e1];refine ih (i+1) fu _ (by omega) (by omega) (by omega) (by simpa using er) fun j hj=>?_;rw[List.take_succ_eq_append_getElem bm];have hx:=cN j hj;simp only[List.getD_eq_getElem?_getD]at hx ⊢;rw[List.getElem?_set];by_cases hj2:aW[i].toNat=j
   .have:(j:Int)=aW[i]:=by omega
    rw[if_pos hj2,if_pos (by omega),this];exact(decide_eq_true (List.mem_append.2 (.inr (by simp)))).symm
   .have:¬(j:Int)=aW[i]:=by omega
    rw[if_neg hj2,hx,decide_eq_decide,List.mem_append];constructor
    .exact .inl
    .rintro (h|h)
     .exact h
     .exact absurd (List.mem_singleton.1 h) this
 unfold Zez;rw[Zax (by omega),Zax (by omega)];refine dr aW.length 0 _ _ (by omega) (by omega) (by omega) (by simp) fun j hj=>?_;simp[List.getD_eq_getElem?_getD,hj]
def Zno(l:List Zaa)(s b n:Int)(at_:Ins):Ins:=at_.filter fun i=>!decide (i∈(ZbW ⟨l,b,s⟩ (Zgv l b at_)).take n.toNat)
theorem ZmT{l:List Zaa}{s b n:Int}{at_:Ins}(h:inL l at_):inL l (Zno l s b n at_):=fun i hi=>h i (List.mem_filter.1 hi).1
theorem ZlI{l:List Zaa}{s b n:Int}{at_:Ins}(h:at_.Nodup):(Zno l s b n at_).Nodup:=h.sublist List.filter_sublist
theorem Zoa(l:List Zaa)(s b n:Int)(at_:Ins):(Zno l s b n at_).length<=at_.length:=List.length_filter_le ..
theorem ZzU{α β:Type}(f:α->β)(p:β->Bool)(q:α->Bool)(l:List α)(h:∀x∈l,p (f x)=q x):(l.map f).filter p=(l.filter q).map f:=by
 rw[List.filter_map];congr 1;exact List.filter_congr h
theorem Zwf(l:List Zaa)(at_:Ins)(b n s:Int)(hl:at_.length<=800)(ho:okPs l)(hr:inL l at_)(hn:at_.Nodup) :
  ((ZdH l at_).bind fun x=>(Zeo x b n s).bind fun y=>Zez at_ y)=some (Zno l s b n at_):=by
 rw[Zzv l at_ hl hr,ZaL];have bz:okPs (at_.map (gP l)):=fun p hp=>by
  obtain⟨i,hi,rfl⟩:=List.mem_map.1 hp;have:=hr i hi;unfold gP;rw[ZdM l _ i.toNat (by omega)];exact ho _ (List.getElem_mem _)
 rw[ZCh _ b n s (by simpa using hl) bz,ZaL];obtain⟨f,hf⟩ : ∃f:Int->Int,f=fun p=>at_.getD p.toNat 0:=⟨_,rfl⟩;have hfp:∀i:Nat,f (i:Int)=at_.getD i 0:=fun i=>by rw[hf];rfl
 have hlen:(at_.map (gP l)).length=at_.length:=by simp
 rw[hlen];have hg:∀p:Int,0<=p->p<(at_.length:Int)->gP (at_.map (gP l)) p=gP l (f p):=fun p h1 h2=>by
  have hp:p.toNat<at_.length:=by omega
  rw[hf];simp only[gP];rw[ZdM _ _ p.toNat (by simpa using hp),List.getElem_map,ZdM at_ 0 p.toNat hp];rfl
 have hat:(upto at_.length).map f=at_:=by
  apply List.ext_getElem
  .simp[upto]
  .intro i h1 h2;simp only[upto,List.map_map,List.getElem_map,List.getElem_range,Function.comp];rw[hfp,ZdM at_ 0 i h2]
 have hC:(Zgv (at_.map (gP l)) b (upto at_.length)).map f=Zgv l b at_:=by
  have:Zgv l b at_=((upto at_.length).map f).filter fun i=>cntB b (gP l i):=by rw[hat];rfl
  rw[this,ZzU f _ (fun p=>cntB b (gP (at_.map (gP l)) p))]
  .rfl
  .intro p hp;obtain⟨h1,h2⟩:=Zjt.1 hp;rw[hg p h1 h2]
 have hS:ZbW ⟨l,b,s⟩ (Zgv l b at_)=(ZbW ⟨at_.map (gP l),b,s⟩ (Zgv (at_.map (gP l)) b (upto at_.length))).map f:=by
  rw[<-hC];refine ZDV f _ fun x hx y hy=>?_;obtain⟨x1,x2⟩:=Zjt.1 (List.mem_filter.1 hx).1;obtain⟨y1,y2⟩:=Zjt.1 (List.mem_filter.1 hy).1;have e:cmpJ ⟨l,b,s⟩ (f y) (f x)=cmpJ ⟨at_.map (gP l),b,s⟩ y x:=by
   show Zpu b s (gP l (f y)) (gP l (f x))=Zpu b s (gP (at_.map (gP l)) y) (gP (at_.map (gP l)) x);rw[hg y y1 y2,hg x x1 x2]
  unfold ltJ;rw[e]
 obtain⟨S,lf⟩ : ∃S,S=ZbW ⟨at_.map (gP l),b,s⟩ (Zgv (at_.map (gP l)) b (upto at_.length)):=⟨_,rfl⟩;have hSm:∀x∈S,0<=x/\x<(at_.length:Int):=fun x hx=>by
  rw[lf]at hx;exact Zjt.1 (List.mem_filter.1 (Zyn _ x hx)).1
 have hSl:S.length<=at_.length:=by
  rw[lf,Zgw];have:=Ztf (at_.map (gP l)) b (upto at_.length);rw[ZmH]at this;exact this
 rw[<-lf]at hS ⊢;rw[Zzx at_ _ hl (by simp only[List.length_take];omega) fun k hk=>hSm k (List.mem_of_mem_take hk)];have g9:∀x y:Int,0<=x->x<(at_.length:Int)->0<=y->y<(at_.length:Int)->f x=f y->x=y:=fun x y x1 x2 y1 y2 h=>by
  rw[hf]at h;simp only at h;rw[ZdM at_ 0 x.toNat (by omega),ZdM at_ 0 y.toNat (by omega)]at h;have:=ZpM hn (i:=x.toNat) (j:=y.toNat) (a:=at_[y.toNat]'(by omega)) (by rw[<-h];simp) (by simp);omega
 congr 1;unfold Zno;rw[hS,<-List.map_take];have e2:∀p:Int->Bool,at_.filter p=((upto at_.length).map f).filter p:=fun p=>by rw[hat]
 rw[e2,ZzU f _ (fun p=>!decide (p∈S.take n.toNat))]
 .unfold ZuZ upto;rw[ZzU (fun(i:Nat)=>(i:Int)) _ (fun j=>!decide ((j:Int)∈S.take n.toNat)) _ (fun _ _=>rfl),List.map_map];exact List.map_congr_left fun j _=>(hfp j).symm
 .intro p hp;obtain⟨h1,h2⟩:=Zjt.1 hp;congr 1;rw[decide_eq_decide];constructor
  .intro h;obtain⟨q,hq,e⟩:=List.mem_map.1 h;obtain⟨q1,q2⟩:=hSm q (List.mem_of_mem_take hq);rw[<-g9 q p q1 q2 h1 h2 e];exact hq
  .intro h;exact List.mem_map.2 ⟨p,h,rfl⟩
def ZwM(l:List Zaa)(q:Zay)(s:Int):Ins:=Zno l s 4 q.fTime (Zno l s 3 q.fWork (Zno l s 2 q.fPing (Zno l s 1 q.fGroup (upto l.length))))
theorem Zzw(l:List Zaa)(q:Zay)(s:Int)(hl:l.length<=800)(ho:okPs l):ZiJ l q s=some (ZwM l q s):=by
 have dq:∀(a b:Int)(w:Ins)(q':Zay)(kk:Int->Int->Ins->Zay->Option Ins)(fu:Nat),Zco l s a b w q' kk (fu+5) (⟨1,q.fGroup⟩,⟨2,q.fPing⟩,⟨3,q.fWork⟩,⟨4,q.fTime⟩) 0 (upto l.length)=some (ZwM l q s):=by
  intro a b w q' kk fu;have h0:inL l (upto l.length):=fun i hi=>Zjt.1 hi;have t1:=Zwf l (upto l.length) 1 q.fGroup s (by rw[ZmH];exact hl) ho h0 (Znn _);have l1:=Zoa l s 1 q.fGroup (upto l.length);rw[ZmH]at l1;have t2:=Zwf l _ 2 q.fPing s (by omega) ho (ZmT (s:=s) (b:=1) (n:=q.fGroup) h0) (ZlI (Znn _));have l2:=Zoa l s 2 q.fPing (Zno l s 1 q.fGroup (upto l.length));have t3:=Zwf l _ 3 q.fWork s (by omega) ho (ZmT (s:=s) (b:=2) (n:=q.fPing) (ZmT (s:=s) (b:=1) (n:=q.fGroup) h0)) (ZlI (ZlI (Znn _)));have l3:=Zoa l s 3 q.fWork (Zno l s 2 q.fPing (Zno l s 1 q.fGroup (upto l.length)));have t4:=Zwf l _ 4 q.fTime s (by omega) ho (ZmT (s:=s) (b:=3) (n:=q.fWork) (ZmT (s:=s) (b:=2) (n:=q.fPing) (ZmT (s:=s) (b:=1) (n:=q.fGroup) h0))) (ZlI (ZlI (ZlI (Znn _))));have bd:∀{α β γ δ:Type}(r:Option α)(g:α->Option β)(h:β->Option γ)(k:γ->Option δ)(z:γ),(r.bind fun x=>(g x).bind fun y=>h y)=some z->(r.bind fun x=>(g x).bind fun y=>(h y).bind k)=k z:=by
   intro α β γ δ r g h k z e;cases r with
   |none=>cases e
   |some x=>
    simp only[Option.bind_some]at e ⊢;cases hg:g x with
    |none=>rw[hg]at e;cases e
    |some y=>rw[hg]at e;simp only[Option.bind_some]at e ⊢;rw[e];rfl
  have jN:∀{δ:Type}(X:Ins)(b n:Int)(k:Ins->Option δ)(z:Ins),((ZdH l X).bind fun x=>(Zeo x b n s).bind fun y=>Zez X y)=some z->((ZdH l X).bind fun x=>(Zeo x b n s).bind fun y=>(Zez X y).bind k)=k z:=by
   intro δ X b n k z e;cases hp:ZdH l X with
   |none=>rw[hp]at e;cases e
   |some x=>
    rw[hp]at e;simp only[Option.bind_some]at e ⊢;cases hg:Zeo x b n s with
    |none=>rw[hg]at e;cases e
    |some y=>rw[hg]at e;simp only[Option.bind_some]at e ⊢;rw[e];rfl
  have a1:Zar (0:Int) 1=1:=rfl;have a2:Zar (1:Int) 1=2:=rfl;have a3:Zar (2:Int) 1=3:=rfl;have a4:Zar (3:Int) 1=4:=rfl;unfold Zco;rw[Zai,if_pos (by omega),Zax (by omega)];simp only[ix1,if_true,a1];rw[jN _ _ _ _ _ t1];unfold Zco;rw[Zai,if_pos (by omega),Zax (by omega)];simp only[ix1,if_true,a2,show ¬((1:Int)=0)by omega,if_false];rw[jN _ _ _ _ _ t2];unfold Zco;rw[Zai,if_pos (by omega),Zax (by omega)];simp only[ix1,if_true,a3,show ¬((2:Int)=0)by omega,show ¬((2:Int)=1)by omega,if_false];rw[jN _ _ _ _ _ t3];unfold Zco;rw[Zai,if_pos (by omega),Zax (by omega)];simp only[ix1,if_true,a4,show ¬((3:Int)=0)by omega,show ¬((3:Int)=1)by omega,show ¬((3:Int)=2)by omega,if_false];rw[jN _ _ _ _ _ t4];unfold Zco;rw[Zai,if_neg (by omega)];rfl
 have dr:∀(k i fu:Nat)(w:Ins),l.length-i=k->i<=l.length->k+1<=fu->w.length=l.length->w.take i=upto i->ZdC l s fu (l.length:Int) (i:Int) w q=some (ZwM l q s):=by
  intro k;induction k with
  |zero=>
   intro i fu w hk hi hf hw ht;obtain⟨fu,rfl⟩ : ∃x,fu=x+1:=⟨fu-1,by omega⟩;obtain rfl:i=l.length:=by omega
   rw[List.take_of_length_le (by omega)]at ht;unfold ZdC;have e:ZkU q=some (⟨1,q.fGroup⟩,⟨2,q.fPing⟩,⟨3,q.fWork⟩,⟨4,q.fTime⟩):=rfl;rw[Zai,if_neg (by omega),e,ZaL,ht];exact dq _ _ _ _ _ 1
  |succ k ih=>
   intro i fu w hk hi hf hw ht;obtain⟨fu,rfl⟩ : ∃x,fu=x+1:=⟨fu-1,by omega⟩;unfold ZdC;have e1:Zar (i:Int) 1=((i+1:Nat):Int):=add1 (n:=i+1) (by omega) (by simp only[maxLen];omega);rw[Zai,if_pos (by omega),Zax (by omega),e1];refine ih (i+1) fu _ (by omega) (by omega) (by omega) (by simpa using hw) ?_;rw[ZqO,<-ht];simp only[Int.toNat_natCast];rw[List.take_succ_eq_append_getElem (by simp;omega),List.take_set_of_le (Nat.le_refl _)];simp
 unfold ZiJ;rw[Zax (by omega)];simp only[Int.toNat_natCast];exact dr l.length 0 _ _ (by omega) (by omega) (by omega) (by simp) (by simp[upto])
end Go.Proofs.YtmnloegcpaahcaaGreat
