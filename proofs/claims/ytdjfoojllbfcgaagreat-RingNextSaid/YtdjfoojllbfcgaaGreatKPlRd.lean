import Derived.Test.YtdjfoojllbfcgaaGreatKPlTd
import Derived.Test.YtdjfoojllbfcgaaGreatKPlEc
namespace Go.Proofs.YtdjfoojllbfcgaaGreat
set_option linter.unusedVariables false
set_option linter.unusedSimpArgs false
theorem ZqU{c:Zap}{l:List Zad}{x:Zad}{g:Zan}(h:runT (Znd c) l=some (.ret x g)):∃r,l=x :: r∧g=⟨r⟩:=by
 cases l with
 |nil=>simp[runT,Znd]at h
 |cons v r=>
  simp only[runT,Znd,Option.some.injEq,Tout.ret.injEq]at h;exact⟨r,by rw[h.1],h.2.symm⟩
def ZqI(part:Int):Nat→Nat→List Zab→Pr (List Zab)|0,_,w=>.ret w|k+1,i,w=>(Znd ⟨6,part,i⟩).bind fun v=>ZqI part k (i+1) (w++[v.fPeer])
def ZuF(part:Int):Pr (List Zab):=(Znd ⟨5,part,0⟩).bind fun v=>ZqI part v.fN.toNat 0 []
theorem ZDl(part n:Int):∀(k:Nat)(w:List Zab)(l:List Zad)(fu:Nat),(n-(w.length:Int)).toNat=k→w.length+l.length≤900000→k+1≤fu→ZdM part fu n (w.length:Int) w ⟨l⟩=runT (ZqI part k w.length w) l:=by
 intro k;induction k with
 |zero=>
  intro w l fu hk hl hf;obtain⟨fu,rfl⟩ : ∃x,fu=x+1:=⟨fu-1,by omega⟩;unfold ZdM;simp only[Zao];rw[if_neg (by omega)];rfl
 |succ k ih=>
  intro w l fu hk hl hf;obtain⟨fu,rfl⟩ : ∃x,fu=x+1:=⟨fu-1,by omega⟩;unfold ZdM;simp only[Zao];have e:ZhW part (w.length:Int)=some ⟨6,part,(w.length:Int)⟩:=rfl;rw[if_pos (by omega),e,ZaN,Zlq];refine ZbH (fun x a ha h=>?_) (fun o=>rfl);obtain⟨r,rfl,h2⟩:=ZqU h;simp only[Zan.mk.injEq]at h2;rw[h2];simp only[List.length_cons]at hl;dsimp only;rw[Zaz (by simp only[List.length_append,List.length_singleton,maxLen];omega)];have e1:ZaC (w.length:Int) 1=(((w++[x.fPeer]).length:Nat):Int):=by
   rw[add1 (n:=w.length+1) (by omega) (by simp only[maxLen];omega)];simp
  have e2:w.length+1=(w++[x.fPeer]).length:=by simp
  rw[e1,e2];exact ih (w++[x.fPeer]) r fu (by simp only[List.length_append,List.length_singleton];omega) (by simp only[List.length_append,List.length_singleton];omega) (by omega)
theorem Zxe(part:Int)(l:List Zad)(hl:l.length≤900000):Zhj ⟨l⟩ part=runT (ZuF part) l:=by
 unfold Zhj;have e:ZhX part=some ⟨5,part,0⟩:=rfl;rw[e,ZaN,Zlq];refine ZbH (fun x a ha h=>?_) (fun o=>rfl);obtain⟨r,rfl,h2⟩:=ZqU h;simp only[Zan.mk.injEq]at h2;rw[h2];simp only[List.length_cons]at hl;dsimp only;have:=ZDl part (if(0:Int)>x.fN then 0 else x.fN) x.fN.toNat [] r ((((if(0:Int)>x.fN then 0 else x.fN))-(0:Int)).toNat+2) (by simp only[List.length_nil];split<;>omega) (by simp only[List.length_nil];omega) (by split<;>omega);exact this
theorem Zto(part:Int):∀(k i:Nat)(w:List Zab)(l:List Zad)(x:List Zab)(g:Zan),runT (ZqI part k i w) l=some (.ret x g)→x.length+g.fgot.length=w.length+l.length
 | 0,i,w,l,x,g,h=>by simp[ZqI,runT]at h;rw[←h.1,←h.2]
 |k+1,i,w,[],x,g,h=>by simp[ZqI,runT,Znd,Pr.bind]at h
 |k+1,i,w,v :: l,x,g,h=>by
  have:=Zto part k (i+1) (w++[v.fPeer]) l x g h
  simp only[List.length_append,List.length_cons,List.length_nil]at this ⊢
  omega
theorem ZFs{part:Int}{l:List Zad}{x:List Zab}{g:Zan}(h:runT (ZuF part) l=some (.ret x g)):x.length≤l.length:=by
 cases l with
 |nil=>simp[ZuF,runT,Znd,Pr.bind]at h
 |cons v l=>
  have:=Zto part _ _ _ l x g h;simp only[List.length_cons,List.length_nil]at this ⊢;omega
theorem ZxE(part:Int)(Q:Zab→Prop):∀(k i:Nat)(w:List Zab)(l:List Zad)(x:List Zab)(g:Zan),runT (ZqI part k i w) l=some (.ret x g)→(∀p∈w,Q p)→(∀v∈l,Q v.fPeer)→∀p∈x,Q p
 | 0,i,w,l,x,g,h,hw,hl=>by simp[ZqI,runT]at h;rw[←h.1];exact hw
 |k+1,i,w,[],x,g,h,hw,hl=>by simp[ZqI,runT,Znd,Pr.bind]at h
 |k+1,i,w,v :: l,x,g,h,hw,hl=>by
  refine ZxE part Q k (i+1) (w++[v.fPeer]) l x g h (fun p hp=>?_) (fun v' hv=>hl v' (List.mem_cons_of_mem _ hv))
  rcases List.mem_append.1 hp with hp|hp
  ·exact hw p hp
  ·rw[List.mem_singleton.1 hp];exact hl v (by simp)
theorem ZAz{part:Int}{Q:Zab→Prop}{l:List Zad}{x:List Zab}{g:Zan}(h:runT (ZuF part) l=some (.ret x g))(hl:∀v∈l,Q v.fPeer):∀p∈x,Q p:=by
 cases l with
 |nil=>simp[ZuF,runT,Znd,Pr.bind]at h
 |cons v l=>exact ZxE part Q _ _ _ l x g h (by simp) fun v' hv=>hl v' (List.mem_cons_of_mem _ hv)
def wrB(was now:List Zab)(i:Nat):Bool:=decide (was.length≤i) || !decide (was.getD i Zab.d=now.getD i Zab.d)
def wrL(was now:List Zab):List Int:=((List.range now.length).filter (wrB was now)).map fun(i:Nat)=>(i:Int)
theorem ZAh(was now:List Zab)(hn:now.length≤1000000):ZhH was now=some (wrL was now):=by
 have main:∀(k i f:Nat),now.length-i=k→i≤now.length→k+1≤f→ZbT was f now (now.length:Int) i (((List.range i).filter (wrB was now)).map fun(i:Nat)=>(i:Int))=some (wrL was now):=by
  intro k;induction k with
  |zero=>
   intro i f hk hi hf;obtain⟨f,rfl⟩ : ∃x,f=x+1:=⟨f-1,by omega⟩;unfold ZbT;simp only[Zao];rw[if_neg (by omega)];have:i=now.length:=by omega
   rw[this];rfl
  |succ k ih=>
   intro i f hk hi hf;obtain⟨f,rfl⟩ : ∃x,f=x+1:=⟨f-1,by omega⟩;unfold ZbT;simp only[Zao];have e1:ZaC (i:Int) 1=((i+1:Nat):Int):=add1 (n:=i+1) (by omega) (by simp only[maxLen];omega);have hl:((List.range i).filter (wrB was now)).length≤i:=by
    have:=List.length_filter_le (wrB was now) (List.range i);rw[List.length_range]at this;exact this
   have hlen:((((List.range i).filter (wrB was now)).map fun(i:Nat)=>(i:Int))++[(i:Int)]).length * 8≤140737488355328∧((((List.range i).filter (wrB was now)).map fun(i:Nat)=>(i:Int))++[(i:Int)]).length≤maxLen:=by
    simp only[List.length_append,List.length_singleton,List.length_map,maxLen];omega
   have hadd:wrB was now i=true→(((List.range i).filter (wrB was now)).map fun(i:Nat)=>(i:Int))++[(i:Int)]=((List.range (i+1)).filter (wrB was now)).map fun(i:Nat)=>(i:Int):=fun h=>by
    rw[List.range_succ,List.filter_append,List.map_append,List.filter_cons_of_pos (by rw[h])];rfl
   have hsame:wrB was now i=false→(((List.range i).filter (wrB was now)).map fun(i:Nat)=>(i:Int))=((List.range (i+1)).filter (wrB was now)).map fun(i:Nat)=>(i:Int):=fun h=>by
    rw[List.range_succ,List.filter_append,List.map_append,List.filter_cons_of_neg (by rw[h];decide)];simp
   have ih':=ih (i+1) f (by omega) (by omega) (by omega);rw[if_pos (by omega),Zaz (by omega)];by_cases h:(i:Int)≥(was.length:Int)
   ·have hb:wrB was now i=true:=by unfold wrB;rw[decide_eq_true (show was.length≤i by omega)];rfl
    rw[if_pos h,Zaz hlen,e1,hadd hb];exact ih'
   ·rw[if_neg h,Zaz (show 0≤(i:Int)∧(i:Int)<(was.length:Int)by omega)];have h0:decide (was.length≤i)=false:=decide_eq_false (by omega);by_cases h2:was.getD ((i:Int)).toNat Zab.d=now.getD ((i:Int)).toNat Zab.d
    ·have hb:wrB was now i=false:=by
      unfold wrB;rw[h0,Bool.false_or];simp only[Int.toNat_natCast]at h2;rw[decide_eq_true h2];rfl
     simp only[h2,decide_true,Bool.not_true,cond_false,e1];rw[hsame hb];exact ih'
    ·have hb:wrB was now i=true:=by
      unfold wrB;rw[h0,Bool.false_or];simp only[Int.toNat_natCast]at h2;rw[decide_eq_false h2];rfl
     simp only[h2,decide_false,Bool.not_false,cond_true];rw[Zaz hlen,e1,hadd hb];exact ih'
 exact main now.length 0 _ (by omega) (by omega) (by omega)
theorem ZGI{was now:List Zab}{x:Int}(h:x∈wrL was now):0≤x∧x<(now.length:Int):=by
 unfold wrL at h;obtain⟨i,h1,rfl⟩:=List.mem_map.1 h;have:=List.mem_range.1 (List.mem_filter.1 h1).1;omega
theorem ZGJ(was now:List Zab):(wrL was now).length≤now.length:=by
 unfold wrL;rw[List.length_map];have:=List.length_filter_le (wrB was now) (List.range now.length);rw[List.length_range]at this;exact this
def ZsZ(part:Int)(now:List Zab):List Int→Pr Unit | []=>.ret ()|i :: r=>(ZqE ⟨6,part,i⟩ ⟨0,now.getD i.toNat Zab.d,[],[]⟩ false).bind fun _=>ZsZ part now r
def ZCI(part:Int)(was now:List Zab):Pr Unit:=(ZsZ part now (wrL was now)).bind fun _=>if was.length=now.length then .ret ()else ZqE ⟨5,part,0⟩ ⟨(now.length:Int),ZqL,[],[]⟩ false
theorem ZyU(part:Int)(was now:List Zab)(l:List Zad)(hn:now.length≤1000000):Zhe ⟨l⟩ part was now=runT (ZCI part was now) l:=by
 unfold Zhe;rw[ZAh was now hn,ZaN];have hlen:=ZGJ was now;have main:∀(k i f:Nat)(l:List Zad),(wrL was now).length-i=k→i≤(wrL was now).length→k+1≤f→ZcZ part was now f (wrL was now) ((wrL was now).length:Int) i ⟨l⟩=runT ((ZsZ part now ((wrL was now).drop i)).bind fun _=>if was.length=now.length then .ret ()else ZqE ⟨5,part,0⟩ ⟨(now.length:Int),ZqL,[],[]⟩ false) l:=by
  intro k;induction k with
  |zero=>
   intro i f l hk hi hf;obtain⟨f,rfl⟩ : ∃x,f=x+1:=⟨f-1,by omega⟩;unfold ZcZ;simp only[Zao];rw[if_neg (by omega),List.drop_of_length_le (by omega)];have e:ZhX part=some ⟨5,part,0⟩:=rfl;simp only[e,Option.bind_some,ZsZ,Pr.bind_ret];by_cases hc:was.length=now.length
   ·have e2:(((was.length:Nat):Int) != ((now.length:Nat):Int))=false:=by simp[hc]
    rw[if_pos hc,e2,cond_false];rfl
   ·have e2:(((was.length:Nat):Int) != ((now.length:Nat):Int))=true:=by
     rw[bne_iff_ne];omega
    rw[if_neg hc,e2,cond_true,ZrE];exact Zth (p:=ZqE ⟨5,part,0⟩ ⟨(now.length:Int),ZqL,[],[]⟩ false) (fun _ _=>rfl) (fun _=>rfl)
  |succ k ih=>
   intro i f l hk hi hf;obtain⟨f,rfl⟩ : ∃x,f=x+1:=⟨f-1,by omega⟩;unfold ZcZ;simp only[Zao];have e1:ZaC (i:Int) 1=((i+1:Nat):Int):=add1 (n:=i+1) (by omega) (by simp only[maxLen];omega);have hm:=ZGI (Zga (wrL was now) (0:Int) i (by omega));have hm':0≤(wrL was now).getD ((i:Int)).toNat (0:Int)∧(wrL was now).getD ((i:Int)).toNat (0:Int)<(now.length:Int):=by simpa using hm
   have e:∀x,ZhW part x=some ⟨6,part,x⟩:=fun _=>rfl;rw[if_pos (by omega),Zaz (by omega)];simp only[e,Option.bind_some];rw[Zaz hm',Zgx (wrL was now) (0:Int) i (by omega)];simp only[ZsZ,Pr.bind_assoc,Int.toNat_natCast,ZrE];refine ZbH (fun x a ha h=>?_) (fun o=>rfl);dsimp only;rw[e1];exact ih (i+1) f _ (by omega) (by omega) (by omega)
 have:=main (wrL was now).length 0 ((((wrL was now).length:Int)-(0:Int)).toNat+2) l (by omega) (by omega) (by omega);rw[List.drop_zero]at this;exact this
def ZBW(k by_:Int)(mark:Bool):Nat→Pr Unit|0=>.no|n+1=>(Znd ⟨k,0,0⟩).bind fun v=>(ZHN k v.fN (ZaC v.fN by_) mark).bind fun b=>bif b then .ret ()else ZBW k by_ mark n
theorem ZAl(k by_:Int)(mark:Bool):∀(f:Nat)(l:List Zad),ZeL by_ mark f ⟨l⟩ ⟨k,0,0⟩=runT (ZBW k by_ mark f) l:=by
 intro f;induction f with
 |zero=>intro l;rfl
 |succ f ih=>
  intro l;unfold ZeL;rw[Zlq];refine ZbH (fun x a ha h=>?_) (fun o=>rfl);dsimp only;rw[ZGc];refine ZbH (fun b a ha h=>?_) (fun o=>rfl);dsimp only;cases b with
  |true=>rfl
  |false=>exact ih _
theorem Zxf(k by_:Int)(mark:Bool)(l:List Zad):ZhZ ⟨l⟩ k by_ mark=runT (ZBW k by_ mark 1000000) l:=by
 unfold ZhZ;exact ZAl k by_ mark 1000000 l
def ZDz:Nat→Nat→Pr Unit|_,0=>.ret ()|i,k+1=>(keyP 1 (2+(i:Int)) false).bind fun _=>ZDz (i+1) k
def Zwz(p:Int):Pr Unit:=ZDz 0 (ZcU p)
theorem ZHM{i:Nat}(h:i≤1000):ZaC 2 (i:Int)=2+(i:Int):=ZgM (by omega) (by omega)
theorem Zuy(p:Int)(l:List Zad):Zgz ⟨l⟩ p=runT (Zwz p) l:=by
 have h8:=(ZkH p).2;unfold Zgz;rw[ZlC,ZaN];have main:∀(k i f:Nat)(l:List Zad),ZcU p-i=k→i≤ZcU p→k+1≤f→Zcy f (ZcU p:Int) i ⟨l⟩=runT (ZDz i k) l:=by
  intro k;induction k with
  |zero=>
   intro i f l hk hi hf;obtain⟨f,rfl⟩ : ∃x,f=x+1:=⟨f-1,by omega⟩;unfold Zcy;simp only[Zao];rw[if_neg (by omega)];rfl
  |succ k ih=>
   intro i f l hk hi hf;obtain⟨f,rfl⟩ : ∃x,f=x+1:=⟨f-1,by omega⟩;unfold Zcy;simp only[Zao];have e1:ZaC (i:Int) 1=((i+1:Nat):Int):=add1 (n:=i+1) (by omega) (by simp only[maxLen];omega);rw[if_pos (by omega),ZHM (by omega),ZrG];refine ZbH (fun x a ha h=>?_) (fun o=>rfl);dsimp only;rw[e1];exact ih (i+1) f _ (by omega) (by omega) (by omega)
 exact main (ZcU p) 0 _ l (by omega) (by omega) (by omega)
def ZAX(mark:Bool)(m:Nat):Nat→Pr Unit|0=>.ret ()|n+1=>(keyP 3 (2+(n:Int)) (mark&&decide (n+1=m))).bind fun _=>ZAX mark m n
def ZwL(p:Int)(mark:Bool):Pr Unit:=ZAX mark (ZcU p) (ZcU p)
theorem ZuA(p:Int)(mark:Bool)(l:List Zad):ZgA ⟨l⟩ p mark=runT (ZwL p mark) l:=by
 have h8:=ZkH p;unfold ZgA;rw[ZlC,ZaN];obtain⟨c,hc⟩ : ∃c:Nat,ZcU p=c+1:=⟨ZcU p-1,by omega⟩;have main:∀(n f:Nat)(l:List Zad),n≤ZcU p→n+1≤f→ZbK p mark f ((n:Int)-1) ⟨l⟩=runT (ZAX mark (ZcU p) n) l:=by
  intro n;induction n with
  |zero=>
   intro f l hn hf;obtain⟨f,rfl⟩ : ∃x,f=x+1:=⟨f-1,by omega⟩;unfold ZbK;simp only[Zao];rw[if_neg (by omega)];rfl
  |succ n ih=>
   intro f l hn hf;obtain⟨f,rfl⟩ : ∃x,f=x+1:=⟨f-1,by omega⟩;unfold ZbK;simp only[Zao];have e0:(((n+1:Nat):Int)-1)=(n:Int):=by omega
   have e1:Zby (n:Int) 1=((n:Int)-1):=by
    cases n with
    |zero=>exact sub0
    |succ n=>rw[ZvW (by omega)];omega
   rw[e0,if_pos (by omega),ZHM (by omega),ZlC];simp only[ZaN,e1];have hm:∀m:Bool,m=(mark&&decide (n+1=ZcU p))→((ZbV ⟨l⟩ (2+(n:Int)) m).bind fun x3=>match x3 with
      | .ret x3v x3g=>ZbK p mark f ((n:Int)-1) x3g
      | .pan x3o=>some (Tout.pan x3o)
      | .bad x3s=>some (Tout.bad x3s))=runT (ZAX mark (ZcU p) (n+1)) l:=by
    rintro m rfl;rw[ZpL];refine ZbH (fun x a ha h=>?_) (fun o=>rfl);exact ih f _ (by omega) (by omega)
   cases mark with
   |true=>
    simp only[cond_true];refine hm _ ?_;rw[hc,ZvW (by omega)];by_cases h:n=c
    ·subst h;simp
    ·have h2:((n:Int)==(c:Int))=false:=beq_false_of_ne (by omega);simp[h,h2]
   |false=>
    simp only[cond_false];exact hm _ rfl
 have e:Zby (ZcU p:Int) 1=(ZcU p:Int)-1:=by rw[hc,ZvW (by omega)];omega
 rw[e];exact main (ZcU p) _ l (Nat.le_refl _) (by omega)
def gv(v:Zad):Prop:=v.ok∧v.fBans.length≤5000∧v.fBook.length≤5000
structure Gd (l:List Zad):Prop where
 len:l.length≤400000
 val:∀v∈l,gv v
theorem Gd.drop{l:List Zad}(h:Gd l)(a:Nat):Gd (l.drop a):=⟨by have:=h.len;simp;omega,fun v hv=>h.val v (List.mem_of_mem_drop hv)⟩
def Zmu(k:Int):Zaq:=⟨k,endZ,0,0,[]⟩
def pt(c:Zax)(x:ZaB):Int:=Zzn x.fEnd.fAddr c.fSecret c.fShards
section
variable {c:Zax} {x:ZaB} (hx:x.ok)
include hx
theorem pt_le:0≤pt c x∧pt c x≤7:=by
 obtain⟨_,_,h1,h2⟩:=ZvZ x.fEnd.fAddr hx.2.1.1 c.fSecret c.fShards;have:ZoO c.fShards≤8:=by
  unfold ZoO
  repeat' split
  all_goals omega
 unfold pt;omega
theorem ZGq:ZaC 2 (pt c x)=2+pt c x:=by
 have:=pt_le (c:=c) hx;exact ZgM (by omega) (by omega)
end
def Zxg:Pr Zaq:=(keyP 8 0 true).bind fun _=>.ret (Zmu 1)
section
variable {c:Zax} {x:ZaB} (hx:x.ok) {l:List Zad} (hl:Gd l)
include hx hl
end
section
variable {c:Zax} {x:ZaB} (hx:x.ok) {l:List Zad} (hl:Gd l)
include hx hl
end
structure Gl (l:List Zad):Prop where
 len:l.length≤800
 val:∀v∈l,v.ok∧v.fBans.length≤800∧v.fBook.length≤800
theorem Gl.drop{l:List Zad}(h:Gl l)(a:Nat):Gl (l.drop a):=⟨by have:=h.len;simp;omega,fun v hv=>h.val v (List.mem_of_mem_drop hv)⟩
theorem Zzx{c:Zap}{l:List Zad}{x:Zad}{g:Zan}(h:runT (Znd c) l=some (.ret x g))(hl:Gl l):x.ok∧x.fBans.length≤800∧x.fBook.length≤800:=by
 obtain⟨r,rfl,_⟩:=ZqU h;exact hl.val x (by simp)
theorem Zwd{α β:Type}{p:Pr α}{f:α→Pr β}:∀{l:List Zad}{y:β}{g:Zan},runT (p.bind f) l=some (.ret y g)→∃x g1,runT p l=some (.ret x g1)∧runT (f x) g1.fgot=some (.ret y g):=by
 induction p with
 |ret x=>intro l y g h;exact⟨x,⟨l⟩,rfl,h⟩
 |ask o k ih=>
  intro l y g h;cases l with
  |nil=>simp[Pr.bind,runT]at h
  |cons v l=>exact ih v h
 |no=>intro l y g h;simp[Pr.bind,runT]at h
def Zxc:Nat→Nat→List Zab→Pr (List Zab)|0,_,w=>.ret w|k+1,i,w=>(ZuF (i:Int)).bind fun x=>Zxc k (i+1) (w++x)
theorem ZxF{part:Int}{l:List Zad}{x:List Zab}{g:Zan}(h:runT (ZuF part) l=some (.ret x g)):x.length+g.fgot.length≤l.length:=by
 cases l with
 |nil=>simp[ZuF,runT,Znd,Pr.bind]at h
 |cons v l=>
  have:=Zto part _ _ _ l x g h;simp only[List.length_cons,List.length_nil]at this ⊢;omega
theorem Zsm:∀(k i:Nat)(w:List Zab)(l:List Zad)(x:List Zab)(g:Zan),runT (Zxc k i w) l=some (.ret x g)→x.length+g.fgot.length≤w.length+l.length∧∀Q:Zab→Prop,(∀p∈w,Q p)→(∀v∈l,Q v.fPeer)→∀p∈x,Q p
 | 0,i,w,l,x,g,h=>by
  simp only[Zxc,runT,Option.some.injEq,Tout.ret.injEq]at h
  obtain⟨rfl,rfl⟩:=h
  exact⟨Nat.le_refl _,fun Q hw _=>hw⟩
 |k+1,i,w,l,x,g,h=>by
  obtain⟨y,g1,h1,h2⟩:=Zwd h
  have h3:=ZxF h1
  obtain⟨h4,h5⟩:=Zsm k (i+1) (w++y) g1.fgot x g h2
  obtain⟨a,ha,rfl⟩:=ZCW _ _ _ _ h1
  simp only at h3 h4
  refine⟨by simp only[List.length_append]at h4;omega,fun Q hw hl=>h5 Q (fun p hp=>?_) (fun v hv=>hl v (List.mem_of_mem_drop hv))⟩
  rcases List.mem_append.1 hp with hp|hp
  ·exact hw p hp
  ·exact ZAz h1 hl p hp
def ZFd(n:Nat):Pr ZaD:=(Znd ⟨3,0,0⟩).bind fun b=>(Znd ⟨4,0,0⟩).bind fun v=>(Zxc n 0 []).bind fun w=>.ret ⟨v.fBook,w,b.fBans⟩
theorem ZAM{got:List Zad}(hG:Gl got){b v:Zad}(hb:b∈got)(hv:v∈got){w:List Zab}(h1:w.length≤800)(h2:∀p∈w,p.ok):Zpy ⟨v.fBook,w,b.fBans⟩:=by
 have e1:=hG.val b hb;have e2:=hG.val v hv;exact⟨by show v.fBook.length≤900;omega,by show w.length≤900;omega,by show b.fBans.length≤900;omega,e2.1.2.2.2.1.2,h2,e1.1.2.2.1.2⟩
theorem ZBD{n:Nat}{l:List Zad}{v:ZaD}{g:Zan}(h:runT (ZFd n) l=some (.ret v g))(hl:Gl l):Zpy v:=by
 obtain⟨b,g1,h1,h2⟩:=Zwd h;obtain⟨r1,rfl,rfl⟩:=ZqU h1;obtain⟨u,g2,h3,h4⟩:=Zwd h2;obtain⟨r2,hr2,rfl⟩:=ZqU h3;obtain⟨w,g3,h5,h6⟩:=Zwd h4;simp only at hr2;subst hr2;simp only[runT,Option.some.injEq,Tout.ret.injEq]at h6;obtain⟨rfl,rfl⟩:=h6;obtain⟨h7,h8⟩:=Zsm _ _ _ _ _ _ h5;have hlen:=hl.len;simp only[List.length_cons,List.length_nil]at h7 hlen;exact ZAM hl (by simp) (by simp) (by omega) (h8 Zab.ok (by simp) fun v hv=>(hl.val v (by simp[hv])).1.2.1)
def stE(e:Zaa)(s:Int):Zaa:=⟨e.fEnd,s,e.fFails,e.fNext⟩
def ZHj(e:Zaa):Zaa:=⟨e.fEnd,3,0,e.fNext⟩
def newE(x:ZaB):Zaa:=⟨x.fEnd,1,0,fitI x.fNow⟩
def ZBU(x:ZaB):Zab:=⟨x.fEnd,false,fitI x.fNow,⟨0,fitI x.fNow⟩,0,0⟩
def Zve(l:List Zah)(a:Zag)(now:Int):Int:=(Zhh l a now).getD 0
theorem Zxl(l:List Zah)(a:Zag)(now:Int)(hl:l.length≤maxLen)(hok:∀b∈l,b.ok)(ha:a.ok):Zhh l a now=some (Zve l a now)∧Zef l a now=some (Zve l a now):=by
 obtain⟨r,u1,u2⟩:=ZvV l a now hl hok ha;obtain⟨s,u3,u4⟩:=Ztn l a now hl hok ha;have hrs:r=s:=Zvx u2 u4 fun b=>Iff.rfl;subst hrs;unfold Zve;rw[u1,u3];exact⟨rfl,rfl⟩
def ZvA(l:List Zaa)(e:Zaa):Pr Unit:=ZqE ⟨4,0,0⟩ ⟨0,ZqL,[],setS l e⟩ false
def ZxW(l:List Zaa)(e:Zaa):Pr Unit:=(ZvA l e).bind fun _=>ZBW 2 (-1) true 1000000
def Zyl(c:Zax)(x:ZaB)(l:List Zaa)(e:Zaa)(k:Int):Pr (Zaq×Bool):=(ZxW l (ZwM c e x.fNow x.fNum)).bind fun _=>.ret (⟨k,endZ,(ZwM c e x.fNow x.fNum).fFails,(ZwM c e x.fNow x.fNum).fNext,[]⟩,false)
def entA(l:List Zaa)(e:Zaj):Zaa:=l.getD (ZkW l e).toNat Zaa.d
def ZDo(c:Zax)(x:ZaB):Pr (Zaq×Bool):=(ZFd c.fShards.toNat).bind fun v=>(Znd ⟨2,0,0⟩).bind fun o=>if o.fN≥c.fMaxOut then .ret (Zmu 5,true)else if(ZpM v x.fNow).2=true then(ZBW 2 1 true 1000000).bind fun _=>(ZvA v.fBook (stE (entA v.fBook (ZpM v x.fNow).1) 2)).bind fun _=>.ret (⟨0,(ZpM v x.fNow).1,0,0,[]⟩,false)else .ret (⟨6,endZ,0,Zza v x.fNow,[]⟩,true)
def ZHu(c:Zax)(r:Zaq×Bool):Pr Zaq:=(ZwL c.fShards r.2).bind fun _=>(keyP 3 1 false).bind fun _=>(keyP 4 0 false).bind fun _=>.ret r.1
def ZFK(c:Zax)(x:ZaB):Pr Zaq:=(keyP 2 0 false).bind fun _=>(keyP 1 1 false).bind fun _=>(Zwz c.fShards).bind fun _=>(ZDo c x).bind fun r=>ZHu c r
def ZFF(n:Int)(x:ZaB)(l:List Zaa)(e:Zaa):Pr (Zaq×Bool):=(ZuF n).bind fun ps=>if Zyk ps x.fEnd≥0 then(ZxW l (stE e 1)).bind fun _=>.ret (Zmu 7,false)else(ZvA l (ZHj e)).bind fun _=>(ZCI n ps (ps++[ZBU x])).bind fun _=>.ret (repZ,true)
def ZDS(n:Int)(c:Zax)(x:ZaB)(l:List Zaa)(e:Zaa):Pr (Zaq×Bool):=if x.fGood=true then(Znd ⟨3,0,0⟩).bind fun b=>if Zve b.fBans x.fEnd.fAddr x.fNow>0 then Zyl c x l e 8 else ZFF n x l e else Zyl c x l e 0
def resP(n:Int)(c:Zax)(x:ZaB):Pr (Zaq×Bool):=(Znd ⟨4,0,0⟩).bind fun v=>if ZkW v.fBook x.fEnd<0 then .ret (Zmu 6,true)else if(entA v.fBook x.fEnd).fState=2 then ZDS n c x v.fBook (entA v.fBook x.fEnd)else .ret (Zmu 6,true)
def ZDR(n:Int)(r:Zaq×Bool):Pr Zaq:=(keyP 3 (2+n) r.2).bind fun _=>(keyP 3 1 false).bind fun _=>(keyP 4 0 false).bind fun _=>.ret r.1
def Zwg(c:Zax)(x:ZaB):Pr Zaq:=(keyP 2 0 false).bind fun _=>(keyP 1 1 false).bind fun _=>(keyP 1 (2+pt c x) false).bind fun _=>(resP (pt c x) c x).bind fun r=>ZDR (pt c x) r
def ZAN(c:Zax)(x:ZaB):Pr Zaq:=(keyP 1 1 false).bind fun _=>(Znd ⟨4,0,0⟩).bind fun v=>if(addS v.fBook (newE x) c.fMaxBook).2=0 then(ZqE ⟨4,0,0⟩ ⟨0,ZqL,[],(addS v.fBook (newE x) c.fMaxBook).1⟩ true).bind fun _=>(keyP 3 1 false).bind fun _=>.ret (Zmu 0)else(keyP 3 1 true).bind fun _=>.ret (Zmu (addS v.fBook (newE x) c.fMaxBook).2)
def ZBG(c:Zax)(x:ZaB):Pr Zaq:=if ZkZ x=true then(if x.fKind=3 then ZFK c x else if x.fKind=4 then Zwg c x else if x.fKind=13 then ZAN c x else Zxg)else Zxg
theorem ZGj(n:Nat)(hn:n≤1000)(b4:ZaD)(book:List Zaa)(bans:List Zah):∀(k i fu:Nat)(w:List Zab)(l:List Zad),n-i=k→i≤n→k+1≤fu→w.length+l.length≤900000 →
  ZcI fu (n:Int) (i:Int) ⟨l⟩ b4 book w bans=runT ((Zxc k i w).bind fun w=>.ret ⟨book,w,bans⟩) l:=by
 intro k;induction k with
 |zero=>
  intro i fu w l hk hi hf hl;obtain⟨fu,rfl⟩ : ∃x,fu=x+1:=⟨fu-1,by omega⟩;unfold ZcI;simp only[Zao];rw[if_neg (by omega)];rfl
 |succ k ih=>
  intro i fu w l hk hi hf hl;obtain⟨fu,rfl⟩ : ∃x,fu=x+1:=⟨fu-1,by omega⟩;unfold ZcI;simp only[Zao];rw[if_pos (by omega),Zxe _ _ (by omega)];unfold Zxc;rw[Pr.bind_assoc];refine ZbH (fun x a ha h=>?_) (fun _=>rfl);dsimp only;have h1:=ZxF h;simp only[List.length_drop]at h1;have e1:ZaC (i:Int) 1=((i+1:Nat):Int):=add1 (n:=i+1) (by omega) (by simp only[maxLen];omega);rw[Zaz ⟨by simp only[List.length_append];omega,by simp only[List.length_append,maxLen];omega⟩,e1];exact ih (i+1) fu (w++x) (l.drop a) (by omega) (by omega) (by omega) (by simp only[List.length_append,List.length_drop];omega)
section
variable {c:Zax} {x:ZaB} (hx:x.ok) (hs:c.fShards≤1000) {l:List Zad} (hl:Gl l)
include hx hs hl
theorem ZGd:Zhz ⟨c,x⟩ ⟨l⟩=runT (ZFd c.fShards.toNat) l:=by
 have _u:=hx;have hlen:=hl.len;unfold Zhz;rw[Zlq];refine ZbH (fun b a ha h=>?_) (fun _=>rfl);dsimp only;have e:ZiQ=some ⟨4,0,0⟩:=rfl;rw[e,ZaN,Zlq];refine ZbH (fun v d hd h=>?_) (fun _=>rfl);dsimp only;by_cases h0:0≤c.fShards
 ·obtain⟨n,hn⟩ : ∃n:Nat,c.fShards=(n:Int):=⟨c.fShards.toNat,by omega⟩;rw[hn,Int.toNat_natCast];exact ZGj n (by omega) _ _ _ n 0 _ [] _ (by omega) (by omega) (by omega) (by simp only[List.length_nil,List.length_drop];omega)
 ·have hz:c.fShards.toNat=0:=by omega
  rw[hz];obtain⟨fu,hfu⟩ : ∃fu,(c.fShards-0).toNat+2=fu+1:=⟨_,rfl⟩;rw[hfu];unfold ZcI;simp only[Zao];rw[if_neg (by omega)];rfl
omit hs hl in
theorem Zuz(w:List Zaa)(e:Zaa)(hw:w.length≤10000):ZdI ⟨c,x⟩ ⟨l⟩ w e=runT (ZvA w e) l:=by
 have _u:=hx;unfold ZdI;have e1:ZiQ=some ⟨4,0,0⟩:=rfl;rw[e1,ZaN,ZFS _ _ hw,ZaN,ZrE];exact Zth (p:=ZvA w e) (fun _ _=>rfl) (fun _=>rfl)
omit hs hl in
theorem ZyW(w:List Zaa)(e:Zaa)(hw:w.length≤10000):ZeD ⟨c,x⟩ ⟨l⟩ w e=runT (ZxW w e) l:=by
 unfold ZeD;rw[Zuz hx w e hw];refine ZbH (fun _ a ha h=>?_) (fun _=>rfl);dsimp only;rw[Zxf];exact Zth (fun _ _=>rfl) (fun _=>rfl)
omit hs hl in
theorem ZyZ(w:List Zaa)(e:Zaa)(k:Int)(hw:w.length≤10000):ZfD ⟨c,x⟩ ⟨l⟩ w e k=runT (Zyl c x w e k) l:=by
 unfold ZfD;rw[(ZDV c e x.fNow x.fNum).1,ZaN,ZyW hx w _ hw];exact ZbH (fun _ _ _ _=>rfl) (fun _=>rfl)
theorem ZEQ:ZgY ⟨c,x⟩ ⟨l⟩=runT (ZDo c x) l:=by
 unfold ZgY;rw[ZGd hx hs hl];refine ZbH (fun v a ha h=>?_) (fun _=>rfl);have hv:=ZBD h hl;have hb:=hv.book;obtain⟨p1,_,p3⟩:=ZDq hv x.fNow;have hlt:=Zsg v.fBook (ZpM v x.fNow).1;dsimp only;rw[Zlq];refine ZbH (fun o d hd _=>?_) (fun _=>rfl);dsimp only;rw[Zao];by_cases h0:o.fN≥c.fMaxOut
 ·rw[if_pos h0,if_pos h0];rfl
 ·rw[if_neg h0,if_neg h0,p1,ZaN];cases hok:(ZpM v x.fNow).2 with
  |false=>
   rw[Bool.not_false,cond_true,if_neg (by decide),(ZCL hv x.fNow).1];rfl
  |true=>
   have:=p3 hok;rw[Bool.not_true,cond_false,if_pos rfl,Zxf];refine ZbH (fun _ e he _=>?_) (fun _=>rfl);dsimp only;rw[ZrB _ _ (by unfold maxLen;omega),ZaN,Zaz (by omega)];have ef:ZnT (v.fBook.getD (ZkW v.fBook (ZpM v x.fNow).1).toNat Zaa.d)=some (stE (entA v.fBook (ZpM v x.fNow).1) 2):=rfl;rw[ef,ZaN,Zuz hx _ _ (by omega)];exact ZbH (fun _ _ _ _=>rfl) (fun _=>rfl)
theorem ZGi:ZhB ⟨c,x⟩ ⟨l⟩=runT (ZFK c x) l:=by
 unfold ZhB;rw[ZyV];refine ZbH (fun _ a ha _=>?_) (fun _=>rfl);dsimp only;rw[ZrG];refine ZbH (fun _ b hb _=>?_) (fun _=>rfl);dsimp only;rw[Zuy];refine ZbH (fun _ d hd _=>?_) (fun _=>rfl);dsimp only;rw[ZEQ hx hs (((hl.drop a).drop b).drop d)];refine ZbH (fun r e he _=>?_) (fun _=>rfl);dsimp only;rw[ZuA];refine ZbH (fun _ _ _ _=>?_) (fun _=>rfl);dsimp only;rw[ZpL];refine ZbH (fun _ _ _ _=>?_) (fun _=>rfl);dsimp only;rw[ZBs];exact ZbH (fun _ _ _ _=>rfl) (fun _=>rfl)
omit hs in
theorem ZGg(w:List Zaa)(e:Zaa)(hw:w.length≤10000) :
  ((Zhj ⟨l⟩ (pt c x)).bind fun x10=>
       (match x10 with
       | .ret x10v x10g=>
        (Zjr x10v x.fEnd).bind fun x11=>
        bif(decide (x11≥(0:Int)))then
         (ZkP e).bind fun x12=>
         (ZeD ⟨c,x⟩ x10g w x12).bind fun x13=>
         (match x13 with
         | .ret x13v x13g=>
          (ZdN (7:Int)).bind fun x14=>
          some (Tout.ret (x14,false) x13g)
         | .pan x13o=>
          some (Tout.pan x13o)
         | .bad x13s=>
          some (Tout.bad x13s))
        else
         (ZkO e).bind fun x15=>
         (ZdI ⟨c,x⟩ x10g w x15).bind fun x16=>
         (match x16 with
         | .ret x16v x16g=>
          (Zbm x10v).bind fun x17=>
          (ZlA x.fEnd false x.fNow).bind fun x18=>
          need ((x17++([x18]:List Zab)).length * 80≤140737488355328∧(x17++([x18]:List Zab)).length≤maxLen) <|
          (Zhe x16g (pt c x) x10v (x17++([x18]:List Zab))).bind fun x19=>
          (match x19 with
          | .ret x19v x19g=>
           some (Tout.ret ((Zaq.mk (0:Int) (Zaj.mk (Zag.mk false (0:Int) (0:Int)) (0:Int)) (0:Int) (0:Int) ([]:(List Zab))),true) x19g)
          | .pan x19o=>
           some (Tout.pan x19o)
          | .bad x19s=>
           some (Tout.bad x19s))
         | .pan x16o=>
          some (Tout.pan x16o)
         | .bad x16s=>
          some (Tout.bad x16s))
       | .pan x10o=>
        some (Tout.pan x10o)
       | .bad x10s=>
        some (Tout.bad x10s)))=runT (ZFF (pt c x) x w e) l:=by
 have hlen:=hl.len;rw[Zxe _ _ (by omega)];refine ZbH (fun ps d hd h3=>?_) (fun _=>rfl);have h4:=ZFs h3;dsimp only;rw[ZBx _ _ (by unfold maxLen;omega),ZaN,Zao];by_cases hf:Zyk ps x.fEnd≥0
 ·have ed:ZkP e=some (stE e 1):=rfl;rw[if_pos hf,if_pos hf,ed,ZaN,ZyW hx _ _ hw];exact ZbH (fun _ _ _ _=>rfl) (fun _=>rfl)
 ·have eg:ZkO e=some (ZHj e):=rfl;rw[if_neg hf,if_neg hf,eg,ZaN,Zuz hx _ _ hw];refine ZbH (fun _ b hb _=>?_) (fun _=>rfl);dsimp only;have ec:Zbm ps=some ps:=by
   unfold Zbm;rw[Zaz ⟨by omega,by unfold maxLen;omega⟩]
  have en:ZlA x.fEnd false x.fNow=some (ZBU x):=by unfold ZlA;rw[ZmZ];rfl
  rw[ec,ZaN,en,ZaN,Zaz ⟨by simp only[List.length_append,List.length_singleton];omega,by simp only[List.length_append,List.length_singleton,maxLen];omega⟩,ZyU _ _ _ _ (by simp only[List.length_append,List.length_singleton];omega)];exact ZbH (fun _ _ _ _=>rfl) (fun _=>rfl)
omit hs in
theorem ZGh:ZhA ⟨c,x⟩ ⟨l⟩ (pt c x)=runT (resP (pt c x) c x) l:=by
 have fin:∀t:Option (Tout (Zaq×Bool)),(t.bind fun y=>match y with | .ret v g=>some (Tout.ret (v.1,v.2) g) | .pan o=>some (Tout.pan o) | .bad s=>some (Tout.bad s))=t:=fun t=>by
  cases t with
  |none=>rfl
  |some t=>cases t<;>rfl
 unfold ZhA;have e1:ZiQ=some ⟨4,0,0⟩:=rfl;rw[e1,ZaN,Zlq];refine ZbH (fun v a ha h=>?_) (fun _=>rfl);have hv:=Zzx h hl;have hlt:=Zsg v.fBook x.fEnd;dsimp only;rw[ZrB _ _ (by unfold maxLen;omega),ZaN,Zao];by_cases h0:ZkW v.fBook x.fEnd<0
 ·rw[if_pos h0,if_pos h0];rfl
 ·have ee:v.fBook.getD (ZkW v.fBook x.fEnd).toNat Zaa.d=entA v.fBook x.fEnd:=rfl;rw[if_neg h0,if_neg h0,Zaz (by omega),ee];by_cases h2:(entA v.fBook x.fEnd).fState=2
  ·have e2:((entA v.fBook x.fEnd).fState != 2)=false:=by simp[h2]
   rw[if_pos h2,e2,cond_false];unfold ZDS;cases hg:x.fGood with
   |false=>
    rw[Bool.not_false,cond_true,if_neg (by decide),ZyZ hx _ _ _ (by omega)];exact fin _
   |true=>
    rw[Bool.not_true,cond_false,if_pos rfl,Zlq];refine ZbH (fun b d hd h3=>?_) (fun _=>rfl);have hb:=Zzx h3 (hl.drop a);dsimp only;rw[(Zxl b.fBans x.fEnd.fAddr x.fNow (by unfold maxLen;omega) hb.1.2.2.1.2 hx.2.1.1).1,ZaN,Zao];by_cases hu:Zve b.fBans x.fEnd.fAddr x.fNow>0
    ·rw[if_pos hu,if_pos hu,ZyZ hx _ _ _ (by omega)];exact fin _
    ·rw[if_neg hu,if_neg hu];exact ZGg hx ((hl.drop a).drop d) _ _ (by omega)
  ·have e2:((entA v.fBook x.fEnd).fState != 2)=true:=by rw[bne_iff_ne];exact h2
   rw[if_neg h2,e2,cond_true];rfl
omit hs in
theorem ZCA:Zgi ⟨c,x⟩ ⟨l⟩=runT (Zwg c x) l:=by
 unfold Zgi;have e:Zjs x.fEnd.fAddr c.fSecret c.fShards=some (pt c x):=(ZvZ x.fEnd.fAddr hx.2.1.1 c.fSecret c.fShards).1;rw[e,ZaN,ZGq hx,ZyV];refine ZbH (fun _ a ha _=>?_) (fun _=>rfl);dsimp only;rw[ZrG];refine ZbH (fun _ b hb _=>?_) (fun _=>rfl);dsimp only;rw[ZrG];refine ZbH (fun _ d hd _=>?_) (fun _=>rfl);dsimp only;rw[ZGh hx (((hl.drop a).drop b).drop d)];refine ZbH (fun r e he _=>?_) (fun _=>rfl);dsimp only;rw[ZpL];refine ZbH (fun _ _ _ _=>?_) (fun _=>rfl);dsimp only;rw[ZpL];refine ZbH (fun _ _ _ _=>?_) (fun _=>rfl);dsimp only;rw[ZBs];exact ZbH (fun _ _ _ _=>rfl) (fun _=>rfl)
omit hx hs hl in
theorem ZHm(a:Int):okI .i64 (fitI a):=by
 have:=Zsf a;simp only[okI,Lit.wf,IntKind.min,IntKind.max,IntKind.bits,IntKind.signed];simp;omega
omit hs hl in
theorem Zzu:(newE x).ok:=⟨hx.2.1,rfl,rfl,ZHm _,trivial⟩
omit hs in
theorem ZEV:ZgZ ⟨c,x⟩ ⟨l⟩=runT (ZAN c x) l:=by
 unfold ZgZ;rw[ZrG];refine ZbH (fun _ a ha _=>?_) (fun _=>rfl);dsimp only;have e1:ZiQ=some ⟨4,0,0⟩:=rfl;rw[e1,ZaN,Zlq];refine ZbH (fun v d hd h=>?_) (fun _=>rfl);have hv:=Zzx h (hl.drop a);dsimp only;have en:ZlU x.fEnd x.fNow=some (newE x):=by unfold ZlU;rw[ZmZ];rfl
 rw[en,ZaN,ZFT _ _ _ (by omega) (Zzu hx),ZaN,ZhN];by_cases h0:(addS v.fBook (newE x) c.fMaxBook).2=0
 ·have e2:((addS v.fBook (newE x) c.fMaxBook).2 != 0)=false:=by rw[h0];rfl
  rw[if_pos h0,if_pos h0,ZrE];refine ZbH (p:=ZqE ⟨4,0,0⟩ ⟨0,ZqL,[],(addS v.fBook (newE x) c.fMaxBook).1⟩ true) (fun _ _ _ _=>?_) (fun _=>rfl);dsimp only;rw[e2,ZpL];refine ZbH (fun _ _ _ _=>?_) (fun _=>rfl);dsimp only;rw[h0];rfl
 ·have e2:((addS v.fBook (newE x) c.fMaxBook).2 != 0)=true:=by rw[bne_iff_ne];exact h0
  rw[if_neg h0,if_neg h0,e2,ZpL];exact ZbH (fun _ _ _ _=>rfl) (fun _=>rfl)
omit hs hl in
theorem ZvR(l:List Zad):ZgX ⟨c,x⟩ ⟨l⟩=runT Zxg l:=by
 have _u:=hx;unfold ZgX;rw[ZGf];exact ZbH (fun _ _ _ _=>rfl) (fun _=>rfl)
theorem ZER:Zji c x l=(runT (ZBG c x) l).map Ztt:=by
 unfold Zji ZnP ZBG;rw[ZCv x hx,ZaN];have fin:∀t:Option ZaX,(t.bind fun y=>some y)=t:=fun t=>by cases t<;>rfl
 cases ZkZ x with
 |false=>
  simp only[Bool.not_false,cond_true,ZaN,fin,Bool.false_eq_true,if_false];unfold ZjI;rw[ZvR hx]
 |true=>
  simp only[Bool.not_true,cond_false,if_true,ZhN];by_cases h3:x.fKind=3
  ·simp only[if_pos h3,ZaN,fin];unfold ZlP;rw[ZGi hx hs hl]
  ·by_cases h4:x.fKind=4
   ·simp only[if_neg h3,if_pos h4,ZaN,fin];unfold ZlO;rw[ZCA hx hl]
   ·by_cases h13:x.fKind=13
    ·simp only[if_neg h3,if_neg h4,if_pos h13,ZaN,fin];unfold ZlN;rw[ZEV hx hl]
    ·simp only[if_neg h3,if_neg h4,if_neg h13,ZaN,fin];unfold ZjI;rw[ZvR hx]
end
theorem Wlk.ret{α β:Type}{got:List Zad}{a:Nat}(ha:a≤got.length){P:α→β→Prop}{W:β→Prop}{x:α}{b:β}(h:P x b):Wlk got a P W (.ret x) (some (wk got a,b)):=
 .inl ⟨x,b,a,rfl,rfl,Nat.le_refl _,ha,h⟩
theorem Wlk.mono{α β:Type}{got:List Zad}{a:Nat}{P P':α→β→Prop}{W W':β→Prop}{p:Pr α}{r:Option (Zac×β)}(h:Wlk got a P W p r)(h1:∀x b,P x b→P' x b)(h2:∀b,W b→W' b):Wlk got a P' W' p r:=by
 rcases h with⟨v,b,a',e1,e2,e3,e4,e5⟩|⟨q,b,e1,e2,e3,e4⟩
 ·exact .inl ⟨v,b,a',e1,e2,e3,e4,h1 _ _ e5⟩
 ·exact .inr ⟨q,b,e1,e2,e3,h2 _ e4⟩
theorem Wlk.seqP{α β γ δ:Type}{got:List Zad}{a:Nat}{P:α→β→Prop}{W:β→Prop}{p:Pr α}{r:Option (Zac×β)}(h:Wlk got a P W p r){f:α→Pr γ}{P':γ→δ→Prop}{W':δ→Prop}{K:Zac×β→Option (Zac×δ)}
  (h1:∀x b a',a≤a'→a'≤got.length→P x b→Wlk got a' P' W' (f x) (K (wk got a',b))) (h2:∀q b,W b→∃d,K (wt got q,b)=some (wt got q,d)∧W' d):Wlk got a P' W' (p.bind f) (r.bind K):=by
 have:=Wlk.seq h (f:=f) (K:=fun w b=>K (w,b)) h1 h2;cases r with
 |none=>exact this
 |some x=>exact this
theorem Wlk.seqU{α γ δ:Type}{got:List Zad}{a:Nat}{P:α→Unit→Prop}{W:Unit→Prop}{p:Pr α}{r:Option Zac}(h:Wlk got a P W p (r.map fun w=>(w,()))){f:α→Pr γ}{P':γ→δ→Prop}{W':δ→Prop}{K:Zac→Option (Zac×δ)}
  (h1:∀x a',a≤a'→a'≤got.length→P x ()→Wlk got a' P' W' (f x) (K (wk got a'))) (h2:∀q,∃d,K (wt got q)=some (wt got q,d)∧W' d):Wlk got a P' W' (p.bind f) (r.bind K):=by
 have:=Wlk.seq h (f:=f) (K:=fun w _=>K w) (fun x b=>h1 x) (fun q b _=>h2 q);cases r with
 |none=>exact this
 |some x=>exact this
theorem Wlk.seqPU{α β γ:Type}{got:List Zad}{a:Nat}{P:α→β→Prop}{W:β→Prop}{p:Pr α}{r:Option (Zac×β)}(h:Wlk got a P W p r){f:α→Pr γ}{P':γ→Unit→Prop}{W':Unit→Prop}{K:Zac×β→Option Zac}
  (h1:∀x b a',a≤a'→a'≤got.length→P x b→Wlk got a' P' W' (f x) ((K (wk got a',b)).map fun w=>(w,()))) (h2:∀q b,W b→K (wt got q,b)=some (wt got q)) (hW:W' ()):Wlk got a P' W' (p.bind f) ((r.bind K).map fun w=>(w,())):=by
 have:=Wlk.seqP h (f:=f) (K:=fun w=>(K w).map fun w=>(w,())) h1 (fun q b hb=>⟨(),by rw[h2 q b hb];rfl,hW⟩);cases r with
 |none=>exact this
 |some x=>exact this
theorem ZFU{α:Type}(r:Option α):(r.bind fun x=>some x)=r:=by cases r<;>rfl
section
variable {got:List Zad} (hL:got.length≤900000) {a:Nat} (ha:a≤got.length)
include hL ha
theorem ZHH(o:Zas)(ho:okV o.fVal):Wlk got a (fun x b=>x=b∧x∈got) (fun b=>b=valZ) (.ask o .ret) (Zcj (wk got a) o):=by
 unfold Wlk;rw[ZlG _ _ _ (by omega) ha];by_cases h:a<got.length
 ·rw[if_pos h,Zgx got Zad.d a h];exact .inl ⟨_,_,a+1,rfl,rfl,by omega,h,rfl,Zga got Zad.d a h⟩
 ·rw[if_neg h,List.drop_eq_nil_of_le (by omega)];exact .inr ⟨_,_,rfl,rfl,Zvt ho,rfl⟩
theorem ZvT(c:Zap):Wlk got a (fun x b=>x=b∧x∈got) (fun b=>b=valZ) (Znd c) (ZaW (wk got a) c):=by
 unfold ZaW;have:=ZHH hL ha ⟨5,0,c,0,0,valZ,false⟩ Zwu;have e:∀r:Option (Zac×Zad),(r.bind fun x=>some (x.1,x.2))=r:=fun r=>by cases r<;>rfl
 exact(e _).symm ▸ this
theorem Zvc(k lock:Int)(mark:Bool):Wlk got a anyP anyW (keyP k lock mark) ((ZaA (wk got a) k lock mark).map fun w=>(w,())):=by
 unfold ZaA;exact Wlk.seqPU (p:=.ask ⟨k,lock,locZ,0,0,valZ,mark⟩ .ret) (ZHH hL ha ⟨k,lock,locZ,0,0,valZ,mark⟩ Zwu) (f:=fun _=>.ret ()) (fun x b a' h1 h2 h3=>Wlk.ret h2 trivial) (fun q b _=>rfl) trivial
theorem ZEN(c:Zap)(v:Zad)(mark:Bool)(hv:okV v):Wlk got a anyP anyW (ZqE c v mark) ((Zbk (wk got a) c v mark).map fun w=>(w,())):=by
 unfold Zbk;exact Wlk.seqPU (p:=.ask ⟨6,0,c,0,0,v,mark⟩ .ret) (ZHH hL ha ⟨6,0,c,0,0,v,mark⟩ hv) (f:=fun _=>.ret ()) (fun x b a' h1 h2 h3=>Wlk.ret h2 trivial) (fun q b _=>rfl) trivial
theorem ZGF(n:Int):Wlk got a (fun x b=>x=b∧x.length≤got.length∧∀Q:Zab→Prop,(∀v∈got,Q v.fPeer)→∀p∈x,Q p) (fun b=>b.length≤got.length+1) (ZuF n) (ZcK (wk got a) n):=by
 have h:=ZHD hL ha n;rw[Zxe n (got.drop a) (by simp;omega)]at h;rcases h with⟨v,b,a',e1,e2,e3,e4,e5⟩|⟨q,b,e1,e2,e3,e4⟩
 ·exact .inl ⟨v,b,a',e1,e2,e3,e4,e5.1,e5.2,fun Q hQ=>ZAz e1 fun v hv=>hQ v (List.mem_of_mem_drop hv)⟩
 ·exact .inr ⟨q,b,e1,e2,e3,e4⟩
theorem ZHB(n:Int)(was now:List Zab)(hn:now.length≤1000000):Wlk got a anyP anyW (ZCI n was now) ((ZcT (wk got a) n was now).map fun w=>(w,())):=by
 have h:=ZGb (by omega) ha n was now hn;rw[ZyU n was now (got.drop a) hn]at h;exact h
theorem ZGG(k b:Int)(mark:Bool):Wlk got a anyP anyW (ZBW k b mark 1000000) ((ZbG (wk got a) k b mark).map fun w=>(w,())):=by
 have h:=ZHE hL ha k b mark;rw[Zxf k b mark (got.drop a)]at h;exact h
theorem ZEU(p:Int):Wlk got a anyP anyW (Zwz p) ((Zcs (wk got a) p).map fun w=>(w,())):=by
 have h:=ZCD (by omega) ha p;rw[Zuy p (got.drop a)]at h;exact h
theorem ZEW(p:Int)(mark:Bool):Wlk got a anyP anyW (ZwL p mark) ((Zct (wk got a) p mark).map fun w=>(w,())):=by
 have h:=ZCE (by omega) ha p mark;rw[ZuA p mark (got.drop a)]at h;exact h
end
section
variable {got:List Zad} (hG:Gd got) {a:Nat} (ha:a≤got.length)
include hG ha
end
section
variable {c:Zax} {x:ZaB} (hx:x.ok) {got:List Zad} (hG:Gd got) {a:Nat} (ha:a≤got.length)
include hx hG ha
end
section
variable {c:Zax} {x:ZaB} (hx:x.ok) {got:List Zad} (hG:Gd got)
include hx hG
end
theorem Wlk.run{α β:Type}{got:List Zad}{a:Nat}{P:α→β→Prop}{W:β→Prop}{p:Pr α}{r:Option (Zac×β)}(h:Wlk got a P W p r):Wlk got a (fun x b=>P x b∧∃g,runT p (got.drop a)=some (.ret x g)) W p r:=by
 rcases h with⟨v,b,a',e1,e2,e3,e4,e5⟩|⟨q,b,e1,e2,e3,e4⟩
 ·exact .inl ⟨v,b,a',e1,e2,e3,e4,e5,_,e1⟩
 ·exact .inr ⟨q,b,e1,e2,e3,e4⟩
theorem ZuB{got:List Zad}(q:Zas)(n:Nat)(hn:n≤1000)(b4:Zac):∀(k i fu:Nat)(ls:List (List Zab)),n-i=k→i≤n→k+1≤fu→ls.length≤i→∃ls',ZbJ (n:Int) fu (i:Int) ls (wt got q) b4=some (wt got q,ls'):=by
 intro k;induction k with
 |zero=>
  intro i fu ls hk hi hf hl;obtain⟨fu,rfl⟩ : ∃x,fu=x+1:=⟨fu-1,by omega⟩;unfold ZbJ;rw[Zao,if_neg (by omega)];exact⟨_,rfl⟩
 |succ k ih=>
  intro i fu ls hk hi hf hl;obtain⟨fu,rfl⟩ : ∃x,fu=x+1:=⟨fu-1,by omega⟩;unfold ZbJ;have e1:ZaC (i:Int) 1=((i+1:Nat):Int):=add1 (n:=i+1) (by omega) (by simp only[maxLen];omega);rw[Zao,if_pos (by omega),ZEO,ZaN,Zaz ⟨by simp only[List.length_append,List.length_singleton];omega,by simp only[List.length_append,List.length_singleton,maxLen];omega⟩,e1];exact ih (i+1) fu _ (by omega) (by omega) (by omega) (by simp only[List.length_append,List.length_singleton];omega)
theorem ZGl{got:List Zad}(hL:got.length≤800)(n:Nat)(hn:n≤1000)(b4:Zac):∀(k i fu a:Nat)(ls:List (List Zab)),n-i=k→i≤n→k+1≤fu→ls.length=i→a≤got.length →
  Wlk got a (fun x b=>x=b.flatten∧b.length=n) anyW (Zxc k i ls.flatten) (ZbJ (n:Int) fu (i:Int) ls (wk got a) b4):=by
 intro k;induction k with
 |zero=>
  intro i fu a ls hk hi hf hl ha;obtain⟨fu,rfl⟩ : ∃x,fu=x+1:=⟨fu-1,by omega⟩;unfold ZbJ;rw[Zao,if_neg (by omega)];exact Wlk.ret ha ⟨rfl,by omega⟩
 |succ k ih=>
  intro i fu a ls hk hi hf hl ha;obtain⟨fu,rfl⟩ : ∃x,fu=x+1:=⟨fu-1,by omega⟩;unfold ZbJ Zxc;have e1:ZaC (i:Int) 1=((i+1:Nat):Int):=add1 (n:=i+1) (by omega) (by simp only[maxLen];omega);rw[Zao,if_pos (by omega),e1];refine Wlk.seqP (ZGF (by omega) ha _) (fun x b a' h1 h2 h3=>?_) (fun q b _=>?_)
  ·obtain⟨rfl,_⟩:=h3;dsimp only;rw[Zaz ⟨by simp only[List.length_append,List.length_singleton];omega,by simp only[List.length_append,List.length_singleton,maxLen];omega⟩];have:=ih (i+1) fu a' (ls++[x]) (by omega) (by omega) (by omega) (by simp only[List.length_append,List.length_singleton];omega) h2;rw[List.flatten_append]at this;simpa using this
  ·dsimp only;rw[Zaz ⟨by simp only[List.length_append,List.length_singleton];omega,by simp only[List.length_append,List.length_singleton,maxLen];omega⟩];obtain⟨ls',h⟩:=ZuB (got:=got) q n hn b4 k (i+1) fu (ls++[b]) (by omega) (by omega) (by omega) (by simp only[List.length_append,List.length_singleton];omega);exact⟨ls',h,trivial⟩
theorem ZHl(ls:List (List Zab))(h1:ls.length≤1000)(h2:ls.flatten.length≤900000):ZfM ls=some ls.flatten:=by
 have main:∀(k i fu:Nat),ls.length-i=k→i≤ls.length→k+1≤fu→Zcr ls fu (i:Int) (ls.take i).flatten=some ls.flatten:=by
  intro k;induction k with
  |zero=>
   intro i fu hk hi hf;obtain⟨fu,rfl⟩ : ∃x,fu=x+1:=⟨fu-1,by omega⟩;unfold Zcr;rw[Zao,if_neg (by omega),List.take_of_length_le (by omega)]
  |succ k ih=>
   intro i fu hk hi hf;obtain⟨fu,rfl⟩ : ∃x,fu=x+1:=⟨fu-1,by omega⟩;unfold Zcr;have e1:ZaC (i:Int) 1=((i+1:Nat):Int):=add1 (n:=i+1) (by omega) (by simp only[maxLen];omega);have e2:(ls.take i).flatten++ls.getD i []=(ls.take (i+1)).flatten:=by
    rw[List.take_succ_eq_append_getElem (show i<ls.length by omega),List.flatten_append,Zjh ls _ i (by omega)];simp
   have e3:ls.flatten=(ls.take (i+1)).flatten++(ls.drop (i+1)).flatten:=by rw[←List.flatten_append,List.take_append_drop]
   have hle:(ls.take (i+1)).flatten.length≤ls.flatten.length:=by
    rw[e3,List.length_append];omega
   rw[Zao,if_pos (by omega),Zaz ⟨by omega,by omega⟩];simp only[Int.toNat_natCast,e2];rw[Zaz ⟨by omega,by unfold maxLen;omega⟩,e1];exact ih (i+1) fu (by omega) (by omega) (by omega)
 exact main ls.length 0 _ (by omega) (by omega) (by omega)
section
variable {c:Zax} {x:ZaB} (hx:x.ok) (hs0:0≤c.fShards) (hs:c.fShards≤1000) {got:List Zad} (hG:Gl got) {a:Nat} (ha:a≤got.length)
include hs0 hs hG
omit hG in
theorem ZGk(q:Zas):∃ls,ZdS (wt got q) c.fShards=some (wt got q,ls):=by
 obtain⟨n,hn⟩ : ∃n:Nat,c.fShards=(n:Int):=⟨c.fShards.toNat,by omega⟩;unfold ZdS;rw[hn];exact ZuB q n (by omega) _ n 0 _ [] (by omega) (by omega) (by omega) (by simp)
include ha in
theorem All_W:Wlk got a (fun x b=>x=b.flatten∧b.length≤1000∧x.length≤800∧∀p∈x,p.ok) anyW (Zxc c.fShards.toNat 0 []) (ZdS (wk got a) c.fShards):=by
 have hL:=hG.len;obtain⟨n,hn⟩ : ∃n:Nat,c.fShards=(n:Int):=⟨c.fShards.toNat,by omega⟩;unfold ZdS;rw[hn,Int.toNat_natCast];have h:=Wlk.run (ZGl hL n (by omega) ⟨[],0,opZ,false⟩ n 0 (((n:Int)-(0:Int)).toNat+2) a [] (by omega) (by omega) (by omega) rfl ha);refine Wlk.mono h (fun y b hy=>?_) (fun b hb=>hb);obtain⟨⟨h1,h2⟩,g,h3⟩:=hy;obtain⟨h4,h5⟩:=Zsm _ _ _ _ _ _ h3;refine⟨h1,by omega,?_,h5 Zab.ok (by simp) fun v hv=>(hG.val v (List.mem_of_mem_drop hv)).1.2.1⟩;simp only[List.length_drop,List.flatten_nil,List.length_nil]at h4;omega
end
section
variable {got:List Zad} (hG:Gl got) {a:Nat} (ha:a≤got.length)
include hG ha
theorem Zzl(l:List Zaa)(e:Zaa)(hl:l.length≤10000):Wlk got a anyP anyW (ZvA l e) ((ZbF (wk got a) l e).map fun w=>(w,())):=by
 have hL:=hG.len;have hsl:=ZFc l e;unfold ZbF;rw[ZDh _ _ hl,ZaN,ZFU];exact ZEN (by omega) ha _ _ _ ⟨Nat.zero_le _,by show (setS l e).length≤_;omega⟩
omit hG ha in
theorem ZBL(q:Zas)(l:List Zaa)(e:Zaa)(hl:l.length≤10000):ZbF (wt got q) l e=some (wt got q):=by
 unfold ZbF;rw[ZDh _ _ hl,ZaN,ZlD];rfl
theorem ZxG(k l:Int)(m:Bool){β:Type}(v:β):Wlk got a eqP anyW ((keyP k l m).bind fun _=>.ret v) ((ZaA (wk got a) k l m).bind fun y=>some (y,v)):=by
 have hL:=hG.len;exact Wlk.seqU (Zvc (by omega) ha k l m) (fun _ a' h1 h2 _=>Wlk.ret h2 rfl) (fun q=>⟨_,rfl,trivial⟩)
theorem Zzk(c:Zax)(m:Bool)(v:Zaq):Wlk got a eqP anyW (ZHu c (v,m)) ((ZcJ c (wk got a) m).bind fun y=>some (y,v)):=by
 have hL:=hG.len;unfold ZHu ZcJ;simp only[Option.bind_assoc,ZaN];refine Wlk.seqU (ZEW (by omega) ha _ _) (fun _ a1 h1 h2 _=>?_) (fun q=>?_)
 ·refine Wlk.seqU (Zvc (by omega) h2 _ _ _) (fun _ a2 h3 h4 _=>?_) (fun q=>?_)
  ·exact ZxG hG h4 _ _ _ _
  ·simp only[ZhS,ZaN];exact⟨_,rfl,trivial⟩
 ·simp only[ZhS,ZaN];exact⟨_,rfl,trivial⟩
omit ha in
theorem Zvn(c:Zax)(q:Zas)(m:Bool):ZcJ c (wt got q) m=some (wt got q):=by
 have hL:=hG.len;unfold ZcJ;simp only[ZyY got (by omega),ZhS,ZaN]
theorem ZAA(l:List Zaa)(e:Zaa)(hl:l.length≤10000){β:Type}(v:β):Wlk got a eqP anyW ((ZxW l e).bind fun _=>.ret v) ((ZbF (wk got a) l e).bind fun y=>(ZbG y 2 (-1) true).bind fun z=>some (z,v)):=by
 have hL:=hG.len;unfold ZxW;rw[Pr.bind_assoc];refine Wlk.seqU (Zzl hG ha l e hl) (fun _ a1 h1 h2 _=>?_) (fun q=>?_)
 ·exact Wlk.seqU (ZGG (by omega) h2 _ _ _) (fun _ a2 h3 h4 _=>Wlk.ret h4 rfl) (fun q=>⟨_,rfl,trivial⟩)
 ·rw[ZES];exact⟨_,rfl,trivial⟩
end
section
variable {c:Zax} {x:ZaB} (hx:x.ok) (hs0:0≤c.fShards) (hs:c.fShards≤1000) {got:List Zad} (hG:Gl got) {a:Nat} (ha:a≤got.length)
include hx hG ha
include hs0 hs in
theorem ZGZ:Wlk got a eqP anyW (ZFK c x) (ZfK c x (wk got a)):=by
 have hL:=hG.len;have hL':got.length≤1000000:=by omega
 have _u:=hx;have wA:=fun q=>ZGk (got:=got) hs0 hs q;unfold ZFK ZfK ZDo ZFd;simp only[Pr.bind_assoc,Pr.bind_ret];refine Wlk.seqU (Zvc (by omega) ha _ _ _) (fun _ a1 _ h1 _=>?_) (fun q=>?_);rotate_left
 ·obtain⟨ls,hls⟩:=wA q;simp only[ZhS,Zsu got hL',Zio,ZaN,hls,ZhT,cond_true];exact⟨_,rfl,trivial⟩
 refine Wlk.seqU (Zvc (by omega) h1 _ _ _) (fun _ a2 _ h2 _=>?_) (fun q=>?_);rotate_left
 ·obtain⟨ls,hls⟩:=wA q;simp only[ZhS,Zsu got hL',Zio,ZaN,hls,ZhT,cond_true];exact⟨_,rfl,trivial⟩
 refine Wlk.seqU (ZEU (by omega) h2 _) (fun _ a3 _ h3 _=>?_) (fun q=>?_);rotate_left
 ·obtain⟨ls,hls⟩:=wA q;simp only[Zio,ZaN,hls,ZhT,cond_true];exact⟨_,rfl,trivial⟩
 refine Wlk.seqP (ZvT (by omega) h3 _) (fun b b' a4 _ h4 hb=>?_) (fun q b _=>?_);rotate_left
 ·obtain⟨ls,hls⟩:=wA q;simp only[Zio,ZaN,hls,ZhT,cond_true];exact⟨_,rfl,trivial⟩
 obtain⟨rfl,hb⟩:=hb;refine Wlk.seqP (ZvT (by omega) h4 _) (fun v v' a5 _ h5 hv=>?_) (fun q v _=>?_);rotate_left
 ·obtain⟨ls,hls⟩:=wA q;simp only[Zio,ZaN,hls,ZhT,cond_true];exact⟨_,rfl,trivial⟩
 obtain⟨rfl,hv⟩:=hv;refine Wlk.seqP (All_W hs0 hs hG h5) (fun w ls a6 _ h6 hw=>?_) (fun q ls _=>?_);rotate_left
 ·simp only[Zio,ZaN,ZhT,cond_true];exact⟨_,rfl,trivial⟩
 obtain⟨rfl,hw1,hw2,hw3⟩:=hw;refine Wlk.seqP (ZvT (by omega) h6 _) (fun o o' a7 _ h7 ho=>?_) (fun q v _=>?_);rotate_left
 ·simp only[ZhT,cond_true];exact⟨_,rfl,trivial⟩
 obtain⟨rfl,ho⟩:=ho;simp only[Zqm,cond_false];have hV:=ZAM hG hb hv hw2 hw3;obtain⟨p1,p2,p3⟩:=ZDq hV x.fNow;have hbk:=(hG.val v hv).2.2;have p2':ZeG v.fBook ls.flatten b.fBans x.fNow=some (ZpM ⟨v.fBook,ls.flatten,b.fBans⟩ x.fNow):=p2;rw[Zao];by_cases h0:o.fN≥c.fMaxOut
 ·rw[if_pos h0,if_pos h0,Pr.bind_ret];exact Zzk hG h7 c true _
 ·rw[if_neg h0,if_neg h0,ZHl ls hw1 (by omega),ZaN,p2',ZaN];have hlt:=Zsg v.fBook (ZpM ⟨v.fBook,ls.flatten,b.fBans⟩ x.fNow).1;have hwn:ZeF v.fBook x.fNow=some (Zza ⟨v.fBook,ls.flatten,b.fBans⟩ x.fNow):=(ZCL hV x.fNow).2;generalize Zza ⟨v.fBook,ls.flatten,b.fBans⟩ x.fNow=wn at hwn ⊢;generalize ZpM ⟨v.fBook,ls.flatten,b.fBans⟩ x.fNow=pk at p3 hlt ⊢;cases hok:pk.2 with
  |false=>
   rw[Bool.not_false,cond_true,if_neg (by decide),Pr.bind_ret];simp only[hwn,ZaN];exact Zzk hG h7 c true _
  |true=>
   have h9:0≤ZkW v.fBook pk.1:=p3 hok;have ef:Zed (v.fBook.getD (ZkW v.fBook pk.1).toNat Zaa.d) 2=some (stE (entA v.fBook pk.1) 2):=rfl;have nd:(0:Int)≤ZkW v.fBook pk.1∧ZkW v.fBook pk.1<((v.fBook.length:Nat):Int):=⟨h9,hlt⟩;rw[Bool.not_true,cond_false,if_pos rfl];simp only[ZsK v.fBook pk.1 (by unfold maxLen;omega),ZaN,Zaz nd,ef,Pr.bind_assoc,Pr.bind_ret];refine Wlk.seqU (ZGG (by omega) h7 _ _ _) (fun _ a8 _ h8 _=>?_) (fun q=>?_)
   ·refine Wlk.seqU (Zzl hG h8 _ _ (by omega)) (fun _ a9 _ h9 _=>?_) (fun q=>?_)
    ·exact Zzk hG h9 c false _
    ·rw[Zvn hG];exact⟨_,rfl,trivial⟩
   ·rw[ZBL q _ _ (by omega),ZaN,Zvn hG];exact⟨_,rfl,trivial⟩
theorem ZAB(l:List Zaa)(hl:l.length≤10000)(e:Zaa)(k:Int):Wlk got a eqP anyW (Zyl c x l e k)
  ((ZcN c e x.fNow x.fNum).bind fun x3=>(ZbF (wk got a) l x3).bind fun x4=>(ZbG x4 (2:Int) (-1:Int) true).bind fun x5=>some (x5,(Zaq.mk k endZ x3.fFails x3.fNext []),false)):=by
 have _u:=hx;rw[(ZDV c e x.fNow x.fNum).2,ZaN];exact ZAA hG ha l _ hl _
theorem ZGX(l:List Zaa)(hl:l.length≤10000)(e:Zaa)(n:Int)(hn:n=pt c x)(hg:x.fGood=true)(b12:Zac)(b13:Zaq) :
  Wlk got a eqP anyW (ZFF n x l e) (Zca n l c x (wk got a) e b12 b13 repZ):=by
 have hL:=hG.len;have _u:=hx;unfold Zca ZFF;have e0:(repZ.fCode==(8:Int))=false:=rfl;rw[hg,Bool.not_true,cond_false,e0,cond_false];refine Wlk.seqP (ZGF (by omega) ha _) (fun ps ps' a1 _ h1 hp=>?_) (fun q ps _=>?_);rotate_left
 ·simp only[ZhT,cond_true];exact⟨_,rfl,trivial⟩
 obtain⟨rfl,hp1,hp2⟩:=hp;simp only[Zqm,cond_false,List.nil_append];rw[ZxC _ _ (by unfold maxLen;omega),ZaN,Zao];by_cases hf:Zyk ps x.fEnd≥0
 ·have ed:Zed e 1=some (stE e 1):=rfl;rw[if_pos hf,if_pos hf,ed,ZaN];exact ZAA hG h1 l _ hl _
 ·have eg:Zho e=some (ZHj e):=rfl;have en:Zgt x.fEnd false x.fNow=some (ZBU x):=by unfold Zgt;rw[ZoL];rfl
  have hlen:(ps++[ZBU x]).length=ps.length+1:=by simp
  have n1:ps.length * 80≤140737488355328∧ps.length≤maxLen:=⟨by omega,by unfold maxLen;omega⟩;have n2:(ps++[ZBU x]).length * 80≤140737488355328∧(ps++[ZBU x]).length≤maxLen:=⟨by omega,by unfold maxLen;omega⟩;rw[if_neg hf,if_neg hf,eg,ZaN];simp only[en,ZaN,Zaz n1,Zaz n2];refine Wlk.seqU (Zzl hG h1 _ _ hl) (fun _ a2 _ h2 _=>?_) (fun q=>?_)
  ·exact Wlk.seqU (ZHB (by omega) h2 _ _ _ (by omega)) (fun _ a3 _ h3 _=>Wlk.ret h3 rfl) (fun q=>⟨_,rfl,trivial⟩)
  ·rw[ZCz got q _ _ _ (by omega)];exact⟨_,rfl,trivial⟩
theorem ZGY(l:List Zaa)(hl:l.length≤10000)(e:Zaa)(n:Int)(hn:n=pt c x):Wlk got a eqP anyW (ZDS n c x l e) (ZfJ c x (wk got a) n l e):=by
 have hL:=hG.len;unfold ZDS ZfJ;cases hg:x.fGood with
 |false=>
  rw[cond_false,if_neg (by decide)];unfold Zca;rw[hg,Bool.not_false,cond_true];exact ZAB hx hG ha l hl e 0
 |true=>
  rw[cond_true,if_pos rfl];refine Wlk.seqP (ZvT (by omega) ha _) (fun b b' a1 _ h1 hb=>?_) (fun q b _=>?_);rotate_left
  ·simp only[ZhT,cond_true];exact⟨_,rfl,trivial⟩
  obtain⟨rfl,hb⟩:=hb;have hbv:=hG.val b hb;simp only[Zqm,cond_false];rw[(Zxl b.fBans x.fEnd.fAddr x.fNow (by unfold maxLen;omega) hbv.1.2.2.1.2 hx.2.1.1).2,ZaN,Zao];by_cases hu:Zve b.fBans x.fEnd.fAddr x.fNow>0
  ·rw[if_pos hu,if_pos hu];unfold Zca;rw[hg,Bool.not_true,cond_false];exact ZAB hx hG h1 l hl e 8
  ·rw[if_neg hu,if_neg hu];exact ZGX hx hG h1 l hl e n hn hg _ _
theorem Zwn(n:Int)(m:Bool)(v:Zaq):Wlk got a eqP anyW (ZDR n (v,m)) ((ZaA (wk got a) 3 (2+n) m).bind fun x8=>(ZaA x8 3 1 false).bind fun x9=>(ZaA x9 4 0 false).bind fun x10=>some (x10,v)):=by
 have _u:=hx;have hL:=hG.len;unfold ZDR;refine Wlk.seqU (Zvc (by omega) ha _ _ _) (fun _ a1 _ h1 _=>?_) (fun q=>?_)
 ·refine Wlk.seqU (Zvc (by omega) h1 _ _ _) (fun _ a2 _ h2 _=>?_) (fun q=>?_)
  ·exact ZxG hG h2 _ _ _ _
  ·simp only[ZhS,ZaN];exact⟨_,rfl,trivial⟩
 ·simp only[ZhS,ZaN];exact⟨_,rfl,trivial⟩
theorem ZDm:Wlk got a eqP anyW (Zwg c x) (ZeQ c x (wk got a)):=by
 have hL:=hG.len;have e:ZeE x.fEnd.fAddr c.fSecret c.fShards=some (pt c x):=(ZvZ x.fEnd.fAddr hx.2.1.1 c.fSecret c.fShards).2.1;unfold Zwg ZeQ resP;rw[e,ZaN,ZGq hx];simp only[Pr.bind_assoc];refine Wlk.seqU (Zvc (by omega) ha _ _ _) (fun _ a1 _ h1 _=>?_) (fun q=>?_);rotate_left
 ·simp only[ZhS,Zio,ZaN,ZhT,cond_true];exact⟨_,rfl,trivial⟩
 refine Wlk.seqU (Zvc (by omega) h1 _ _ _) (fun _ a2 _ h2 _=>?_) (fun q=>?_);rotate_left
 ·simp only[ZhS,Zio,ZaN,ZhT,cond_true];exact⟨_,rfl,trivial⟩
 refine Wlk.seqU (Zvc (by omega) h2 _ _ _) (fun _ a3 _ h3 _=>?_) (fun q=>?_);rotate_left
 ·simp only[Zio,ZaN,ZhT,cond_true];exact⟨_,rfl,trivial⟩
 refine Wlk.seqP (ZvT (by omega) h3 _) (fun v v' a4 _ h4 hv=>?_) (fun q b _=>?_);rotate_left
 ·simp only[ZhT,cond_true];exact⟨_,rfl,trivial⟩
 obtain⟨rfl,hv⟩:=hv;have hvv:=hG.val v hv;have hlt:=Zsg v.fBook x.fEnd;simp only[Zqm,cond_false];rw[ZsK _ _ (by unfold maxLen;omega),ZaN,Zao];by_cases h0:ZkW v.fBook x.fEnd<0
 ·rw[if_pos h0,if_neg (show ¬ZkW v.fBook x.fEnd≥0 by omega),Pr.bind_ret];exact Zwn hx hG h4 _ true _
 ·have ee:v.fBook.getD (ZkW v.fBook x.fEnd).toNat Zaa.d=entA v.fBook x.fEnd:=rfl;rw[if_neg h0,if_pos (show ZkW v.fBook x.fEnd≥0 by omega),Zaz (by omega),ee,ZhN];by_cases h2:(entA v.fBook x.fEnd).fState=2
  ·rw[if_pos h2,if_pos h2];refine Wlk.seqP (ZGY hx hG h4 v.fBook (by omega) _ _ rfl) (fun r r' a5 _ h5 hr=>?_) (fun q b _=>?_)
   ·cases hr;exact Zwn hx hG h5 _ r.2 r.1
   ·simp only[ZhS,ZaN];exact⟨_,rfl,trivial⟩
  ·rw[if_neg h2,if_neg h2,Pr.bind_ret];exact Zwn hx hG h4 _ true _
theorem ZFt:Wlk got a eqP anyW (ZAN c x) (Zfj c x (wk got a)):=by
 have hL:=hG.len;have en:Zgr x.fEnd x.fNow=some (newE x):=by unfold Zgr;rw[ZoL];rfl
 unfold ZAN Zfj;simp only[en,ZaN];have fin:∀(q:Zas)(v:Zad),v.fBook.length≤10000→∃d,((Zfb v.fBook (newE x) c.fMaxBook).bind fun x4=>
   bif(x4.2==(0:Int))then
    (Zbk (wt got q) (Zap.mk (4:Int) (0:Int) (0:Int)) (Zad.mk (0:Int) (Zab.mk (Zaj.mk (Zag.mk false (0:Int) (0:Int)) (0:Int)) false (0:Int) (Zat.mk (0:Int) (0:Int)) (0:Int) (0:Int)) ([]:(List Zah)) x4.1) true).bind fun x5=>
    (ZaA x5 (3:Int) (1:Int) (x4.2 != (0:Int))).bind fun x6=>
    some (x6,(Zaq.mk x4.2 (Zaj.mk (Zag.mk false (0:Int) (0:Int)) (0:Int)) (0:Int) (0:Int) ([]:(List Zab))))
   else
    (ZaA (wt got q) (3:Int) (1:Int) (x4.2 != (0:Int))).bind fun x7=>
    some (x7,(Zaq.mk x4.2 (Zaj.mk (Zag.mk false (0:Int) (0:Int)) (0:Int)) (0:Int) (0:Int) ([]:(List Zab)))))=some (wt got q,d)∧anyW d:=by
  intro q v hv;rw[ZDj _ _ _ hv (Zzu hx),ZaN];simp only[ZlD,ZhS,ZaN];cases((addS v.fBook (newE x) c.fMaxBook).2==(0:Int))
  ·exact⟨_,rfl,trivial⟩
  ·exact⟨_,rfl,trivial⟩
 refine Wlk.seqU (Zvc (by omega) ha _ _ _) (fun _ a1 _ h1 _=>?_) (fun q=>?_);rotate_left
 ·rw[Zio,ZaN];exact fin q valZ (by simp[valZ])
 refine Wlk.seqP (ZvT (by omega) h1 _) (fun v v' a2 _ h2 hv=>?_) (fun q b hb=>?_);rotate_left
 ·rw[hb];exact fin q valZ (by simp[valZ])
 obtain⟨rfl,hv⟩:=hv;have hvv:=hG.val v hv;have hal:=ZGa v.fBook (newE x) c.fMaxBook;dsimp only;rw[ZDj _ _ _ (by omega) (Zzu hx),ZaN,ZhN];by_cases h0:(addS v.fBook (newE x) c.fMaxBook).2=0
 ·have e2:((addS v.fBook (newE x) c.fMaxBook).2 != 0)=false:=by rw[h0];rfl
  rw[if_pos h0,if_pos h0,e2];refine Wlk.seqU (ZEN (by omega) h2 _ _ _ ⟨Nat.zero_le _,by show (addS v.fBook (newE x) c.fMaxBook).1.length≤_;omega⟩) (fun _ a3 _ h3 _=>?_) (fun q=>?_)
  ·rw[h0];exact ZxG hG h3 _ _ _ _
  ·rw[ZhS];exact⟨_,rfl,trivial⟩
 ·have e2:((addS v.fBook (newE x) c.fMaxBook).2 != 0)=true:=by rw[bne_iff_ne];exact h0
  rw[if_neg h0,if_neg h0,e2];exact ZxG hG h2 _ _ _ _
end
section
variable {c:Zax} {x:ZaB} (hx:x.ok) (hs0:0≤c.fShards) (hs:c.fShards≤1000) {got:List Zad} (hG:Gl got)
include hx hs0 hs hG
theorem ZGe:Wlk got 0 eqP anyW (ZBG c x) (ZfL c x got):=by
 have wrong:Wlk got 0 eqP anyW Zxg ((ZaA (wk got 0) (8:Int) (0:Int) true).bind fun x2=>some (x2,Zmu 1)):=ZxG hG (Nat.zero_le _) _ _ _ _;have hw0:(Zac.mk got (0:Int) opZ false)=wk got 0:=rfl;have fin2:∀r:Option (Zac×Zaq),(r.bind fun y=>some (y.1,y.2))=r:=fun r=>by cases r<;>rfl
 unfold ZBG ZfL;rw[Zzi x hx,ZaN];cases ZkZ x with
 |false=>
  rw[cond_false,if_neg (by decide)];exact wrong
 |true=>
  rw[cond_true,if_pos rfl,ZhN,ZhN,ZhN];by_cases h3:x.fKind=3
  ·rw[if_pos h3,if_pos h3,fin2];exact ZGZ hx hs0 hs hG (Nat.zero_le _)
  ·rw[if_neg h3,if_neg h3];by_cases h4:x.fKind=4
   ·rw[if_pos h4,if_pos h4,fin2];exact ZDm hx hG (Nat.zero_le _)
   ·rw[if_neg h4,if_neg h4];by_cases h13:x.fKind=13
    ·rw[if_pos h13,if_pos h13,fin2];exact ZFt hx hG (Nat.zero_le _)
    ·rw[if_neg h13,if_neg h13];exact wrong
end
def Pr.all{α:Type}(Q:α→Prop):Pr α→Prop | .ret x=>Q x | .ask _ k=>∀v,(k v).all Q | .no=>True
theorem Pr.all_bind{α β:Type}{Q:α→Prop}{Q':β→Prop}{p:Pr α}{f:α→Pr β}(h:p.all Q)(hf:∀x,Q x→(f x).all Q'):(p.bind f).all Q':=by
 induction p with
 |ret x=>exact hf x h
 |ask o k ih=>exact fun v=>ih v (h v)
 |no=>trivial
theorem Pr.all_any{α:Type}(p:Pr α):p.all fun _=>True:=by
 induction p with
 |ret x=>trivial
 |ask o k ih=>exact fun v=>ih v
 |no=>trivial
theorem Pr.all_then{α β:Type}{Q':β→Prop}{p:Pr α}{f:α→Pr β}(hf:∀x,(f x).all Q'):(p.bind f).all Q':=Pr.all_bind (Pr.all_any p) fun x _=>hf x
theorem Pr.all_run{α:Type}{Q:α→Prop}:∀{p:Pr α}{l:List Zad}{x:α}{g:Zan},p.all Q→runT p l=some (.ret x g)→Q x
 | .ret y,l,x,g,h,e=>by simp[runT]at e;rw[←e.1];exact h
 | .ask o k,[],x,g,h,e=>by simp[runT]at e
 | .ask o k,v :: l,x,g,h,e=>Pr.all_run (h v) e
 | .no,l,x,g,h,e=>by simp[runT]at e
theorem ZzB(n a b:Int):Zbi n a b=some (decide (n≥a)&&decide (n≤b)):=by
 unfold Zbi;cases decide (n≥a)<;>rfl
theorem ZHp{α:Type}{c:Bool}{x y:Option α}(h1:∃b,x=some b)(h2:∃b,y=some b):∃b,(bif c then x else y)=some b:=by
 cases c
 ·exact h2
 ·exact h1
theorem ZGT(c:Zax):∃b,Zdq c=some b:=by
 unfold Zdq;simp only[ZbI,Zck,ZzB,ZaN]
 repeat' first|exact⟨_,rfl⟩|apply ZHp
theorem got38(l:List Zad):∃b,ZhR l=some b∧(b=true→l.length≤80∧∀v∈l,v.fBans.length≤20∧v.fBook.length≤20):=by
 have main:∀fu (i:Nat),i≤80→i≤l.length→80-i<fu→(∀j:Nat,j<i→(l.getD j Zad.d).fBans.length≤20∧(l.getD j Zad.d).fBook.length≤20) →
   ∃b,Zdf l fu (i:Int)=some b∧(b=true→l.length≤80∧∀v∈l,v.fBans.length≤20∧v.fBook.length≤20):=by
  intro fu;induction fu with
  |zero=>intro i _ _ h;omega
  |succ fu ih=>
   intro i hi hil hf hall;unfold Zdf;simp only[Zao];have fin:l.length≤i→∀v∈l,v.fBans.length≤20∧v.fBook.length≤20:=fun hle v hv=>by
    obtain⟨j,hj,rfl⟩:=List.getElem_of_mem hv;rw[←Zjh l Zad.d j hj];exact hall j (by omega)
   by_cases h1:(i:Int)<(l.length:Int)
   ·rw[if_pos h1];by_cases h2:(i:Int)<80
    ·rw[if_pos h2,Zaz ⟨by omega,by omega⟩];simp only[Int.toNat_natCast];by_cases h3:((l.getD i Zad.d).fBans.length:Int)>20
     ·rw[if_pos h3];exact⟨false,rfl,fun h=>by cases h⟩
     ·rw[if_neg h3];by_cases h4:((l.getD i Zad.d).fBook.length:Int)>20
      ·rw[if_pos h4];exact⟨false,rfl,fun h=>by cases h⟩
      ·rw[if_neg h4];have e1:ZaC (i:Int) 1=((i+1:Nat):Int):=add1 (n:=81) (by omega) (by unfold maxLen;omega);rw[e1];refine ih (i+1) (by omega) (by omega) (by omega) fun j hj=>?_;by_cases e:j=i
       ·subst e;omega
       ·exact hall j (by omega)
    ·rw[if_neg h2];refine⟨_,rfl,fun h=>?_⟩;have:=of_decide_eq_true h;have hle:l.length≤i:=by omega
     exact⟨by omega,fin hle⟩
   ·rw[if_neg h1];refine⟨_,rfl,fun h=>?_⟩;have:=of_decide_eq_true h;exact⟨by omega,fin (by omega)⟩
 exact main _ 0 (by omega) (by omega) (by omega) (fun j hj=>by omega)
theorem ZHf{got:List Zad}{p:Pr Zaq}{r:Option (Zac×Zaq)}(h:Wlk got 0 eqP anyW p r)(hp:p.all fun v=>v.fPeers.length≤1000000) :
  ∃t w v,(runT p got).map Ztt=some t∧r=some (w,v)∧ZfF t w v=some true:=by
 rcases h with⟨v,b,a,h1,h2,h3,h4,h5⟩|⟨q,b,h1,h2,h3,h4⟩
 ·cases h5;rw[List.drop_zero]at h1;refine⟨_,_,_,by rw[h1];rfl,h2,?_⟩;unfold ZfF;simp only[Zqm,cond_false,Ztt,cond_true,Bool.not_false];have e1:ZdD Zas.d opZ=some true:=Zte opZ Zwu;have e2:=Zqa v (Pr.all_run (Q:=fun v:Zaq=>v.fPeers.length≤1000000) hp h1);have e1':ZdD Zas.d (Zas.mk (0:Int) (0:Int) (Zap.mk (0:Int) (0:Int) (0:Int)) (0:Int) (0:Int) (Zad.mk (0:Int) (Zab.mk (Zaj.mk (Zag.mk false (0:Int) (0:Int)) (0:Int)) false (0:Int) (Zat.mk (0:Int) (0:Int)) (0:Int) (0:Int)) ([]:(List Zah)) ([]:(List Zaa))) false)=some true:=e1;rw[e1',e2];rfl
 ·rw[List.drop_zero]at h1;refine⟨_,_,_,by rw[h1];rfl,h2,?_⟩;unfold ZfF;simp only[ZhT,cond_true,Ztt,Bool.not_false];have e1:ZdD q (wt got q).fOp=some true:=Zte q h3;have e2:ZdE Zaq.d (Zaq.mk (0:Int) (Zaj.mk (Zag.mk false (0:Int) (0:Int)) (0:Int)) (0:Int) (0:Int) ([]:(List Zab)))=some true:=Zqa repZ (by simp[repZ]);rw[e1,e2];rfl
theorem ZBH(c:Zax):ZbI false c=some false:=by
 simp[ZbI,Zck,ZzB]
theorem ZFf{c:Zax}(h:Zdq c=some true):1≤c.fShards∧c.fShards≤8:=by
 unfold Zdq at h;simp only[ZzB,ZaN,ZBH]at h;cases h1:(decide (c.fMaxIn≥0)&&decide (c.fMaxIn≤65535))with
 |false=>rw[h1]at h;simp at h
 |true=>
  rw[h1,cond_true]at h;cases h2:(decide (c.fMaxOut≥0)&&decide (c.fMaxOut≤65535))with
  |false=>rw[h2]at h;simp at h
  |true=>
   rw[h2,cond_true]at h;cases h3:(decide (c.fShards≥1)&&decide (c.fShards≤8))with
   |false=>rw[h3]at h;simp at h
   |true=>
    rw[Bool.and_eq_true,decide_eq_true_eq,decide_eq_true_eq]at h3;omega
theorem ZDb(c:Zax)(x:ZaB):(ZBG c x).all fun v=>v.fPeers.length≤1000000:=by
 have wrong:Zxg.all fun v=>v.fPeers.length≤1000000:=Pr.all_then fun _=>Nat.zero_le _;have fails:∀l e k,(Zyl c x l e k).all fun r=>r.1.fPeers.length≤1000000:=fun l e k=>Pr.all_then fun _=>Nat.zero_le _;unfold ZBG;split;rotate_left
 ·exact wrong
 split
 ·refine Pr.all_then fun _=>Pr.all_then fun _=>Pr.all_then fun _=>Pr.all_bind (Q:=fun r=>r.1.fPeers.length≤1000000) (Pr.all_then fun v=>Pr.all_then fun o=>?_) fun r hr=>Pr.all_then fun _=>Pr.all_then fun _=>Pr.all_then fun _=>hr;split
  ·exact Nat.zero_le _
  ·split
   ·exact Pr.all_then fun _=>Pr.all_then fun _=>Nat.zero_le _
   ·exact Nat.zero_le _
 ·split
  ·refine Pr.all_then fun _=>Pr.all_then fun _=>Pr.all_then fun _=>Pr.all_bind (Q:=fun r=>r.1.fPeers.length≤1000000) (Pr.all_then fun v=>?_) fun r hr=>Pr.all_then fun _=>Pr.all_then fun _=>Pr.all_then fun _=>hr;split
   ·exact Nat.zero_le _
   ·split
    ·unfold ZDS;split
     ·refine Pr.all_then fun b=>?_;split
      ·exact fails _ _ _
      ·refine Pr.all_then fun ps=>?_;split
       ·exact Pr.all_then fun _=>Nat.zero_le _
       ·exact Pr.all_then fun _=>Pr.all_then fun _=>Nat.zero_le _
     ·exact fails _ _ _
    ·exact Nat.zero_le _
  ·split
   ·refine Pr.all_then fun _=>Pr.all_then fun v=>?_;split
    ·exact Pr.all_then fun _=>Pr.all_then fun _=>Nat.zero_le _
    ·exact Pr.all_then fun _=>Nat.zero_le _
   ·exact wrong
theorem ZAf:Zei=some true:=by decide +kernel
theorem gl_of{l:List Zad}(h:okL Zad.ok l)(h1:l.length≤80)(h2:∀v∈l,v.fBans.length≤20∧v.fBook.length≤20):Gl l:=
 ⟨by omega,fun v hv=>⟨h.2 v hv,by have:=(h2 v hv).1;omega,by have:=(h2 v hv).2;omega⟩⟩
theorem Zva(c:Zax)(x:ZaB)(got:List Zad)(hc:c.ok)(hx:x.ok)(hg:okL Zad.ok got):Zfu c x got=some true:=by
 obtain⟨b,hb⟩:=ZGT c;obtain⟨d,hd,hd2⟩:=got38 got;unfold Zfu;rw[hb,ZaN];cases b with
 |false=>rw[Bool.not_false,cond_true,ZAf];rfl
 |true=>
  obtain⟨s1,s2⟩:=ZFf hb;rw[Bool.not_true,cond_false,hd,ZaN];cases d with
  |false=>rw[Bool.not_false,cond_true,ZAf];rfl
  |true=>
   have hG:=gl_of hg (hd2 rfl).1 (hd2 rfl).2;obtain⟨t,w,v,h1,h2,h3⟩:=ZHf (ZGe hx (by omega) (by omega) hG (c:=c)) (ZDb c x);rw[Bool.not_true,cond_false,h2,ZaN,ZER hx (by omega) hG,h1,ZaN,h3,ZAf];rfl
end Go.Proofs.YtdjfoojllbfcgaaGreat
