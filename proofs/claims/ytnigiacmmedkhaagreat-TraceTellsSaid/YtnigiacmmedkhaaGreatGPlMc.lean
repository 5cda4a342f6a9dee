import Derived.Test.YtnigiacmmedkhaaGreatGPlUh
import Derived.Test.YtnigiacmmedkhaaGreatGPlXa
import Derived.Test.YtnigiacmmedkhaaGreatGPlY
namespace Go.Proofs.YtnigiacmmedkhaaGreat
set_option linter.unusedVariables false
set_option linter.unusedSimpArgs false
section
variable {got:List Zae} (hG:Gd got) {a:Nat} (ha:a<=got.length)
include hG ha
def opnd(got:List Zae)(e:Zah)(r:List Zaa×Int)(b:List Zaa):Prop:=r=(b,ZdU b e)/\b.length<=got.length/\∀Q:Zaa->Prop,(∀v∈got,Q v.fPeer)->∀p∈b,Q p
theorem ZDw(n:Int)(e:Zah)(d:Zau 2 n=2+n):Wlk got a (opnd got e) anyW (ZwY n e) (ZbC (wk got a) n):=by
 have hL:=hG.len;unfold ZbC ZwY;rw[d];refine Wlk.seqU (ZiY (by omega) ha 1 (2+n) false) (fun _ a' t g _=>?_) (fun q=>?_)
 .refine Wlk.seqP (ZCu (by omega) g n) (fun x b a'' u i j=>?_) (fun q b _=>⟨_,rfl,trivial⟩);obtain⟨rfl,o,r⟩:=j;exact Wlk.ret i ⟨rfl,o,r⟩
 .rw[Zon];exact⟨_,rfl,trivial⟩
omit hG ha in
theorem ZnN(q:Zat)(n:Int):ZbC (wt got q) n=some (wt got q,[]):=by
 unfold ZbC;rw[ZaO,Zaw,Zon];rfl
theorem ZJj(ap:List Zah)(hg:ap.length<=400000):Wlk got a anyP anyW (ZKC ap) ((Zen (wk got a) ap).map fun w=>(w,())):=by
 have hL:=hG.len;unfold Zen ZKC;refine Wlk.seqPU (Zmi (by omega) ha _) (fun x b a' i g d=>?_) (fun q b hb=>?_) trivial
 .obtain⟨rfl,d⟩:=d;have e:=hG.val _ d;dsimp only;rw[ZwJ _ _ (by have:=e.2.2;omega) (by unfold maxLen;omega),Zaw,ZrQ];exact Zmh (by omega) g _ _ _ ⟨by simp,by have:=e.2.2;simp;omega⟩
 .subst hb;dsimp only;rw[ZwJ _ _ (by simp[valZ]) (by unfold maxLen;omega),Zaw,Zic];rfl
omit hG ha in
theorem Zvw(q:Zat)(ap:List Zah)(hg:ap.length<=400000):Zen (wt got q) ap=some (wt got q):=by
 unfold Zen;rw[ZdB,Zaw];dsimp only;rw[ZwJ _ _ (by simp[valZ]) (by unfold maxLen;omega),Zaw,Zic];rfl
theorem ZFB(ap:List Zaa)(hg:ap.length<=400000)(b4:Zad):Wlk got a anyP anyW (ZNl ap) ((Zdj ap (cntP ap false) (wk got a) b4).map fun w=>(w,())):=by
 have hL:=hG.len;have e:=Zsq ap false;have g:=Zur ap;unfold Zdj ZNl;rw[Zag];by_cases h0:cntP ap false>0
 .rw[if_pos h0,if_pos h0,ZpW _ (by omega),Zaw];refine Wlk.seqUU (ZJj hG ha _ (by omega)) (fun _ a' i d _=>?_) (fun q=>?_) trivial
  .rw[ZrQ,ZFI (by omega) (by omega)];exact ZuJ (by omega) d _ _ _
  .rw[ZrQ,Zlv]
 .rw[if_neg h0,if_neg h0];exact Wlk.ret ha trivial
omit hG ha in
theorem Ztu(q:Zat)(ap:List Zaa)(hg:ap.length<=400000)(n:Int)(b4:Zad):Zdj ap n (wt got q) b4=some (wt got q):=by
 have d:=Zur ap;unfold Zdj;rw[Zag,ZpW _ (by omega),Zaw,Zvw q _ (by omega),Zaw,ZrQ,Zlv];split<;>rfl
theorem ZJk(ap:List Zaa)(hg:ap.length<=400000):Wlk got a anyP anyW (ZHT ap) ((Zct (wk got a) ap).map fun w=>(w,())):=by
 have hL:=hG.len;have e:=Zsq ap true;unfold Zct ZHT;rw[ZiZ _ _ (by unfold maxLen;omega),Zaw,ZiZ _ _ (by unfold maxLen;omega),Zaw,Zag];by_cases h0:cntP ap true>0
 .rw[if_pos h0,if_pos h0,ZFI (by omega) (by omega)];refine Wlk.seqUU (ZuJ (by omega) ha _ _ _) (fun _ a' g d _=>?_) (fun q=>?_) trivial
  .exact ZFB hG d ap hg _
  .exact Ztu q ap hg _ _
 .rw[if_neg h0,if_neg h0,Pr.bind_ret];exact ZFB hG ha ap hg _
omit hG ha in
theorem Zsd(q:Zat)(ap:List Zaa)(hg:ap.length<=400000):Zct (wt got q) ap=some (wt got q):=by
 unfold Zct;rw[ZiZ _ _ (by unfold maxLen;omega),Zaw,ZiZ _ _ (by unfold maxLen;omega),Zaw,Zag,Zlv,Zaw,Ztu q ap hg];split<;>rfl
end
theorem ZMi{c:Zaq}{x:Zao}(hx:x.ok):Zdu c x=some (pt c x):=by
 unfold Zdu;rw[(Zor x.fEnd.fAddr hx.2.1.1 c.fSecret c.fShards).2.1];rfl
section
variable {c:Zaq} {x:Zao} (hx:x.ok) {got:List Zae} (hG:Gd got) {a:Nat} (ha:a<=got.length)
include hx hG ha
theorem Zkm(k l:Int)(m:Bool)(v:Zai):Wlk got a eqP anyW ((keyP k l m).bind fun _=>.ret v) ((Zaj (wk got a) k l m).bind fun y=>some (y,v)):=by
 have _u:=hx;have hL:=hG.len;exact Wlk.seqU (ZiY (by omega) ha k l m) (fun _ a' e d _=>Wlk.ret d rfl) (fun q=>⟨_,rfl,trivial⟩)
theorem ZMm(r:List Zaa)(D:r.length<=got.length)(h0:0<=ZdU r x.fEnd):Wlk got a eqP anyW
  (if(atP (r,ZdU r x.fEnd)).fIn=true then(ZlQ (pt c x) r (Zqm r [x.fEnd])).bind fun _=>(Zsg 1 (-1) true 1000000).bind fun _=>(keyP 3 (2+pt c x) false).bind fun _=>.ret repZ
   else(keyP 3 (2+pt c x) false).bind fun _=>(keyP 1 1 false).bind fun _=>(ZzN (pt c x) x.fEnd).bind fun q=>(keyP 3 1 false).bind fun _=>.ret q)
  (Zdg x (wk got a) (pt c x) r (ZdU r x.fEnd)):=by
 have hL:=hG.len;have hlt:=ZoV r x.fEnd;unfold Zdg;have o:(List.getD r (ZdU r x.fEnd).toNat Zaa.d)=atP (r,ZdU r x.fEnd):=rfl;rw[Zap (by omega),o,Zpp hx];have cl:=Zpm r [x.fEnd];cases hin:(atP (r,ZdU r x.fEnd)).fIn with
 |true=>
  rw[cond_true,if_pos rfl,Zrf r [x.fEnd] (by omega) (by unfold maxLen;simp),Zaw];refine Wlk.seqU (ZoZ (by omega) ha _ _ _ (by omega)) (fun _ a' t g _=>?_) (fun q=>?_)
  .refine Wlk.seqU (ZuJ (by omega) g _ _ _) (fun _ a'' u i _=>?_) (fun q=>?_)
   .exact Zkm hx hG i _ _ _ _
   .rw[ZaO];exact⟨_,rfl,trivial⟩
  .rw[Zlv,Zaw,ZaO];exact⟨_,rfl,trivial⟩
 |false=>
  rw[cond_false,if_neg (by decide)];refine Wlk.seqU (ZiY (by omega) ha _ _ _) (fun _ E t g _=>?_) (fun q=>?_);rotate_left
  .rw[ZaO,Zaw,ZnN];exact⟨_,rfl,trivial⟩
  refine Wlk.seqU (ZiY (by omega) g _ _ _) (fun _ F u i _=>?_) (fun q=>?_);rotate_left
  .rw[ZnN];exact⟨_,rfl,trivial⟩
  unfold ZzN;rw[Pr.bind_assoc];refine Wlk.seqP (ZDw hG i _ x.fEnd (Zpp hx)) (fun q b G H j v=>?_) (fun q b _=>⟨_,rfl,trivial⟩);obtain⟨rfl,I,J⟩:=v;have hlt2:=ZoV b x.fEnd;have kI:=Zpm b [x.fEnd];simp only[ZgG,cond_false];rw[ZgU _ _ (by unfold maxLen;omega),Zaw,Zag];by_cases e:ZdU b x.fEnd<0
  .rw[if_pos e,if_pos e];unfold ZzU;rw[Pr.bind_assoc];refine Wlk.seqU (ZiY (by omega) j _ _ _) (fun _ y A fO _=>?_) (fun q=>?_)
   .exact Zkm hx hG fO _ _ _ _
   .rw[ZaO];exact⟨_,rfl,trivial⟩
  .rw[if_neg e,if_neg e,Zrf b [x.fEnd] (by omega) (by unfold maxLen;simp),Zaw,Pr.bind_assoc];have gc:(List.getD b (ZdU b x.fEnd).toNat Zaa.d)=atP (b,ZdU b x.fEnd):=rfl;refine Wlk.seqU (ZoZ (by omega) j _ _ _ (by omega)) (fun _ y A fO _=>?_) (fun q=>?_)
   .rw[Zap (by omega),gc,Pr.bind_assoc];cases hin2:(atP (b,ZdU b x.fEnd)).fIn with
    |true=>
     rw[cond_true,if_pos rfl];refine Wlk.seqU (ZuJ (by omega) fO _ _ _) (fun _ B h11 h12 _=>?_) (fun q=>?_)
     .rw[Pr.bind_assoc];refine Wlk.seqU (ZiY (by omega) h12 _ _ _) (fun _ C h13 kO _=>?_) (fun q=>?_)
      .exact Zkm hx hG kO _ _ _ _
      .rw[ZaO];exact⟨_,rfl,trivial⟩
     .rw[ZaO,Zaw,ZaO];exact⟨_,rfl,trivial⟩
    |false=>
     rw[cond_false,if_neg (by decide),Pr.bind_assoc];refine Wlk.seqU (ZJj hG fO _ (by simp)) (fun _ B h11 h12 _=>?_) (fun q=>?_)
     .refine Wlk.seqU (ZuJ (by omega) h12 _ _ _) (fun _ C h13 kO _=>?_) (fun q=>?_)
      .rw[Pr.bind_assoc];refine Wlk.seqU (ZiY (by omega) kO _ _ _) (fun _ L h15 h16 _=>?_) (fun q=>?_)
       .exact Zkm hx hG h16 _ _ _ _
       .rw[ZaO];exact⟨_,rfl,trivial⟩
      .rw[ZaO,Zaw,ZaO];exact⟨_,rfl,trivial⟩
     .rw[Zlv,Zaw,ZaO,Zaw,ZaO];exact⟨_,rfl,trivial⟩
   .rw[Zap (by omega),Zvw q _ (by simp),Zaw,Zlv,Zlv,Zaw,ZaO,Zaw,ZaO];cases(List.getD b (ZdU b x.fEnd).toNat Zaa.d).fIn<;>exact⟨_,rfl,trivial⟩
theorem ZJi (r : List Zaa) (E : r.length <= got.length) (ar : ∀ p ∈ r, p.fEnd.fAddr.ok) : Wlk got a eqP anyW
    ((ZCk c x).bind fun u =>(ZxV (pt c x) r (ofP r (ZiX c x).fNet true)).bind fun _ =>.ret (⟨0,x.fEnd,((ofP r (ZiX c x).fNet true).length:Int),u,[]⟩ : Zai))
    (ZgZ c x (wk got a) (pt c x) r):=by
  have hL:=hG.len
  have ie:=ZtI r (ZiX c x).fNet true
  have cl:=Zpm r (Zvc (ofP r (ZiX c x).fNet true))
  have hel:=Zur (ofP r (ZiX c x).fNet true)
  have hb:(ZiX c x).ok:=⟨ZsX _ hx.2.1.1,ZEK _ _,trivial⟩
  have B:Zfr x.fEnd.fAddr = some (ZiX c x).fNet:=ZFu _ hx.2.1.1
  have C:Zeb x.fNow c.fBanFor = some (ZiX c x).fUntil:=(Ztl _ _).2
  have i:Zac.mk (ZiX c x).fNet (ZiX c x).fUntil = ZiX c x:=rfl
  unfold ZgZ ZCk
  rw [B,Zaw,C,Zaw,Pr.bind_assoc]
  have dj : ∀ (a' : Nat), a' <= got.length -> ∀ u : Int, Wlk got a' eqP anyW ((ZxV (pt c x) r (ofP r (ZiX c x).fNet true)).bind fun _ => .ret (⟨0, x.fEnd, ((ofP r (ZiX c x).fNet true).length : Int), u, []⟩ : Zai))
      ((Zdf r (ZiX c x).fNet true).bind fun x6 =>(Zdw x6).bind fun x7 =>(ZbD r x7).bind fun x8 =>(ZaF (wk got a') (pt c x) r x8).bind fun x9 =>(Zct x9 x6).bind fun dk =>
        some (dk,(Zai.mk (0:Int) x.fEnd ((x6.length:Nat):Int) u ([]:(List Zaa))))):=by
    intro a' d u
    rw [Zrh r (ZiX c x).fNet true (ZsX _ hx.2.1.1).1 (by omega) ar,Zaw,ZpW _ (by omega),Zaw,Zrf r _ (by omega) (by unfold maxLen; omega),Zaw]
    unfold ZxV
    rw [Pr.bind_assoc]
    refine Wlk.seqU (ZoZ (by omega) d _ _ _ (by omega)) (fun _ j e o _ =>?_) (fun q =>?_)
    . exact Wlk.seqU (ZJk hG o _ (by omega)) (fun _ t y D _ =>Wlk.ret D rfl) (fun q =>⟨_,rfl,trivial⟩)
    . rw [Zsd q _ (by omega)]; exact ⟨_,rfl,trivial⟩
  have fx : ∀ (q : Zat) (u : Int), ((Zdf r (ZiX c x).fNet true).bind fun x6 => (Zdw x6).bind fun x7 => (ZbD r x7).bind fun x8 => (ZaF (wt got q) (pt c x) r x8).bind fun x9 => (Zct x9 x6).bind fun dk =>
        some (dk,(Zai.mk (0:Int) x.fEnd ((x6.length:Nat):Int) u ([]:(List Zaa))))) = some (wt got q,⟨0,x.fEnd,((ofP r (ZiX c x).fNet true).length:Int),u,[]⟩):=by
    intro q u
    rw [Zrh r (ZiX c x).fNet true (ZsX _ hx.2.1.1).1 (by omega) ar,Zaw,ZpW _ (by omega),Zaw,Zrf r _ (by omega) (by unfold maxLen; omega),Zaw,Zql got q _ _ _ (by omega),Zaw,Zsd q _ (by omega)]
    rfl
  refine Wlk.seqP (Zmi (by omega) ha _) (fun v b j F d e =>?_) (fun q b hbz =>?_)
  . obtain ⟨rfl,e⟩:=e
    have A:=hG.val _ e
    have kP:=Ztc v.fBans (ZiX c x) c.fMaxBans
    dsimp only
    rw [i,ZwL _ _ _ (by have:=A.2.1; omega) hb,Zaw,Zdn]
    by_cases g:(addB v.fBans (ZiX c x) c.fMaxBans).2 = 0
    . rw [if_pos g,if_pos g,Pr.bind_assoc]
      refine Wlk.seqU (Zmh (by omega) d _ _ _ ⟨by have:=A.2.1; show (addB v.fBans (ZiX c x) c.fMaxBans).1.length<=_; omega,Nat.zero_le _⟩) (fun _ t o y _ =>?_) (fun q =>?_)
      . exact dj t y _
      . exact ⟨_,fx q _,trivial⟩
    . rw [if_neg g,if_neg g,Pr.bind_ret]
      exact dj j d 0
  . subst hbz
    dsimp only
    rw [i,ZwL _ _ _ (by simp [valZ]) hb,Zaw,Zdn,Zic]
    split
    . exact ⟨_,fx q _,trivial⟩
    . exact ⟨_,fx q _,trivial⟩
omit hG ha in
theorem Zzz(p:Zaa):ZfW c x p=some (Zle c x p):=by
 have _u:=hx;unfold ZfW;rw[(ZNN x.fNum).2.1,Zaw,(ZKV c x p).2];rfl
theorem ZMo (r : List Zaa) (L : r.length <= got.length) (h0 : 0 <= ZdU r x.fEnd) : Wlk got a eqP anyW
    (if Zri (Zle c x (atP (r, ZdU r x.fEnd))).fScore c.fLimit = true then (keyP 3 (2 + pt c x) false).bind fun _ => (keyP 1 0 false).bind fun _ => (keyP 1 1 false).bind fun _ => (Ztz (pt c x) c x).bind fun q =>
        (keyP 3 (2 + pt c x) q.2).bind fun _ =>(keyP 3 1 false).bind fun _ =>(keyP 3 0 false).bind fun _ =>.ret q.1
      else (ZHr (pt c x) (ZdU r x.fEnd) (Zle c x (atP (r,ZdU r x.fEnd)))).bind fun _ =>(keyP 3 (2 + pt c x) false).bind fun _ =>.ret ⟨0,endZ,Zvi (Zle c x (atP (r,ZdU r x.fEnd))).fScore,0,[]⟩)
    (Zdh c x (wk got a) (pt c x) (atP (r,ZdU r x.fEnd)) (ZdU r x.fEnd)):=by
  have hL:=hG.len
  have hlt:=ZoV r x.fEnd
  have y:=ZET c x (atP (r,ZdU r x.fEnd))
  unfold Zdh
  rw [Zzz hx,Zaw,(Zvv _ _ y.1 y.2).2,Zaw,Zpp hx]
  have keys : ∀ (a' : Nat), a' <= got.length -> ∀ (m : Bool) (v : Zai), Wlk got a' eqP anyW ((keyP 3 (2 + pt c x) m).bind fun _ => (keyP 3 1 false).bind fun _ => (keyP 3 0 false).bind fun _ => .ret v)
      ((Zaj (wk got a') 3 (2 + pt c x) m).bind fun eX =>(Zaj eX 3 1 false).bind fun eP =>(Zaj eP 3 0 false).bind fun dl =>some (dl,v)):=by
    intro a' e m v
    refine Wlk.seqU (ZiY (by omega) e _ _ _) (fun _ A C g _ =>?_) (fun q =>?_)
    . refine Wlk.seqU (ZiY (by omega) g _ _ _) (fun _ D E i _ =>?_) (fun q =>?_)
      . exact Zkm hx hG i _ _ _ _
      . rw [ZaO]; exact ⟨_,rfl,trivial⟩
    . rw [ZaO,Zaw,ZaO]; exact ⟨_,rfl,trivial⟩
  cases hin:Zri (Zle c x (atP (r,ZdU r x.fEnd))).fScore c.fLimit with
  | false =>
    rw [Bool.not_false,cond_true,if_neg (by decide)]
    refine Wlk.seqU (Zmh (by omega) ha _ _ _ ⟨Nat.zero_le _,Nat.zero_le _⟩) (fun _ A F e _ =>?_) (fun q =>?_)
    . rw [(ZsI _).2]
      exact Zkm hx hG e _ _ _ _
    . rw [ZaO,Zaw,(ZsI _).2]; exact ⟨_,rfl,trivial⟩
  | true =>
    rw [Bool.not_true,cond_false,if_pos rfl]
    refine Wlk.seqU (ZiY (by omega) ha _ _ _) (fun _ A F e _ =>?_) (fun q =>?_)
    rotate_left
    . rw [ZaO,Zaw,ZaO,Zaw,ZnN]; exact ⟨_,rfl,trivial⟩
    refine Wlk.seqU (ZiY (by omega) e _ _ _) (fun _ D C g _ =>?_) (fun q =>?_)
    rotate_left
    . rw [ZaO,Zaw,ZnN]; exact ⟨_,rfl,trivial⟩
    refine Wlk.seqU (ZiY (by omega) g _ _ _) (fun _ M E i _ =>?_) (fun q =>?_)
    rotate_left
    . rw [ZnN]; exact ⟨_,rfl,trivial⟩
    unfold Ztz
    rw [Pr.bind_assoc]
    refine Wlk.seqP (ZDw hG i _ x.fEnd (Zpp hx)) (fun q b G O j H =>?_) (fun q b _ =>⟨_,rfl,trivial⟩)
    obtain ⟨rfl,I,fO⟩:=H
    have hlt2:=ZoV b x.fEnd
    simp only [ZgG,cond_false]
    rw [ZgU _ _ (by unfold maxLen; omega),Zaw,Zag]
    by_cases B:ZdU b x.fEnd < 0
    . rw [if_neg (show ¬ (ZdU b x.fEnd >= 0) by omega),if_pos B,Pr.bind_ret]
      exact keys G j true _
    . rw [if_pos (show ZdU b x.fEnd >= 0 by omega),if_neg B,Zap (by omega)]
      have gc:(List.getD b (ZdU b x.fEnd).toNat Zaa.d) = atP (b,ZdU b x.fEnd):=rfl
      have fI:=ZET c x (atP (b,ZdU b x.fEnd))
      rw [gc,Zzz hx,Zaw,(Zvv _ _ fI.1 fI.2).2,Zaw]
      cases hin2:Zri (Zle c x (atP (b,ZdU b x.fEnd))).fScore c.fLimit with
      | true =>
        rw [cond_true,if_pos rfl,Pr.bind_assoc]
        have J:=ZJi hx hG j (c:=c) b I (fO (fun p =>p.fEnd.fAddr.ok) fun v o =>(hG.val v o).1.2.1.1.1)
        have key2 : ∀ {f : Zai -> Pr Zai} , ((ZCk c x).bind fun u => ((ZxV (pt c x) b (ofP b (ZiX c x).fNet true)).bind fun _ => Pr.ret ((⟨0, x.fEnd, ((ofP b (ZiX c x).fNet true).length : Int), u, []⟩ : Zai), true)).bind fun q => f q.1) =
            (((ZCk c x).bind fun u =>(ZxV (pt c x) b (ofP b (ZiX c x).fNet true)).bind fun _ =>.ret (⟨0,x.fEnd,((ofP b (ZiX c x).fNet true).length:Int),u,[]⟩ : Zai)).bind f):=by
          intro f
          simp only [Pr.bind_assoc,Pr.bind_ret]
        have kU : ((ZCk c x).bind fun u => ((ZxV (pt c x) b (ofP b (ZiX c x).fNet true)).bind fun _ => Pr.ret ((⟨0, x.fEnd, ((ofP b (ZiX c x).fNet true).length : Int), u, []⟩ : Zai), true)).bind fun q =>
              (keyP 3 (2 + pt c x) q.2).bind fun _ =>(keyP 3 1 false).bind fun _ =>(keyP 3 0 false).bind fun _ =>.ret q.1) =
            (((ZCk c x).bind fun u =>(ZxV (pt c x) b (ofP b (ZiX c x).fNet true)).bind fun _ =>.ret (⟨0,x.fEnd,((ofP b (ZiX c x).fNet true).length:Int),u,[]⟩ : Zai)).bind fun v =>
              (keyP 3 (2 + pt c x) true).bind fun _ =>(keyP 3 1 false).bind fun _ =>(keyP 3 0 false).bind fun _ =>.ret v):=by
          simp only [Pr.bind_assoc,Pr.bind_ret]
        rw [kU]
        refine Wlk.seqP J (fun v w t h11 h12 o =>?_) (fun q b _ =>?_)
        . cases o
          exact keys t h12 true v
        . dsimp only
          rw [ZaO,Zaw,ZaO,Zaw,ZaO]; exact ⟨_,rfl,trivial⟩
      | false =>
        rw [cond_false,if_neg (by decide),Pr.bind_assoc]
        refine Wlk.seqU (Zmh (by omega) j _ _ _ ⟨Nat.zero_le _,Nat.zero_le _⟩) (fun _ t h11 h12 _ =>?_) (fun q =>?_)
        . rw [(ZsI _).2,Zaw,Pr.bind_ret]
          exact keys t h12 false _
        . rw [(ZsI _).2,Zaw,ZaO,Zaw,ZaO,Zaw,ZaO]; exact ⟨_,rfl,trivial⟩
end
section
variable {c:Zaq} {x:Zao} (hx:x.ok) {got:List Zae} (hG:Gd got)
include hx hG
theorem ZNw:Wlk got 0 eqP anyW (ZvK c x) (Zdv c x got):=by
 have hL:=hG.len;have a6:Wlk got 0 eqP anyW ZmQ ((Zaj (wk got 0) (8:Int) (0:Int) true).bind fun x2=>some (x2,ZdE 1)):=Zkm hx hG (Nat.zero_le _) _ _ _ _;have jj:(Zad.mk got (0:Int) opZ false)=wk got 0:=rfl;unfold ZvK Zdv;rw[Zow x hx,Zaw];cases Zlu x with
 |false=>
  rw[Bool.not_false,cond_true,if_neg (by decide)];exact a6
 |true=>
  rw[Bool.not_true,cond_false,if_pos rfl]
  -- the body of all that are not a6
  have body:∀(P:Pr Zai)(o u kV:Bool),(o=(x.fKind==2))->(u=(x.fKind==5))->(kV=(x.fKind==11))->(P=if x.fKind=2 then ZJL (pt c x) x.fEnd else if x.fKind=5 then ZKW (pt c x) c x else ZOT (pt c x) x) ->
    Wlk got 0 eqP anyW P ((Zdu c x).bind fun x4=>(ZbC (wk got 0) x4).bind fun x5=>
      bif x5.1.fWait then some (x5.1,repZ)
      else(ZaQ x5.2 x.fEnd).bind fun x6=>
       bif(decide (x6<(0:Int)))then
        (Zaj x5.1 (3:Int) (Zau (2:Int) x4) true).bind fun x7=>some (x7,ZdE 6)
       else
        bif o then(Zdg x x5.1 x4 x5.2 x6).bind fun x8=>some (x8.1,x8.2)
        else
         bif u then
          need (0<=x6/\x6<((x5.2.length:Nat):Int)) <|
          (Zdh c x x5.1 x4 (x5.2.getD x6.toNat Zaa.d) x6).bind fun x9=>some (x9.1,x9.2)
         else
          need (0<=x6/\x6<((x5.2.length:Nat):Int)) <|
          (Zcq (x5.2.getD x6.toNat Zaa.d) x.fNow).bind fun dk=>
          bif kV then
           (Zda (x5.2.getD x6.toNat Zaa.d) x.fNum).bind fun fP=>
           (ZaA x5.1 (Zas.mk (6:Int) x4 x6) (Zae.mk (0:Int) fP ([]:(List Zac)) ([]:(List Zab))) true).bind fun ge=>
           (Zaj ge (3:Int) (Zau (2:Int) x4) false).bind fun dm=>some (dm,(Zai.mk (0:Int) endZ fP.fPing (0:Int) ([]:(List Zaa))))
          else
           (ZaA x5.1 (Zas.mk (6:Int) x4 x6) (Zae.mk (0:Int) dk ([]:(List Zac)) ([]:(List Zab))) true).bind fun eX=>
           (Zaj eX (3:Int) (Zau (2:Int) x4) false).bind fun eP=>some (eP,repZ)):=by
   rintro P o u kV rfl rfl rfl rfl;rw[ZMi hx,Zaw];have cj:∀r:Option (Zad×Zai),(r.bind fun y=>some (y.1,y.2))=r:=fun r=>by cases r<;>rfl
   have first:∀(f:List Zaa×Int->Pr Zai)(K:Zad×List Zaa->Option (Zad×Zai)),(∀q b,K (wt got q,b)=some (wt got q,repZ)) ->
     (∀b i,i<=got.length->b.length<=got.length->(ZdU b x.fEnd<0->Wlk got i eqP anyW (f (b,ZdU b x.fEnd)) (K (wk got i,b)))/\(0<=ZdU b x.fEnd->Wlk got i eqP anyW (f (b,ZdU b x.fEnd)) (K (wk got i,b)))) ->
     Wlk got 0 eqP anyW ((ZwY (pt c x) x.fEnd).bind f) ((ZbC (wk got 0) (pt c x)).bind K):=by
    intro f K C hb;refine Wlk.seqP (ZDw hG (Nat.zero_le _) _ x.fEnd (Zpp hx)) (fun q b i I g D=>?_) (fun q b _=>⟨_,C q b,trivial⟩);obtain⟨rfl,j,_⟩:=D;obtain⟨E,o⟩:=hb b i g j;rcases Int.lt_or_le (ZdU b x.fEnd) 0 with h|h
    .exact E h
    .exact o h
   have dZ:∀i,i<=got.length->Wlk got i eqP anyW (ZzU (pt c x)) ((Zaj (wk got i) (3:Int) (Zau (2:Int) (pt c x)) true).bind fun x7=>some (x7,ZdE 6)):=fun i h=>by
    rw[Zpp hx];exact Zkm hx hG h _ _ _ _
   by_cases g:x.fKind=2
   .rw[if_pos g];refine first _ _ (fun q b=>rfl) fun b i j t=>⟨fun e=>?_,fun e=>?_⟩
    .simp only[ZgG,cond_false];rw[ZgU _ _ (by unfold maxLen;omega),Zaw,Zag,if_pos e,if_pos e];exact dZ i j
    .simp only[ZgG,cond_false];rw[ZgU _ _ (by unfold maxLen;omega),Zaw,Zag,if_neg (show ¬(ZdU b x.fEnd<0)by omega),if_neg (show ¬(ZdU b x.fEnd<0)by omega),Zdn,if_pos g,cj];exact ZMm hx hG j b t e
   .rw[if_neg g];by_cases h5':x.fKind=5
    .rw[if_pos h5'];refine first _ _ (fun q b=>rfl) fun b i j t=>⟨fun e=>?_,fun e=>?_⟩
     .simp only[ZgG,cond_false];rw[ZgU _ _ (by unfold maxLen;omega),Zaw,Zag,if_pos e,if_pos e];exact dZ i j
     .have hlt:=ZoV b x.fEnd;simp only[ZgG,cond_false];rw[ZgU _ _ (by unfold maxLen;omega),Zaw,Zag,if_neg (show ¬(ZdU b x.fEnd<0)by omega),if_neg (show ¬(ZdU b x.fEnd<0)by omega),Zdn,if_neg g,Zdn,if_pos h5',Zap (by omega),cj];exact ZMo hx hG j b t e
    .rw[if_neg h5'];refine first _ _ (fun q b=>rfl) fun b i j t=>⟨fun e=>?_,fun e=>?_⟩
     .simp only[ZgG,cond_false];rw[ZgU _ _ (by unfold maxLen;omega),Zaw,Zag,if_pos e,if_pos e];exact dZ i j
     .have hlt:=ZoV b x.fEnd;have F:(List.getD b (ZdU b x.fEnd).toNat Zaa.d)=atP (b,ZdU b x.fEnd):=rfl;simp only[ZgG,cond_false];rw[ZgU _ _ (by unfold maxLen;omega),Zaw,Zag,if_neg (show ¬(ZdU b x.fEnd<0)by omega),if_neg (show ¬(ZdU b x.fEnd<0)by omega),Zdn,if_neg g,Zdn,if_neg h5',Zap (by omega),F,(ZLq _ _).2,Zaw,Zdn,(ZMr _ _).2,Zaw,Zpp hx];by_cases h11:x.fKind=11
      .rw[if_pos h11,if_pos h11];refine Wlk.seqU (Zmh (by omega) j _ _ _ ⟨Nat.zero_le _,Nat.zero_le _⟩) (fun _ G H v _=>?_) (fun q=>?_)
       .exact Zkm hx hG v _ _ _ _
       .rw[ZaO];exact⟨_,rfl,trivial⟩
      .rw[if_neg h11,if_neg h11];refine Wlk.seqU (Zmh (by omega) j _ _ _ ⟨Nat.zero_le _,Nat.zero_le _⟩) (fun _ G H v _=>?_) (fun q=>?_)
       .exact Zkm hx hG v _ _ _ _
       .rw[ZaO];exact⟨_,rfl,trivial⟩
  by_cases g:x.fKind=2
  .have A:(x.fKind != 2)=false:=by simp[g]
   rw[A,cond_false];exact body _ _ _ _ rfl rfl rfl (by rw[if_pos g,if_pos g])
  .have A:(x.fKind != 2)=true:=by simp[g]
   rw[A,cond_true];by_cases e:x.fKind=5
   .have B:(x.fKind != 5)=false:=by simp[e]
    rw[B,cond_false];exact body _ _ _ _ rfl rfl rfl (by rw[if_neg g,if_neg g,if_pos e,if_pos e])
   .have B:(x.fKind != 5)=true:=by simp[e]
    rw[B,cond_true];by_cases h11:x.fKind=11
    .have kY:(x.fKind != 11)=false:=by simp[h11]
     rw[kY,cond_false];exact body _ _ _ _ rfl rfl rfl (by rw[if_neg g,if_neg g,if_neg e,if_neg e,if_pos (Or.inl h11)])
    .have kY:(x.fKind != 11)=true:=by simp[h11]
     rw[kY,cond_true];by_cases h12:x.fKind=12
     .have k4:(x.fKind != 12)=false:=by simp[h12]
      rw[k4,cond_false];exact body _ _ _ _ rfl rfl rfl (by rw[if_neg g,if_neg g,if_neg e,if_neg e,if_pos (Or.inr h12)])
     .have k4:(x.fKind != 12)=true:=by simp[h12]
      rw[k4,cond_true,if_neg g,if_neg e,if_neg (by simp[h11,h12])];exact a6
end
set_option linter.unusedSectionVars false
theorem ZIu(all:List (List Zaa))(e:Zah)(K:Nat)(g:ZmR all e=(K:Int))(D:all.length<=1000)(E:all.flatten.length<=900000)(v9:Int)(c:Zaq)(x:Zao)(w b6:Zad)(b7 k5:Zai):∀(m k fu:Nat),K-k=m->k<=K->m+1<=fu ->
  ZbL fu v9 (k:Int) all c x w b6 b7 e k5=(ZbD (all.getD K []) [e]).bind fun eP=>(ZaF w (K:Int) (all.getD K []) eP).bind fun dl=>need (0<=v9/\v9<((all.length:Nat):Int)) <|
   (Zbw ((all.set K eP).getD v9.toNat []) x).bind fun iW=>(ZaF dl v9 ((all.set K eP).getD v9.toNat []) iW).bind fun iX=>
   (ZaP iX c.fShards true).bind fun k6=>(Zaj k6 4 0 false).bind fun jx=>some (jx,(⟨0,e,1,0,[]⟩ : Zai)):=by
 have hlt:=ZEV all e;have g4:0<=ixOf (fun l=>decide (ZdU l e>=0)) all 0:=by have:ixOf (fun l=>decide (ZdU l e>=0)) all 0=(K:Int):=g;omega
 obtain⟨k',F,G,⟨y,j,o⟩,r⟩:=Zru (fun l=>decide (ZdU l e>=0)) all 0 g4;have hKK:k'=K:=by have:ixOf (fun l=>decide (ZdU l e>=0)) all 0=(K:Int):=g;omega
 subst hKK;have hix:∀i,i<all.length->ZaQ (all.getD i []) e=some (ZdU (all.getD i []) e):=fun i t=>ZgU _ _ (by have:=ZJr (ZbU all [] i t);unfold maxLen;omega);intro m;induction m with
 |zero=>
  intro k fu u v A;obtain⟨fu,rfl⟩:=sC fu;obtain rfl:k=k':=by omega
  have d:Zau (k:Int) 1=((k+1:Nat):Int):=add1 (n:=k+1) (by omega) (by simp only[maxLen];omega);unfold ZbL;simp only[Int.toNat_natCast];rw[d,Zag,Zap (by omega)];split
  .have B:all.getD k []=y:=by simp[List.getD_eq_getElem?_getD,j]
   have hfy:¬ZdU (all.getD k []) e<0:=by rw[B];have:=of_decide_eq_true o;omega
   rw[hix k (by omega),Zaw,Zag,if_neg hfy]
  .rw[Zap (by omega)]
 |succ m ih=>
  intro k fu u v A;obtain⟨fu,rfl⟩:=sC fu;have d:Zau (k:Int) 1=((k+1:Nat):Int):=add1 (n:=k+1) (by omega) (by simp only[maxLen];omega);obtain⟨z,z1,z2⟩:=r k (by omega);have C:all.getD k []=z:=by simp[List.getD_eq_getElem?_getD,z1]
  have hfz:ZdU (all.getD k []) e<0:=by rw[C];have:=of_decide_eq_false z2;omega
  rw[<-ih (k+1) fu (by omega) (by omega) (by omega)]
  conv=>lhs;unfold ZbL
  simp only[Int.toNat_natCast];rw[d,Zag,iNb,Zap (by omega),hix k (by omega),Zaw,Zag,if_pos hfz]
section
variable {c:Zaq} {x:Zao} (hx:x.ok) (bM:1<=c.fShards) (hs:c.fShards<=8) {got:List Zae} (hG:Gl got) {a:Nat} (ha:a<=got.length)
include hx bM hs hG ha
omit bM hs ha in
theorem ZrT{a:Nat}(ha:a<=got.length)(k l:Int)(m:Bool)(v:Zai):Wlk got a eqP anyW ((keyP k l m).bind fun _=>.ret v) ((Zaj (wk got a) k l m).bind fun y=>some (y,v)):=Zkm hx hG.gd ha k l m v
omit bM hs ha in
theorem ZrU{a:Nat}(ha:a<=got.length)(m:Bool)(v:Zai):Wlk got a eqP anyW ((Zla c.fShards m).bind fun _=>(keyP 4 0 false).bind fun _=>.ret v) ((ZaP (wk got a) c.fShards m).bind fun z=>(Zaj z 4 0 false).bind fun y=>some (y,v)):=by
 have hL:=hG.len;refine Wlk.seqU (ZrW (by omega) ha c.fShards m) (fun _ e g d _=>ZrT hx hG d 4 0 false v) (fun q=>?_);rw[ZaO];exact⟨_,rfl,trivial⟩
theorem ZPB:Wlk got a eqP anyW ((ZDi c x).bind fun r=>(keyP 4 0 false).bind fun _=>.ret r) (Zdx c x (wk got a)):=by
 have hL:=hG.len;have d6:got.length<=1000000:=by omega
 have G:=pt_lt hx bM hs;unfold ZDi Zdx;rw[Pr.bind_assoc];refine Wlk.seqU (ZrV (by omega) ha c.fShards) (fun _ H _ v _=>?_) (fun q=>?_);rotate_left
 .obtain⟨ls,cw,_⟩:=ZuL (got:=got) (c:=c) (by omega) (by omega) q;rw[cw,Zaw];simp only[Zeg,cond_true];exact⟨_,rfl,trivial⟩
 rw[Pr.bind_assoc];have bq:=Wlk.run (ZLm (c:=c) (by omega) (by omega) hG v);refine Wlk.seqP bq (fun all b I _ u d=>?_) (fun q b _=>?_);rotate_left
 .simp only[Zeg,cond_true];exact⟨_,rfl,trivial⟩
 obtain⟨⟨rfl,bo,bk,hb3⟩,g,hg⟩:=d;obtain⟨hb0,_,_⟩:=ZoY _ _ _ _ _ _ hg;simp only[List.length_nil,Nat.zero_add]at hb0;have hle:=fun(i:Nat) (y:i<all.length)=>ZJr (ZbU all [] i y);have jn:=hle (pt c x).toNat (by omega);have hptl:(ZmU all (pt c x)).length<=all.flatten.length:=jn;have A:all.getD (pt c x).toNat ([]:List Zaa)=ZmU all (pt c x):=rfl;simp only[ZgG,cond_false];rw[(Zor x.fEnd.fAddr hx.2.1.1 c.fSecret c.fShards).2.1,Zaw];have hpd:ZuO x.fEnd.fAddr c.fSecret c.fShards=pt c x:=rfl;rw[hpd,Zap (by omega),A,ZgU _ _ (by unfold maxLen;omega),Zaw,Zag];unfold ZwF ZsK;by_cases h0:ZdU (ZmU all (pt c x)) x.fEnd>=0
 .rw[if_pos h0,if_pos h0];simp only[Pr.bind_ret,Pr.bind_assoc];exact ZrU hx hG u true (ZdE 7)
 .rw[if_neg h0,if_neg h0];simp only[Pr.bind_assoc];refine Wlk.seqP (ZCt (by omega) u c.fMaxIn true) (fun ok b j _ d ar=>?_) (fun q b _=>?_);rotate_left
  .simp only[Zeg,cond_true];exact⟨_,rfl,trivial⟩
  cases ar;simp only[ZgG,cond_false];cases ok with
  |true=>
   rw[cond_true,if_pos rfl,ZpX x _ (by omega),Zaw];simp only[Pr.bind_ret,Pr.bind_assoc];refine Wlk.seqU (ZoZ (by omega) d _ _ _ (by rw[Zpe];omega)) (fun _ B _ o _=>ZrU hx hG o false repZ) (fun q=>?_);rw[Zki got d6,Zaw,ZaO];exact⟨_,rfl,trivial⟩
  |false=>
   obtain⟨J,C,D⟩:=ZKN c all bk hb3;rw[cond_false,if_neg (by decide),ZpF all bo (by omega),Zaw,C,Zaw];cases E:(ZfT c all).2 with
   |false=>
    rw[cond_false,if_neg (by decide)];simp only[Pr.bind_ret,Pr.bind_assoc];exact ZrU hx hG d true (ZdE 5)
   |true=>
    have L:=D E;have hk2:=ZEV all (ZfT c all).1;obtain⟨K,t⟩ : ∃K:Nat,ZmR all (ZfT c all).1=(K:Int):=⟨(ZmR all (ZfT c all).1).toNat,by omega⟩;have hkl:=hle K (by omega);have M:=Zpm (all.getD K []) [(ZfT c all).1];have O:((all.set K (Zqm (all.getD K []) [(ZfT c all).1])).getD (pt c x).toNat []).length<=800:=by
     simp only[List.getD_eq_getElem?_getD,List.getElem?_set];by_cases e:K=(pt c x).toNat
     .rw[if_pos e];split
      .simp only[Option.getD_some];rw[<-List.getD_eq_getElem?_getD];omega
      .simp
     .rw[if_neg e,<-List.getD_eq_getElem?_getD];omega
    have gO:ZmU all (K:Int)=all.getD K []:=rfl;have bh:ZmU (ZrB all (ZfT c all).1) (pt c x)=(all.set K (Zqm (all.getD K []) [(ZfT c all).1])).getD (pt c x).toNat []:=by unfold ZrB;rw[t];rfl
    have iY:=ZIu all (ZfT c all).1 K t bo (by omega) (pt c x) c x (wk got j) (Zad.mk ([]:(List Zae)) (0:Int) (Zat.mk (0:Int) (0:Int) (Zas.mk (0:Int) (0:Int) (0:Int)) (0:Int) (0:Int) (Zae.mk (0:Int) (Zaa.mk (Zah.mk (Zaf.mk false (0:Int) (0:Int)) (0:Int)) false (0:Int) (Zan.mk (0:Int) (0:Int)) (0:Int) (0:Int)) ([]:(List Zac)) ([]:(List Zab))) false) false) (Zai.mk (0:Int) (Zah.mk (Zaf.mk false (0:Int) (0:Int)) (0:Int)) (0:Int) (0:Int) ([]:(List Zaa))) (Zai.mk (5:Int) (Zah.mk (Zaf.mk false (0:Int) (0:Int)) (0:Int)) (0:Int) (0:Int) ([]:(List Zaa))) K 0 1000000 rfl (Nat.zero_le _) (by omega);have g5:∀r,ZbL 1000000 (pt c x) ((0:Nat):Int) all c x (wk got j) (Zad.mk ([]:(List Zae)) (0:Int) (Zat.mk (0:Int) (0:Int) (Zas.mk (0:Int) (0:Int) (0:Int)) (0:Int) (0:Int) (Zae.mk (0:Int) (Zaa.mk (Zah.mk (Zaf.mk false (0:Int) (0:Int)) (0:Int)) false (0:Int) (Zan.mk (0:Int) (0:Int)) (0:Int) (0:Int)) ([]:(List Zac)) ([]:(List Zab))) false) false) (Zai.mk (0:Int) (Zah.mk (Zaf.mk false (0:Int) (0:Int)) (0:Int)) (0:Int) (0:Int) ([]:(List Zaa))) (ZfT c all).1 (Zai.mk (5:Int) (Zah.mk (Zaf.mk false (0:Int) (0:Int)) (0:Int)) (0:Int) (0:Int) ([]:(List Zaa)))=r->ZbL 1000000 (pt c x) 0 all c x (wk got j) (Zad.mk ([]:(List Zae)) (0:Int) (Zat.mk (0:Int) (0:Int) (Zas.mk (0:Int) (0:Int) (0:Int)) (0:Int) (0:Int) (Zae.mk (0:Int) (Zaa.mk (Zah.mk (Zaf.mk false (0:Int) (0:Int)) (0:Int)) false (0:Int) (Zan.mk (0:Int) (0:Int)) (0:Int) (0:Int)) ([]:(List Zac)) ([]:(List Zab))) false) false) (Zai.mk (0:Int) (Zah.mk (Zaf.mk false (0:Int) (0:Int)) (0:Int)) (0:Int) (0:Int) ([]:(List Zaa))) (ZfT c all).1 (Zai.mk (5:Int) (Zah.mk (Zaf.mk false (0:Int) (0:Int)) (0:Int)) (0:Int) (0:Int) ([]:(List Zaa)))=r:=fun r h=>h;rw[cond_true,if_pos rfl,g5 _ iY,Zrf _ _ (by omega) (by simp[maxLen]),Zaw,t,gO,bh];simp only[Pr.bind_ret,Pr.bind_assoc];refine Wlk.seqU (ZoZ (by omega) d _ _ _ (by omega)) (fun _ B _ o _=>?_) (fun q=>?_);rotate_left
    .rw[Zap (by omega),ZpX x _ (by omega),Zaw,Zql got _ _ _ _ (by rw[Zpe];omega),Zaw,Zki got d6,Zaw,ZaO];exact⟨_,rfl,trivial⟩
    rw[Zap (by omega),ZpX x _ (by omega),Zaw];refine Wlk.seqU (ZoZ (by omega) o _ _ _ (by rw[Zpe];omega)) (fun _ U _ F _=>ZrU hx hG F true _) (fun q=>?_);rw[Zki got d6,Zaw,ZaO];exact⟨_,rfl,trivial⟩
omit ha in
theorem ZND:Wlk got 0 eqP anyW (Zwq c x) (Zha c x got):=by
  have hL:=hG.len
  have d6 : got.length<=1000000:=by omega
  have jj:(Zad.mk got (0:Int) opZ false) = wk got 0:=rfl
  unfold Zwq Zha
  rw [Zow x hx,Zaw]
  cases Zlu x with
  | false =>
    rw [Bool.not_false,cond_true,if_neg (by decide)]
    exact ZrT hx hG (Nat.zero_le _) 8 0 true (ZdE 1)
  | true =>
    rw [Bool.not_true,cond_false,if_pos rfl]
    have body : Wlk got 0 eqP anyW ((keyP 2 0 false).bind fun _ => (Zli ⟨3, 0, 0⟩).bind fun v => if Zpg v.fBans x.fEnd.fAddr x.fNow > 0 then (keyP 4 0 true).bind fun _ => .ret ⟨8, endZ, 0, Zpg v.fBans x.fEnd.fAddr x.fNow, []⟩
        else (ZzL c x).bind fun q =>if q.2 = true then (keyP 4 0 false).bind fun _ =>.ret q.1 else (ZDi c x).bind fun r =>(keyP 4 0 false).bind fun _ =>.ret r)
        ((Zaj (wk got 0) 2 0 false).bind fun x3 =>(ZaE x3 ⟨3,0,0⟩).bind fun x4 =>(Zcm x4.2.fBans x.fEnd.fAddr x.fNow).bind fun x5 =>
          bif (decide (x5 > (0:Int))) then (Zaj x4.1 (4:Int) (0:Int) true).bind fun x6 =>some (x6,(⟨8,endZ,0,x5,[]⟩ : Zai))
          else (Zcf x.fEnd.fAddr c.fSecret c.fShards).bind fun x7 =>(Zaj x4.1 (1:Int) (Zau (2:Int) x7) false).bind fun x8 =>(ZbR x8 x7).bind fun x9 =>
            bif (!x9.1.fWait) then
              (ZaQ x9.2 x.fEnd).bind fun dk =>
              bif (decide (dk >= (0:Int))) then
                (Zaj x9.1 (3:Int) (Zau (2:Int) x7) true).bind fun fP =>(Zaj fP (4:Int) (0:Int) false).bind fun ge =>some (ge,ZdE 7)
              else
                (Zbg x9.1 c.fMaxIn true).bind fun dm =>
                bif dm.1.fWait then some (dm.1,repZ)
                else
                  bif dm.2 then
                    (Zbw x9.2 x).bind fun eX =>(ZaF dm.1 x7 x9.2 eX).bind fun eP =>
                    ZaR x7 dm.2 c x ⟨[],0,opZ,false⟩ repZ eP
                  else ZaR x7 dm.2 c x ⟨[],0,opZ,false⟩ repZ dm.1
            else
              (Zbg x9.1 c.fMaxIn true).bind fun dl =>
              bif dl.1.fWait then some (dl.1,repZ)
              else
                bif dl.2 then
                  (Zbw x9.2 x).bind fun iW =>(ZaF dl.1 x7 x9.2 iW).bind fun iX =>
                  ZaR x7 dl.2 c x ⟨[],0,opZ,false⟩ repZ iX
                else ZaR x7 dl.2 c x ⟨[],0,opZ,false⟩ repZ dl.1):=by
      have ie:Zcf x.fEnd.fAddr c.fSecret c.fShards = some (pt c x):=(Zor x.fEnd.fAddr hx.2.1.1 c.fSecret c.fShards).2.1
      have j:valZ.fBans = []:=rfl
      have u0:=(Zpf [] x.fEnd.fAddr x.fNow (by simp) (by simp) hx.2.1.1).2
      -- behind a wait ahead of the part
      have w1 : ∀ q, ∃ d, ((Zcf x.fEnd.fAddr c.fSecret c.fShards).bind fun x7 => (Zaj (wt got q) (1 : Int) (Zau (2 : Int) x7) false).bind fun x8 => (ZbR x8 x7).bind fun x9 =>
            bif (!x9.1.fWait) then
              (ZaQ x9.2 x.fEnd).bind fun dk =>
              bif (decide (dk >= (0:Int))) then
                (Zaj x9.1 (3:Int) (Zau (2:Int) x7) true).bind fun fP =>(Zaj fP (4:Int) (0:Int) false).bind fun ge =>some (ge,ZdE 7)
              else
                (Zbg x9.1 c.fMaxIn true).bind fun dm =>
                bif dm.1.fWait then some (dm.1,repZ)
                else
                  bif dm.2 then
                    (Zbw x9.2 x).bind fun eX =>(ZaF dm.1 x7 x9.2 eX).bind fun eP =>
                    ZaR x7 dm.2 c x ⟨[],0,opZ,false⟩ repZ eP
                  else ZaR x7 dm.2 c x ⟨[],0,opZ,false⟩ repZ dm.1
            else
              (Zbg x9.1 c.fMaxIn true).bind fun dl =>
              bif dl.1.fWait then some (dl.1,repZ)
              else
                bif dl.2 then
                  (Zbw x9.2 x).bind fun iW =>(ZaF dl.1 x7 x9.2 iW).bind fun iX =>
                  ZaR x7 dl.2 c x ⟨[],0,opZ,false⟩ repZ iX
                else ZaR x7 dl.2 c x ⟨[],0,opZ,false⟩ repZ dl.1) = some (wt got q,d)/\anyW d:=fun q =>by
        rw [ie,Zaw,ZaO,Zaw,Zon,Zaw]
        simp only [Zeg,Bool.not_true,cond_false,ZpM,Zaw,cond_true]
        exact ⟨_,rfl,trivial⟩
      refine Wlk.seqU (ZiY (by omega) (Nat.zero_le _) 2 0 false) (fun _ I _ u _ =>?_) (fun q =>?_)
      rotate_left
      . rw [ZdB,Zaw]
        simp only [j]
        rw [u0,Zaw,Zag]
        split
        . rw [ZaO]; exact ⟨_,rfl,trivial⟩
        . exact w1 q
      refine Wlk.seqP (Zmi (by omega) u _) (fun v b J _ o A =>?_) (fun q b hb =>?_)
      rotate_left
      . subst hb
        simp only [j]
        rw [u0,Zaw,Zag]
        split
        . rw [ZaO]; exact ⟨_,rfl,trivial⟩
        . exact w1 q
      obtain ⟨rfl,B⟩:=A
      have jm:=hG.val v B
      dsimp only
      rw [(Zpf v.fBans x.fEnd.fAddr x.fNow (by unfold maxLen; omega) jm.1.2.2.1.2 hx.2.1.1).2,Zaw,Zag]
      by_cases h0:Zpg v.fBans x.fEnd.fAddr x.fNow > 0
      . rw [if_pos h0,if_pos h0]
        exact ZrT hx hG o 4 0 true _
      . rw [if_neg h0,if_neg h0,ie,Zaw,Zpp hx]
        unfold ZzL
        simp only [Pr.bind_assoc]
        refine Wlk.seqU (ZiY (by omega) o 1 (2 + pt c x) false) (fun _ L _ C _ =>?_) (fun q =>?_)
        rotate_left
        . rw [Zon,Zaw]
          simp only [Zeg,Bool.not_true,cond_false,ZpM,Zaw,cond_true]
          exact ⟨_,rfl,trivial⟩
        refine Wlk.seqP (ZCu (by omega) C (pt c x)) (fun w b M _ t D =>?_) (fun q b _ =>?_)
        rotate_left
        . simp only [Zeg,Bool.not_true,cond_false,ZpM,Zaw,cond_true]
          exact ⟨_,rfl,trivial⟩
        obtain ⟨rfl,k7,_⟩:=D
        simp only [ZgG,Bool.not_false,cond_true]
        rw [ZgU _ _ (by unfold maxLen; omega),Zaw,Zag]
        by_cases e:ZdU w x.fEnd >= 0
        . rw [if_pos e,if_pos e]
          simp only [Pr.bind_assoc,Pr.bind_ret,if_true]
          refine Wlk.seqU (ZiY (by omega) t 3 (2 + pt c x) true) (fun _ E _ g _ =>ZrT hx hG g 4 0 false (ZdE 7)) (fun q =>?_)
          rw [ZaO]; exact ⟨_,rfl,trivial⟩
        . rw [if_neg e,if_neg e]
          simp only [Pr.bind_assoc]
          refine Wlk.seqP (ZCt (by omega) t c.fMaxIn true) (fun ok b E _ g ar =>?_) (fun q b _ =>?_)
          rotate_left
          . simp only [Zeg,cond_true]
            exact ⟨_,rfl,trivial⟩
          cases ar
          simp only [ZgG,cond_false]
          have sW : ∀ q,∃ d,Zdx c x (wt got q) = some (wt got q,d):=fun q =>by
            unfold Zdx
            obtain ⟨ls,cw,_⟩:=ZuL (got:=got) (c:=c) (by omega) (by omega) q
            rw [Zjh got d6,Zaw,cw,Zaw]
            simp only [Zeg,cond_true]
            exact ⟨_,rfl⟩
          cases ok with
          | true =>
            rw [cond_true,if_pos rfl,ZpX x _ (by omega),Zaw]
            simp only [Pr.bind_assoc,Pr.bind_ret,if_true]
            unfold ZaR
            simp only [Bool.not_true,cond_false,Zpp hx]
            refine Wlk.seqU (ZoZ (by omega) g _ _ _ (by rw [Zpe]; omega)) (fun _ O _ F _ =>?_) (fun q =>?_)
            rotate_left
            . rw [ZaO,Zaw,ZaO]; exact ⟨_,rfl,trivial⟩
            refine Wlk.seqU (ZiY (by omega) F 3 (2 + pt c x) false) (fun _ G _ i _ =>ZrT hx hG i 4 0 false repZ) (fun q =>?_)
            rw [ZaO]; exact ⟨_,rfl,trivial⟩
          | false =>
            rw [cond_false,if_neg (by decide)]
            simp only [Pr.bind_assoc,Pr.bind_ret,Bool.false_eq_true,if_false]
            unfold ZaR
            simp only [Bool.not_false,cond_true,Zpp hx]
            refine Wlk.seqU (ZiY (by omega) g 3 (2 + pt c x) false) (fun _ G _ i _ =>?_) (fun q =>?_)
            rotate_left
            . obtain ⟨d,H⟩:=sW q
              rw [H,Zaw]; exact ⟨_,rfl,trivial⟩
            have cj : ∀ r:Option (Zad × Zai),(r.bind fun y =>some (y.1,y.2)) = r:=fun r =>by cases r <;> rfl
            rw [cj]
            exact ZPB hx bM hs hG i
    exact body
end
theorem ZOw{α:Type}(L R:List α)(x y:α):(L++x :: R).set L.length y=L++y :: R:=by
 induction L with
 |nil=>rfl
 |cons z L ih=>simp[ih]
theorem ZKe{α:Type}(L R:List α)(x d:α):(L++x :: R).getD L.length d=x:=by
 induction L with
 |nil=>rfl
 |cons z L ih=>simp
theorem ZNI{α:Type}{l L R:List α}{x y:α}{k:Nat}(h:l=L++x :: R)(d:k=L.length):l.set k y=L++y :: R:=by rw[h,d,ZOw]
theorem ZKf{α:Type}{l L R:List α}{x d:α}{k:Nat}(h:l=L++x :: R)(e:k=L.length):l.getD k d=x:=by rw[h,e,ZKe]
abbrev Prs:=List Zaa
def ltP(x y:Zaa):Bool:=decide (cmpE x.fEnd y.fEnd<0)
theorem ZtN{x y:Zaa}:ltP x y=true↔cmpE x.fEnd y.fEnd<0:=by unfold ltP;simp
theorem ZzX{x y:Zaa}:ltP x y=false↔¬cmpE x.fEnd y.fEnd<0:=by unfold ltP;simp
theorem ZtM{x y z:Zaa}(g:ltP x y=false)(d:ltP y z=false):ltP x z=false:=by
 rw[ZzX]at *
 intro h;have e:cmpE x.fEnd y.fEnd=0\/0<cmpE x.fEnd y.fEnd:=by omega
 rcases e with e|e
 .rw[Zls.1 e]at h;exact d h
 .exact d (Zol (Zlt.1 e) h)
theorem ZPa{x y z:Zaa}(d:ltP z x=true)(e:ltP y x=false):ltP z y=true:=by
 cases h:ltP z y with
 |true=>rfl
 |false=>rw[ZtM h e]at d;cases d
theorem ZMu(a b:Zaa):ZoJ a b=some (cmpE a.fEnd b.fEnd):=by
 unfold ZoJ;rw[ZxM];rfl
def mrg:Prs->Prs->Prs | [],ys=>ys|x :: xs,[]=>x :: xs|x :: xs,y :: ys=>if ltP y x=true then y :: mrg (x :: xs) ys else x :: mrg xs (y :: ys)
termination_by xs ys=>xs.length+ys.length
theorem Zpt(xs:Prs):mrg xs []=xs:=by cases xs<;>simp[mrg]
theorem ZkI(xs:Prs):mrg [] xs=xs:=by simp[mrg]
theorem ZvD{x y:Zaa}(xs ys:Prs)(h:ltP y x=true):mrg (x :: xs) (y :: ys)=y :: mrg (x :: xs) ys:=by rw[mrg,if_pos h]
theorem ZvE{x y:Zaa}(xs ys:Prs)(h:ltP y x=false):mrg (x :: xs) (y :: ys)=x :: mrg xs (y :: ys):=by rw[mrg,if_neg (by simp[h])]
theorem Zro:∀(n:Nat)(x1 x2 y1 y2:Prs),x1.length+y1.length<=n->(∀y∈y1,∀x∈x2,ltP y x=true)->(∀x∈x1,∀y∈y2,ltP y x=false)->mrg (x1++x2) (y1++y2)=mrg x1 y1++mrg x2 y2:=by
 intro n;induction n with
 |zero=>
  intro x1 x2 y1 y2 h _ _;obtain rfl:=List.eq_nil_of_length_eq_zero (show x1.length=0 by omega);obtain rfl:=List.eq_nil_of_length_eq_zero (show y1.length=0 by omega);simp[ZkI]
 |succ n ih=>
  intro x1 x2 y1 y2 h d e;cases x1 with
  |nil=>
   cases y1 with
   |nil=>simp[ZkI]
   |cons y y1=>
    cases x2 with
    |nil=>simp[ZkI]
    |cons x x2=>
     simp only[List.length_cons,List.length_nil]at h;rw[List.nil_append,List.cons_append,ZvD _ _ (d y (by simp) x (by simp)),ZkI];have:=ih [] (x :: x2) y1 y2 (by simp only[List.length_nil];omega) (fun y' fJ=>d y' (by simp[fJ])) (by simp);rw[List.nil_append,ZkI]at this;rw[this];rfl
  |cons x x1=>
   cases y1 with
   |nil=>
    cases y2 with
    |nil=>simp[Zpt]
    |cons y y2=>
     simp only[List.length_cons,List.length_nil]at h;rw[List.nil_append,List.cons_append,ZvE _ _ (e x (by simp) y (by simp)),Zpt];have:=ih x1 x2 [] (y :: y2) (by simp only[List.length_nil];omega) (by simp) (fun x' g6=>e x' (by simp[g6]));rw[List.nil_append,Zpt]at this;rw[this];rfl
   |cons y y1=>
    simp only[List.length_cons]at h;rw[List.cons_append,List.cons_append];cases g:ltP y x with
    |true=>
     rw[ZvD _ _ g,ZvD _ _ g,<-List.cons_append,ih (x :: x1) x2 y1 y2 (by simp only[List.length_cons];omega) (fun y' fJ=>d y' (by simp[fJ])) e];rfl
    |false=>
     have:=ih x1 x2 (y :: y1) y2 (by simp only[List.length_cons];omega) d (fun x' g6=>e x' (by simp[g6]));rw[List.cons_append]at this;rw[ZvE _ _ g,ZvE _ _ g,this];rfl
theorem ZOY:∀(n:Nat)(a b:Prs),a.length+b.length<=n->(mrg a b).length=a.length+b.length:=by
 intro n;induction n with
 |zero=>
  intro a b h;obtain rfl:=List.eq_nil_of_length_eq_zero (show a.length=0 by omega);simp[ZkI]
 |succ n ih=>
  intro a b h;cases a with
  |nil=>simp[ZkI]
  |cons x a=>
   cases b with
   |nil=>simp[Zpt]
   |cons y b=>
    simp only[List.length_cons]at h ⊢;cases d:ltP y x with
    |true=>rw[ZvD _ _ d,List.length_cons,ih _ _ (by simp only[List.length_cons];omega)];simp only[List.length_cons];omega
    |false=>rw[ZvE _ _ d,List.length_cons,ih _ _ (by simp only[List.length_cons];omega)];simp only[List.length_cons];omega
theorem ZJE:∀(n:Nat)(a b:Prs),a.length+b.length<=n->∀z∈mrg a b,z∈a\/z∈b:=by
 intro n;induction n with
 |zero=>
  intro a b h z hz;obtain rfl:=List.eq_nil_of_length_eq_zero (show a.length=0 by omega);rw[ZkI]at hz;exact .inr hz
 |succ n ih=>
  intro a b h z hz;cases a with
  |nil=>rw[ZkI]at hz;exact .inr hz
  |cons x a=>
   cases b with
   |nil=>rw[Zpt]at hz;exact .inl hz
   |cons y b=>
    simp only[List.length_cons]at h;cases d:ltP y x with
    |true=>
     rw[ZvD _ _ d]at hz;rcases List.mem_cons.1 hz with hz|hz
     .exact .inr (by simp[hz])
     .rcases ih _ _ (by simp only[List.length_cons];omega) z hz with q|q
      .exact .inl q
      .exact .inr (by simp[q])
    |false=>
     rw[ZvE _ _ d]at hz;rcases List.mem_cons.1 hz with hz|hz
     .exact .inl (by simp[hz])
     .rcases ih _ _ (by simp only[List.length_cons];omega) z hz with q|q
      .exact .inl (by simp[q])
      .exact .inr q
def bn(l:Prs):Prop:=l.Pairwise fun x y=>ltP y x=false
theorem ZMF{x y:Zaa}(h:ltP x y=true):ltP y x=false:=by
 rw[ZtN]at h;rw[ZzX];intro d;have:=Zlt.2 d;omega
theorem ZOV:∀(n:Nat)(a b:Prs),a.length+b.length<=n->bn a->bn b->bn (mrg a b):=by
 intro n;induction n with
 |zero=>
  intro a b h ha hb;obtain rfl:=List.eq_nil_of_length_eq_zero (show a.length=0 by omega);rw[ZkI];exact hb
 |succ n ih=>
  intro a b h ha hb;cases a with
  |nil=>rw[ZkI];exact hb
  |cons x a=>
   cases b with
   |nil=>rw[Zpt];exact ha
   |cons y b=>
    simp only[List.length_cons]at h;have cr:=List.pairwise_cons.1 ha;have aN:=List.pairwise_cons.1 hb;cases d:ltP y x with
    |true=>
     rw[ZvD _ _ d];refine List.pairwise_cons.2 ⟨fun z e=>?_,ih _ _ (by simp only[List.length_cons];omega) ha aN.2⟩;rcases ZJE _ _ _ (Nat.le_refl _) z e with q|q
     .have:ltP x y=false:=ZMF d;rcases List.mem_cons.1 q with q|q
      .rw[q];exact this
      .exact ZtM (cr.1 z q) this
     .exact aN.1 z q
    |false=>
     rw[ZvE _ _ d];refine List.pairwise_cons.2 ⟨fun z e=>?_,ih _ _ (by simp only[List.length_cons];omega) cr.2 hb⟩;rcases ZJE _ _ _ (Nat.le_refl _) z e with q|q
     .exact cr.1 z q
     .rcases List.mem_cons.1 q with q|q
      .rw[q];exact d
      .exact ZtM (aN.1 z q) d
def ZqI(l:Prs):Prs:=l.foldl (fun o x=>mrg o [x]) []
theorem ZtU(l:Prs)(x:Zaa):ZqI (l++[x])=mrg (ZqI l) [x]:=by unfold ZqI;rw[List.foldl_append];rfl
theorem ZAg(l:Prs):(ZqI l).length=l.length:=by
 have:∀n,n<=l.length->(ZqI (l.take n)).length=n:=by
  intro n;induction n with
  |zero=>intro _;simp[ZqI]
  |succ n ih=>
   intro h;rw[List.take_succ_eq_append_getElem (show n<l.length by omega),ZtU,ZOY _ _ _ (Nat.le_refl _),ih (by omega)];rfl
 have h:=this l.length (Nat.le_refl _);rwa [List.take_length]at h
theorem ZJO(l:Prs):bn (ZqI l):=by
 have:∀n,n<=l.length->bn (ZqI (l.take n)):=by
  intro n;induction n with
  |zero=>intro _;simp[ZqI,bn]
  |succ n ih=>
   intro h;rw[List.take_succ_eq_append_getElem (show n<l.length by omega),ZtU];exact ZOV _ _ _ (Nat.le_refl _) (ih (by omega)) (by simp[bn])
 have h:=this l.length (Nat.le_refl _);rwa [List.take_length]at h
theorem ZOW{o1 d:Prs}{x:Zaa}(i:∀y∈o1,ltP x y=false)(j:∀y∈d,ltP x y=true):mrg (o1++d) [x]=o1++x :: d:=by
 have a:=Zro _ o1 d [x] [] (Nat.le_refl _) (fun y e z g=>by rw[List.mem_singleton.1 e];exact j z g) (by simp);have b:=Zro _ o1 [] [] [x] (Nat.le_refl _) (by simp) (fun z g y e=>by rw[List.mem_singleton.1 e];exact i z g);simp only[List.append_nil,List.nil_append,Zpt,ZkI]at a b;rw[a,b];simp
theorem ZOR{o1 d:Prs}{x:Zaa}(i:∀y∈o1,ltP y x=true)(j:∀y∈d,ltP y x=false):mrg [x] (o1++d)=o1++x :: d:=by
 have a:=Zro _ [] [x] o1 d (Nat.le_refl _) (fun y e z g=>by rw[List.mem_singleton.1 g];exact i y e) (by simp);have b:=Zro _ [x] [] [] d (Nat.le_refl _) (by simp) (fun z g y e=>by rw[List.mem_singleton.1 g];exact j y e);simp only[List.append_nil,List.nil_append,Zpt,ZkI]at a b;rw[a,b];simp
theorem ZMg(o:Prs)(x:Zaa)(hs:bn o)(hl:o.length<=900000):ZiM o x=some (mrg o [x]):=by
 have t:o.length<=maxLen:=by unfold maxLen;omega
 have au:∀(fu i:Nat),i<=o.length->o.length-i<fu->(∀y∈o.take i,ltP x y=false)->ZfF o fu (i:Int) x=some (mrg o [x]):=by
  intro fu;induction fu with
  |zero=>intro _ _ h;omega
  |succ fu ih=>
   intro i A B bq;unfold ZfF;have bm:(∀y∈o.drop i,ltP x y=true)->o.take i++[x]++o.drop i=mrg o [x]:=fun h=>by
    have:=ZOW bq h;rw[List.take_append_drop]at this;rw[this];simp
   have lt:(o.take i).length=i:=by simp;omega
   have ld:(o.drop i).length=o.length-i:=by simp
   have n1:(o.take i).length * 80<=140737488355328/\(o.take i).length<=maxLen:=by rw[lt];unfold maxLen;omega
   have n2:(o.take i++[x]).length * 80<=140737488355328/\(o.take i++[x]).length<=maxLen:=by simp only[List.length_append,lt,List.length_singleton,maxLen];omega
   have n3:(o.take i++[x]++o.drop i).length * 80<=140737488355328/\(o.take i++[x]++o.drop i).length<=maxLen:=by simp only[List.length_append,lt,ld,List.length_singleton,maxLen];omega
   simp only[Zag,Int.toNat_natCast,List.nil_append,Zap n1,Zap n2,Zap n3];by_cases h:i<o.length
   .rw[iNb,Zap ⟨by omega,by omega⟩,Zou,Zaw];have u:Zau (i:Int) 1=((i+1:Nat):Int):=add1 h t;have g:=Zez o Zaa.d i h;by_cases j:cmpE (o.getD i Zaa.d).fEnd x.fEnd<=0
    .rw[if_pos j,u];refine ih (i+1) (by omega) (by omega) fun y e=>?_;rw[List.take_succ_eq_append_getElem h,<-ZbH o Zaa.d i h]at e;rcases List.mem_append.1 e with q|q
     .exact bq y q
     .rw[List.mem_singleton.1 q,ZzX];intro v;have:=Zlt.2 v;omega
    .rw[if_neg j,Zap ⟨by omega,by omega⟩,bm];intro y e;have hx:ltP x (o.getD i Zaa.d)=true:=by rw[ZtN];exact Zlt.1 (by omega)
     rw[g]at e;have r:bn (o.drop i):=List.Pairwise.sublist (List.drop_sublist i o) hs;rw[g]at r;rcases List.mem_cons.1 e with q|q
     .rw[q];exact hx
     .exact ZPa hx ((List.pairwise_cons.1 r).1 y q)
   .rw[iNa,Zap ⟨by omega,by omega⟩,bm];intro y e;rw[List.drop_eq_nil_of_le (by omega)]at e;cases e
 unfold ZiM;have:=au ((((o.length:Nat):Int)-(0:Int)).toNat+2) 0 (by omega) (by omega) (by simp);exact this
theorem ZpV(l:Prs)(hl:l.length<=900000):Zdy l=some (ZqI l):=by
 have d:l.length<=maxLen:=by unfold maxLen;omega
 have au:∀(fu i:Nat),i<=l.length->l.length-i<fu->Zev l fu (i:Int) (ZqI (l.take i))=some (ZqI l):=by
  intro fu;induction fu with
  |zero=>intro _ _ h;omega
  |succ fu ih=>
   intro i g j;unfold Zev;simp only[Zag,Int.toNat_natCast];by_cases h:i<l.length
   .have e:Zau (i:Int) 1=((i+1:Nat):Int):=add1 h d;rw[iNb,Zap ⟨by omega,by omega⟩,ZMg _ _ (ZJO _) (by rw[ZAg];simp;omega),Zaw,e,<-ZtU,ZbH l _ i h,<-List.take_succ_eq_append_getElem h];exact ih (i+1) (by omega) (by omega)
   .rw[iNa,List.take_of_length_le (by omega)]
 unfold Zdy;have:=au ((((l.length:Nat):Int)-(0:Int)).toNat+2) 0 (by omega) (by omega);exact this
theorem ZPf(i j:Nat)(h:i+j<=10000000):IntKind.wrap .i64 (Int.fdiv (IntKind.wrap .u64 (Zau (i:Int) (j:Int))) (2 ^ (min (1:Int).toNat (IntKind.bits .u64))))=(((i+j) / 2:Nat):Int):=by
 have d:Zau (i:Int) (j:Int)=((i+j:Nat):Int):=by rw[Zbs (by omega) (by omega)];omega
 have e:IntKind.wrap .u64 ((i+j:Nat):Int)=((i+j:Nat):Int):=by
  simp only[IntKind.wrap,IntKind.bits,IntKind.signed];simp;omega
 have g:(2:Int) ^ (min (1:Int).toNat (IntKind.bits .u64))=2:=rfl;rw[d,e,g,Int.fdiv_eq_ediv_of_nonneg _ (by omega),Zfn (by omega) (by omega)];omega
theorem ZME{x y z:Zaa}(d:ltP z x=true)(e:ltP z y=false):ltP y x=true:=by
 cases h:ltP y x with
 |true=>rfl
 |false=>rw[ZtM e h]at d;cases d
theorem ZPb(x:Zaa):ltP x x=false:=by rw[ZzX,Zls.2 rfl];omega
theorem ZIs{Y:Prs}(h:bn Y){i j:Nat}(o:i<=j)(g:j<Y.length):ltP (Y.getD j Zaa.d) (Y.getD i Zaa.d)=false:=by
 by_cases e:i=j
 .rw[e];exact ZPb _
 .rw[ZbH Y _ j g,ZbH Y _ i (by omega)];exact List.pairwise_iff_getElem.1 h i j (by omega) g (by omega)
theorem ZLB{Y:Prs}{k:Nat}{y:Zaa}(h:y∈Y.take k):∃i,i<k/\i<Y.length/\y=Y.getD i Zaa.d:=by
 obtain⟨i,e,rfl⟩:=List.getElem_of_mem h;rw[List.length_take]at e;exact⟨i,by omega,by omega,by rw[ZbH Y _ i (by omega),List.getElem_take]⟩
theorem ZNb{Y:Prs}{k:Nat}{y:Zaa}(h:y∈Y.drop k):∃i,k<=i/\i<Y.length/\y=Y.getD i Zaa.d:=by
 obtain⟨i,e,rfl⟩:=List.getElem_of_mem h;rw[List.length_drop]at e;exact⟨k+i,by omega,by omega,by rw[ZbH Y _ (k+i) (by omega),List.getElem_drop]⟩
theorem ZQg{P Y Q:Prs}{i k:Nat}(j:k=P.length+i)(g:i<Y.length):(P++(Y++Q)).getD k Zaa.d=Y.getD i Zaa.d:=by
 have:=Zez Y Zaa.d i g;have e:P++(Y++Q)=(P++Y.take i)++Y.getD i Zaa.d :: (Y.drop (i+1)++Q):=by
  rw[List.append_assoc,<-List.cons_append,<-this,<-List.append_assoc (Y.take i),List.take_append_drop]
 exact ZKf e (by simp;omega)
theorem mv1(P R:Prs)(x:Zaa)(k8:Int)(k:Int->Int->Prs->Option Prs):∀(Y2 Y1:Prs)(fu:Nat),Y2.length+1<=fu->P.length+Y1.length+Y2.length+R.length<=900000 ->
  ZbF (P.length:Int) ((P.length+Y1.length+Y2.length+1:Nat):Int) k8 k fu ((P.length+Y1.length:Nat):Int) (P++(Y1++(x :: (Y2++R))))=some (P++(Y1++(Y2++(x :: R)))):=by
 intro Y2;induction Y2 with
 |nil=>
  intro Y1 fu e hb;obtain⟨fu,rfl⟩:=sC fu;unfold ZbF;simp only[List.length_nil,Nat.add_zero];rw[Zag,if_neg (by rw[ZcC (by omega) (by omega)];omega)];rfl
 |cons y Y2 ih=>
  intro Y1 fu e hb;obtain⟨fu,rfl⟩:=sC fu;simp only[List.length_cons]at e hb ⊢;have g:Zau ((P.length+Y1.length:Nat):Int) 1=((P.length+Y1.length+1:Nat):Int):=by rw[Zbs (by omega) (by omega)];omega
  have hl:(P++(Y1++(x :: (y :: Y2++R)))).length=P.length+Y1.length+Y2.length+R.length+2:=by simp;omega
  unfold ZbF;rw[Zag,if_pos (by rw[ZcC (by omega) (by omega)];omega),g,Zap (by rw[hl];omega),Zap (by rw[hl];omega)];simp only[Int.toNat_natCast];have i:(P++(Y1++(x :: (y :: Y2++R)))).getD (P.length+Y1.length+1) Zaa.d=y:=ZKf (L:=P++(Y1++[x])) (R:=Y2++R) (by simp) (by simp;omega);have j:(P++(Y1++(x :: (y :: Y2++R)))).getD (P.length+Y1.length) Zaa.d=x:=ZKf (L:=P++Y1) (R:=y :: (Y2++R)) (by simp) (by simp);have s1:(P++(Y1++(x :: (y :: Y2++R)))).set (P.length+Y1.length) y=P++(Y1++(y :: (y :: Y2++R))):=by
   rw[ZNI (L:=P++Y1) (x:=x) (R:=y :: (Y2++R)) (by simp) (by simp)];simp
  have s2:(P++(Y1++(y :: (y :: Y2++R)))).set (P.length+Y1.length+1) x=P++(Y1++(y :: (x :: (Y2++R)))):=by
   rw[ZNI (L:=P++(Y1++[y])) (x:=y) (R:=Y2++R) (by simp) (by simp;omega)];simp
  rw[i,j,s1,s2];have:=ih (Y1++[y]) fu (by omega) (by simp only[List.length_append,List.length_singleton];omega);simp only[List.length_append,List.length_singleton,List.append_assoc,List.singleton_append]at this;have x1:P.length+(Y1.length+1)+Y2.length+1=P.length+Y1.length+(Y2.length+1)+1:=by omega
  have x2:P.length+(Y1.length+1)=P.length+Y1.length+1:=by omega
  rw[x1,x2]at this;exact this
theorem bs1(P Y Q:Prs)(x:Zaa)(hs:bn Y)(hb:P.length+Y.length+Q.length<=800000):∀(s lo g fu:Nat),g-lo<=s->lo<=g->g<=Y.length->s+1<=fu->(∀y∈Y.take lo,ltP y x=true)->(∀y∈Y.drop g,ltP y x=false) ->
  ZaS (P.length:Int) fu ((P.length+1+lo:Nat):Int) ((P.length+1+g:Nat):Int) (P++(x :: (Y++Q)))=some (P++(mrg [x] Y++Q)):=by
 intro s;have bm:∀(lo g fu:Nat),lo=g->g<=Y.length->(∀y∈Y.take lo,ltP y x=true)->(∀y∈Y.drop g,ltP y x=false) ->
   ZaS (P.length:Int) (fu+1) ((P.length+1+lo:Nat):Int) ((P.length+1+g:Nat):Int) (P++(x :: (Y++Q)))=some (P++(mrg [x] Y++Q)):=by
  intro lo g fu e B u j;subst e;unfold ZaS;rw[Zag,iNa];have ho:=ZOR u j;rw[List.take_append_drop]at ho;have:=mv1 P (Y.drop lo++Q) x ((P.length+1+lo:Nat):Int) (ZaS (P.length:Int) fu) (Y.take lo) [] 1000000 (by simp;omega) (by simp;omega);simp only[List.length_take,Nat.min_eq_left B,List.length_nil,Nat.add_zero,List.nil_append]at this;rw[<-List.append_assoc (Y.take lo),List.take_append_drop,show P.length+lo+1=P.length+1+lo by omega]at this;rw[this,ho];simp
 induction s with
 |zero=>
  intro lo g fu h0 u j C o r;obtain⟨fu,rfl⟩:=sC fu;exact bm lo g fu (by omega) j o r
 |succ s ih=>
  intro lo g fu h0 u j C o r;obtain⟨fu,rfl⟩:=sC fu;by_cases e:lo=g
  .exact bm lo g fu e j o r
  .have D:(P.length+1+lo+(P.length+1+g)) / 2=P.length+1+(lo+g) / 2:=by omega
   have A:(lo+g) / 2<Y.length:=by omega
   have hl:(P++(x :: (Y++Q))).length=P.length+1+Y.length+Q.length:=by simp;omega
   unfold ZaS;rw[Zag,iNb,ZPf _ _ (by omega),D,Zap (by rw[hl];omega),Zap (by rw[hl];omega)];simp only[Int.toNat_natCast];have E:(P++(x :: (Y++Q))).getD (P.length+1+(lo+g) / 2) Zaa.d=Y.getD ((lo+g) / 2) Zaa.d:=by
    have:=ZQg (P:=P++[x]) (Y:=Y) (Q:=Q) (i:=(lo+g) / 2) (k:=P.length+1+(lo+g) / 2) (by simp) A;simpa using this
   rw[E,ZKe,ZMu,Zaw,Zag];have F:Zau ((P.length+1+(lo+g) / 2:Nat):Int) 1=((P.length+1+((lo+g) / 2+1):Nat):Int):=by rw[Zbs (by omega) (by omega)];omega
   by_cases t:cmpE (Y.getD ((lo+g) / 2) Zaa.d).fEnd x.fEnd<0
   .rw[if_pos t,F];refine ih _ _ fu (by omega) (by omega) j (by omega) (fun y v=>?_) r;obtain⟨i,i1,i2,rfl⟩:=ZLB v;exact ZME (ZtN.2 t) (ZIs hs (by omega) A)
   .rw[if_neg t];refine ih _ _ fu (by omega) (by omega) (by omega) (by omega) o (fun y v=>?_);obtain⟨i,i1,i2,rfl⟩:=ZNb v;exact ZtM (ZIs hs i1 i2) (ZzX.2 t)
def Mg(gr:Prs->Int->Int->Int->Option Prs)(N:Nat):Prop:=∀(P X Y Q:Prs),0<X.length->0<Y.length->bn X->bn Y->X.length+Y.length<=N->P.length+X.length+Y.length+Q.length<=700000->gr (P++(X++(Y++Q))) (P.length:Int) ((P.length+X.length:Nat):Int) ((P.length+X.length+Y.length:Nat):Int)=some (P++(mrg X Y++Q))
theorem bn.take{l:Prs}(h:bn l)(k:Nat):bn (l.take k):=List.Pairwise.sublist (List.take_sublist k l) h
theorem bn.drop{l:Prs}(h:bn l)(k:Nat):bn (l.drop k):=List.Pairwise.sublist (List.drop_sublist k l) h
section
variable {gr:Prs->Int->Int->Int->Option Prs} {N:Nat} (cN:Mg gr N) (P X Y Q:Prs) (hX:bn X) (hY:bn Y) (d7:0 < X.length) (d8:0 < Y.length) (hN:X.length + Y.length<=N + 1) (hb:P.length + X.length + Y.length + Q.length<=700000)
 (mid s0 r0:Nat) (hmid:mid=(P.length+(P.length+X.length+Y.length)) / 2)
 (h0:(mid<P.length+X.length/\s0+(P.length+X.length+Y.length)=mid+(P.length+X.length)/\r0=mid)\/(P.length+X.length<=mid/\s0=P.length/\r0=P.length+X.length))
include cN hX hY d7 d8 hN hb hmid h0
end
section
variable {gr:Prs->Int->Int->Int->Option Prs} {N:Nat} (cN:Mg gr N) (P X Y Q:Prs) (hX:bn X) (hY:bn Y) (d7:0 < X.length) (d8:0 < Y.length) (hN:X.length + Y.length<=N + 1) (hb:P.length + X.length + Y.length + Q.length<=700000)
 (mid s0 r0:Nat) (hmid:mid=(P.length+(P.length+X.length+Y.length)) / 2)
 (h0:(mid<P.length+X.length/\s0+(P.length+X.length+Y.length)=mid+(P.length+X.length)/\r0=mid)\/(P.length+X.length<=mid/\s0=P.length/\r0=P.length+X.length))
include cN hX hY d7 d8 hN hb hmid h0
end
def ZtR:Pr (List Zac):=(Zli ⟨3,0,0⟩).bind fun v=>.ret v.fBans
def ZEX(x:Zao):Pr Zai:=(keyP 1 0 false).bind fun _=>ZtR.bind fun l=>if(ZrK l x.fNet).2=0 then(Zlg ⟨3,0,0⟩ ⟨0,ZkG,(ZrK l x.fNet).1,[]⟩ true).bind fun _=>(keyP 3 0 false).bind fun _=>.ret (ZdE 0)else(keyP 3 0 true).bind fun _=>.ret (ZdE (ZrK l x.fNet).2)
def ZxU(x:Zao):Pr Zai:=(keyP 2 0 false).bind fun _=>ZtR.bind fun l=>(keyP 4 0 true).bind fun _=>.ret ⟨0,endZ,0,Zpg l x.fEnd.fAddr x.fNow,[]⟩
def ZLz(x:Zao):Pr Zai:=(keyP 1 0 false).bind fun _=>ZtR.bind fun l=>if(l.length:Int)-((Zkj l x.fNow).length:Int)>0 then(Zlg ⟨3,0,0⟩ ⟨0,ZkG,Zkj l x.fNow,[]⟩ true).bind fun _=>(keyP 3 0 false).bind fun _=>.ret ⟨0,endZ,(l.length:Int)-((Zkj l x.fNow).length:Int),0,[]⟩else(keyP 3 0 true).bind fun _=>.ret ⟨0,endZ,(l.length:Int)-((Zkj l x.fNow).length:Int),0,[]⟩
def ZMJ(c:Zaq):Pr Zai:=(keyP 2 0 false).bind fun _=>(keyP 1 1 false).bind fun _=>(ZoB c.fShards).bind fun _=>ZtR.bind fun b=>(Zli ⟨4,0,0⟩).bind fun v=>(Zve c.fShards.toNat 0 []).bind fun all=>(Zla c.fShards true).bind fun _=>(keyP 3 1 false).bind fun _=>(keyP 4 0 false).bind fun _=>.ret ⟨0,endZ,(b.length:Int),(v.fBook.length:Int),ZqI all.flatten⟩
section
variable {c:Zaq} {x:Zao} (hx:x.ok) {l:List Zae} (hl:Gl l)
include hx hl
end
def ZGD(n:Zav):Nat->List (List Zaa)->Pr Unit|_,[]=>.ret ()|i,was :: r=>(if 0<(ofP was n true).length then ZlQ (i:Int) was (ofP was n false)else .ret ()).bind fun _=>ZGD n (i+1) r
theorem ZMx(a:List Zaa)(n:Zav):(ofP a n true).length+(ofP a n false).length=a.length:=by
 unfold ofP;induction a with
 |nil=>rfl
 |cons x a ih=>
  cases h:hasS n x.fEnd.fAddr<;>simp[h]at ih ⊢<;>omega
def ZPz(c:Zaq)(x:Zao):Pr Zai:=ZtR.bind fun l=>if(addB l ⟨x.fNet,x.fNum⟩ c.fMaxBans).2=0 then(Zve c.fShards.toNat 0 []).bind fun all=>(Zlg ⟨3,0,0⟩ ⟨0,ZkG,(addB l ⟨x.fNet,x.fNum⟩ c.fMaxBans).1,[]⟩ false).bind fun _=>(ZGD x.fNet 0 all).bind fun _=>(ZHT (ofP all.flatten x.fNet true)).bind fun _=>.ret ⟨0,endZ,((ofP all.flatten x.fNet true).length:Int),0,[]⟩else .ret (ZdE (addB l ⟨x.fNet,x.fNum⟩ c.fMaxBans).2)
def banP(c:Zaq)(x:Zao):Pr Zai:=if x.fNum<=x.fNow then(keyP 8 0 true).bind fun _=>.ret (ZdE 3)else(keyP 1 0 false).bind fun _=>(keyP 1 1 false).bind fun _=>(ZoB c.fShards).bind fun _=>(ZPz c x).bind fun r=>(Zla c.fShards true).bind fun _=>(keyP 3 1 false).bind fun _=>(keyP 3 0 false).bind fun _=>.ret r
section
variable {c:Zaq} {x:Zao} (hx:x.ok) (bH:0<=c.fShards) (hs:c.fShards<=1000) {l:List Zae} (hl:Gl l)
include hx bH hs hl
def ZGQ(c:Zaq)(x:Zao):Pr Zai:=if Zlu x=true then(if x.fKind=6 then banP c x else if x.fKind=7 then ZEX x else if x.fKind=8 then ZxU x else if x.fKind=9 then ZLz x else if x.fKind=10 then ZMJ c else ZmQ)else ZmQ
end
section
variable {c:Zaq} {x:Zao} (hx:x.ok) {got:List Zae} (hG:Gl got) {a:Nat} (ha:a<=got.length)
include hx hG ha
theorem ZLv:Wlk got a eqP anyW (ZEX x) (Zhz x (wk got a)):=by
 have _u:=hx;have hL:=hG.len;unfold ZEX ZtR Zhz;simp only[Pr.bind_assoc,Pr.bind_ret];have bm:∀(q:Zat)(v:Zae),v.fBans.length<=10000->∀K:(List Zac×Int)->Option (Zad×Zai),(∀r,∃d,K r=some (wt got q,d))->∃d,((Zgx v.fBans x.fNet).bind K)=some (wt got q,d)/\anyW d:=fun q v e K j=>by
  rw[ZzD _ _ e,Zaw];obtain⟨d,o⟩:=j (ZrK v.fBans x.fNet);exact⟨d,o,trivial⟩
 have kk:∀(q:Zat)(r:List Zac×Int),∃d,(bif(r.2==(0:Int))then(ZaA (wt got q) ⟨3,0,0⟩ ⟨0,ZkG,r.1,[]⟩ true).bind fun x4=>(Zaj x4 3 0 (r.2 != (0:Int))).bind fun x5=>some (x5,(⟨r.2,endZ,0,0,[]⟩ : Zai))
   else(Zaj (wt got q) 3 0 (r.2 != (0:Int))).bind fun x6=>some (x6,(⟨r.2,endZ,0,0,[]⟩ : Zai)))=some (wt got q,d):=fun q r=>by
  simp only[Zic,ZaO,Zaw];cases(r.2==(0:Int))<;>exact⟨_,rfl⟩
 refine Wlk.seqU (ZiY (by omega) ha _ _ _) (fun _ y _ t _=>?_) (fun q=>?_);rotate_left
 .rw[ZdB,Zaw];exact bm q valZ (by simp[valZ]) _ (kk q)
 refine Wlk.seqP (Zmi (by omega) t _) (fun v v' A _ i e=>?_) (fun q b hb=>?_);rotate_left
 .rw[hb];exact bm q valZ (by simp[valZ]) _ (kk q)
 obtain⟨rfl,e⟩:=e;have ib:=hG.val v e;have hdl:=ZBT v.fBans x.fNet;dsimp only;rw[ZzD _ _ (by omega),Zaw,Zdn];by_cases h0:(ZrK v.fBans x.fNet).2=0
 .have g:((ZrK v.fBans x.fNet).2 != 0)=false:=by rw[h0];rfl
  rw[if_pos h0,if_pos h0,g];refine Wlk.seqU (Zmh (by omega) i _ _ _ ⟨by show (ZrK v.fBans x.fNet).1.length<=_;omega,Nat.zero_le _⟩) (fun _ B _ u _=>?_) (fun q=>?_)
  .rw[h0];exact ZmT hG u _ _ _ _
  .rw[ZaO];exact⟨_,rfl,trivial⟩
 .have g:((ZrK v.fBans x.fNet).2 != 0)=true:=by rw[bne_iff_ne];exact h0
  rw[if_neg h0,if_neg h0,g];exact ZmT hG i _ _ _ _
theorem ZOg:Wlk got a eqP anyW (ZLz x) (Zio x (wk got a)):=by
 have _u:=hx;have hL:=hG.len;unfold ZLz ZtR Zio;simp only[Pr.bind_assoc,Pr.bind_ret];have bm:∀(q:Zat)(K:(List Zac×Int)->Option (Zad×Zai)),(∀r,∃d,K r=some (wt got q,d))->∃d,((Zgc valZ.fBans x.fNow).bind K)=some (wt got q,d)/\anyW d:=fun q K j=>by
  rw[ZzA _ _ (by simp[valZ]),Zaw];obtain⟨d,o⟩:=j (Zkj valZ.fBans x.fNow,((valZ.fBans.length:Int)-((Zkj valZ.fBans x.fNow).length:Int)));exact⟨d,o,trivial⟩
 have kk:∀(q:Zat)(r:List Zac×Int),∃d,(bif decide (r.2>(0:Int))then(ZaA (wt got q) ⟨3,0,0⟩ ⟨0,ZkG,r.1,[]⟩ true).bind fun x4=>(Zaj x4 3 0 (r.2==(0:Int))).bind fun x5=>some (x5,(⟨0,endZ,r.2,0,[]⟩ : Zai))
   else(Zaj (wt got q) 3 0 (r.2==(0:Int))).bind fun x6=>some (x6,(⟨0,endZ,r.2,0,[]⟩ : Zai)))=some (wt got q,d):=fun q r=>by
  simp only[Zic,ZaO,Zaw];cases decide (r.2>(0:Int))<;>exact⟨_,rfl⟩
 refine Wlk.seqU (ZiY (by omega) ha _ _ _) (fun _ y _ t _=>?_) (fun q=>?_);rotate_left
 .rw[ZdB,Zaw];exact bm q _ (kk q)
 refine Wlk.seqP (Zmi (by omega) t _) (fun v v' A _ i e=>?_) (fun q b hb=>?_);rotate_left
 .rw[hb];exact bm q _ (kk q)
 obtain⟨rfl,e⟩:=e;have ib:=hG.val v e;have js:=Zvk v.fBans x.fNow;dsimp only;rw[ZzA _ _ (by omega),Zaw,Zag];dsimp only;generalize Zkj v.fBans x.fNow=sw at js;by_cases h0:(v.fBans.length:Int)-(sw.length:Int)>0
 .have g:((v.fBans.length:Int)-(sw.length:Int)==0)=false:=beq_false_of_ne (by omega);rw[if_pos h0,if_pos h0,g];refine Wlk.seqU (Zmh (by omega) i _ _ _ ⟨by show sw.length<=_;omega,Nat.zero_le _⟩) (fun _ B _ u _=>?_) (fun q=>?_)
  .exact ZmT hG u _ _ _ _
  .rw[ZaO];exact⟨_,rfl,trivial⟩
 .have g:((v.fBans.length:Int)-(sw.length:Int)==0)=true:=by rw[beq_iff_eq];omega
  rw[if_neg h0,if_neg h0,g];exact ZmT hG i _ _ _ _
theorem ZIk:Wlk got a eqP anyW (ZxU x) ((Zaj (wk got a) 2 0 false).bind fun x7=>(ZaE x7 ⟨3,0,0⟩).bind fun x8=>(Zaj x8.1 4 0 true).bind fun x9=>(Zcm x8.2.fBans x.fEnd.fAddr x.fNow).bind fun dk=>some (x9,(⟨0,endZ,0,dk,[]⟩ : Zai))):=by
 have hL:=hG.len;unfold ZxU ZtR;simp only[Pr.bind_assoc,Pr.bind_ret];have bm:∀(q:Zat),∃d,((Zaj (wt got q) 4 0 true).bind fun x9=>(Zcm valZ.fBans x.fEnd.fAddr x.fNow).bind fun dk=>some (x9,(⟨0,endZ,0,dk,[]⟩ : Zai)))=some (wt got q,d)/\anyW d:=fun q=>by
  rw[ZaO,Zaw,(Zpf valZ.fBans x.fEnd.fAddr x.fNow (by simp[valZ,maxLen]) (by simp[valZ]) hx.2.1.1).2];exact⟨_,rfl,trivial⟩
 refine Wlk.seqU (ZiY (by omega) ha _ _ _) (fun _ o _ g _=>?_) (fun q=>?_);rotate_left
 .rw[ZdB,Zaw];exact bm q
 refine Wlk.seqP (Zmi (by omega) g _) (fun v v' r _ i e=>?_) (fun q b hb=>?_);rotate_left
 .rw[hb];exact bm q
 obtain⟨rfl,e⟩:=e;have ib:=hG.val v e;have j:=(Zpf v.fBans x.fEnd.fAddr x.fNow (by unfold maxLen;omega) ib.1.2.2.1.2 hx.2.1.1).2;simp only[j,Zaw];exact ZmT hG i _ _ _ _
omit hx in
theorem ZIj(c:Zaq)(v:Zai):Wlk got a eqP anyW ((Zla c.fShards true).bind fun _=>(keyP 3 1 false).bind fun _=>(keyP 3 0 false).bind fun _=>.ret v) ((Zem c (wk got a)).bind fun y=>some (y,v)):=by
 have hL:=hG.len;unfold Zem;simp only[Option.bind_assoc,Zaw];refine Wlk.seqU (ZrW (by omega) ha _ _) (fun _ g i d _=>?_) (fun q=>?_)
 .refine Wlk.seqU (ZiY (by omega) d _ _ _) (fun _ j o e _=>?_) (fun q=>?_)
  .exact ZmT hG e _ _ _ _
  .simp only[ZaO,Zaw];exact⟨_,rfl,trivial⟩
 .simp only[ZaO,Zaw];exact⟨_,rfl,trivial⟩
omit hx ha in
theorem Zvj(c:Zaq)(q:Zat):Zem c (wt got q)=some (wt got q):=by
 have hL:=hG.len;unfold Zem;simp only[Zki got (by omega),ZaO,Zaw]
end
section
variable {c:Zaq} {x:Zao} (hx:x.ok) (bH:0<=c.fShards) (hs:c.fShards<=1000) {got:List Zae} (hG:Gl got) {a:Nat} (ha:a<=got.length)
include bH hs hG ha
theorem ZOh:Wlk got a eqP anyW (ZMJ c) (Zip c (wk got a)):=by
 have hL:=hG.len;have d6:got.length<=1000000:=by omega
 have wA:=fun q=>ZuL (got:=got) bH hs q;have dj:∀(q:Zat)(ls:List (List Zaa))(nb nv:Int),fewL ls->∃d,((ZaP (wt got q) c.fShards true).bind fun x7=>(Zaj x7 3 1 false).bind fun x8=>(Zaj x8 4 0 false).bind fun dk=>
   (ZcP ls).bind fun fP=>(Zdy fP).bind fun ge=>some (dk,(⟨0,endZ,nb,nv,ge⟩ : Zai)))=some (wt got q,d)/\anyW d:=fun q ls nb nv h=>by
  simp only[Zki got d6,ZaO,Zaw,ZpF ls h.1 h.2,ZpV _ h.2];exact⟨_,rfl,trivial⟩
 have bm:∀(q:Zat)(ls:List (List Zaa))(nb nv:Int),fewL ls->∃d,((Zaj (wt got q) 3 1 false).bind fun x8=>(Zaj x8 4 0 false).bind fun dk=>
   (ZcP ls).bind fun fP=>(Zdy fP).bind fun ge=>some (dk,(⟨0,endZ,nb,nv,ge⟩ : Zai)))=some (wt got q,d)/\anyW d:=fun q ls nb nv h=>by
  simp only[ZaO,Zaw,ZpF ls h.1 h.2,ZpV _ h.2];exact⟨_,rfl,trivial⟩
 unfold ZMJ ZtR Zip;simp only[Pr.bind_assoc,Pr.bind_ret];refine Wlk.seqU (ZiY (by omega) ha _ _ _) (fun _ B _ g _=>?_) (fun q=>?_);rotate_left
 .obtain⟨ls,cw,cZ⟩:=wA q;simp only[ZaO,Zjh got d6,ZdB,Zaw,cw];exact dj q ls _ _ cZ
 refine Wlk.seqU (ZiY (by omega) g _ _ _) (fun _ C _ i _=>?_) (fun q=>?_);rotate_left
 .obtain⟨ls,cw,cZ⟩:=wA q;simp only[Zjh got d6,ZdB,Zaw,cw];exact dj q ls _ _ cZ
 refine Wlk.seqU (ZrV (by omega) i _) (fun _ D _ j _=>?_) (fun q=>?_);rotate_left
 .obtain⟨ls,cw,cZ⟩:=wA q;simp only[ZdB,Zaw,cw];exact dj q ls _ _ cZ
 refine Wlk.seqP (Zmi (by omega) j _) (fun b b' E _ o hb=>?_) (fun q b _=>?_);rotate_left
 .obtain⟨ls,cw,cZ⟩:=wA q;simp only[ZdB,Zaw,cw];exact dj q ls _ _ cZ
 obtain⟨rfl,hb⟩:=hb;refine Wlk.seqP (Zmi (by omega) o _) (fun v v' F _ r e=>?_) (fun q v _=>?_);rotate_left
 .obtain⟨ls,cw,cZ⟩:=wA q;simp only[Zaw,cw];exact dj q ls _ _ cZ
 obtain⟨rfl,e⟩:=e;refine Wlk.seqP (ZLm bH hs hG r) (fun w ls G _ t u=>?_) (fun q ls cZ=>dj q ls _ _ cZ);obtain⟨rfl,gl,fI,jy⟩:=u;have cZ:fewL w:=⟨gl,by omega⟩;refine Wlk.seqU (ZrW (by omega) t _ _) (fun _ H _ y _=>?_) (fun q=>bm q w _ _ cZ);refine Wlk.seqU (ZiY (by omega) y _ _ _) (fun _ I _ A _=>?_) (fun q=>?_)
 .have:=ZmT hG A (4:Int) 0 false (⟨0,endZ,((b.fBans.length:Nat):Int),((v.fBook.length:Nat):Int),ZqI w.flatten⟩ : Zai);rw[ZpF w cZ.1 cZ.2];simp only[Zaw,ZpV _ cZ.2];exact this
 .simp only[ZaO,Zaw,ZpF w cZ.1 cZ.2,ZpV _ cZ.2];exact⟨_,rfl,trivial⟩
end
section
variable {c:Zaq} {x:Zao} (hx:x.ok) {got:List Zae} (hG:Gl got) (all:List (List Zaa)) (bq:all.length<=1000) (ar : ∀ p ∈ all.flatten,p.fEnd.fAddr.ok) (jz:all.flatten.length<=800)
include hx hG bq ar jz
omit hG in
theorem ZPK(i:Nat)(hlt:i<all.length):Zdf (all.getD i []) x.fNet false=some (ofP (all.getD i []) x.fNet false)/\(all.getD i []).length<=800:=by
 have _u:=bq;have dF:all.getD i []∈all:=ZbU all [] i hlt;have cG:∀p∈all.getD i [],p∈all.flatten:=fun p d=>List.mem_flatten.2 ⟨_,dF,d⟩;have hle:(all.getD i []).length<=all.flatten.length:=(List.sublist_flatten_of_mem dF).length_le;exact⟨Zrh _ _ _ hx.2.2.1.1 (by omega) fun p d=>ar p (cG p d),by omega⟩
theorem Zst(q:Zat)(b6:Zad)(b7:Zai):∀(k i fu:Nat),all.length-i=k->i<=all.length->k+1<=fu->∃d,Zcd fu (i:Int) all c x (wt got q) b6 b7=some (wt got q,d):=by
 have fy:(ofP all.flatten x.fNet true).length<=400000:=by have:=ZtI all.flatten x.fNet true;omega
 intro k;induction k with
 |zero=>
  intro i fu e g j;obtain⟨fu,rfl⟩:=sC fu;unfold Zcd;rw[Zag,iNa,ZpF all bq (by omega),Zaw,Zrh _ _ _ hx.2.2.1.1 (by omega) ar,Zaw,Zsd q _ fy,Zaw,Zvj hG,Zaw];exact⟨_,rfl⟩
 |succ k ih=>
  intro i fu e g j;obtain⟨fu,rfl⟩:=sC fu;obtain⟨p1,p2⟩:=ZPK hx all bq ar jz i (by omega);have p3:=ZtI (all.getD i []) x.fNet false;have o:Zau (i:Int) 1=((i+1:Nat):Int):=add1 (n:=i+1) (by omega) (by simp only[maxLen];omega);unfold Zcd;rw[Zag,iNb,Zap ⟨by omega,by omega⟩];simp only[Int.toNat_natCast,p1,Zaw,o,Zql got q (i:Int) (all.getD i []) (ofP (all.getD i []) x.fNet false) (by omega)];cases decide (((ofP (all.getD i []) x.fNet false).length:Int)<((all.getD i []).length:Int))<;>exact ih (i+1) fu (by omega) (by omega) (by omega)
theorem ZIl(b6:Zad)(b7:Zai):∀(k i fu a:Nat),all.length-i=k->i<=all.length->k+1<=fu->a<=got.length ->
  Wlk got a eqP anyW ((ZGD x.fNet i (all.drop i)).bind fun _=>(ZHT (ofP all.flatten x.fNet true)).bind fun _=>(Zla c.fShards true).bind fun _=>(keyP 3 1 false).bind fun _=>(keyP 3 0 false).bind fun _=>.ret (⟨0,endZ,((ofP all.flatten x.fNet true).length:Int),0,[]⟩ : Zai))
   (Zcd fu (i:Int) all c x (wk got a) b6 b7):=by
 have hL:=hG.len;have fy:(ofP all.flatten x.fNet true).length<=400000:=by have:=ZtI all.flatten x.fNet true;omega
 intro k;induction k with
 |zero=>
  intro i fu a j o r ha;obtain⟨fu,rfl⟩:=sC fu;unfold Zcd;rw[Zag,iNa,ZpF all bq (by omega),Zaw,Zrh _ _ _ hx.2.2.1.1 (by omega) ar,Zaw,List.drop_eq_nil_of_le (by omega)];simp only[ZGD,Pr.bind_ret];refine Wlk.seqU (ZJk hG.gd ha _ fy) (fun _ g _ e _=>?_) (fun q=>?_)
  .exact ZIj hG e c _
  .rw[Zvj hG,Zaw];exact⟨_,rfl,trivial⟩
 |succ k ih=>
  intro i fu a j o r ha;obtain⟨fu,rfl⟩:=sC fu;obtain⟨p1,p2⟩:=ZPK hx all bq ar jz i (by omega);have p3:=ZtI (all.getD i []) x.fNet false;have p4:=ZMx (all.getD i []) x.fNet;have t:Zau (i:Int) 1=((i+1:Nat):Int):=add1 (n:=i+1) (by omega) (by simp only[maxLen];omega);unfold Zcd;rw[Zag,iNb,Zap ⟨by omega,by omega⟩,Zez all [] i (by omega)];simp only[Int.toNat_natCast,p1,Zaw,t,ZGD,Pr.bind_assoc];rw[Zag];by_cases h0:0<(ofP (all.getD i []) x.fNet true).length
  .rw[if_pos h0,iNb];refine Wlk.seqU (ZoZ (by omega) ha _ _ _ (by omega)) (fun _ g _ e _=>?_) (fun q=>?_)
   .exact ih (i+1) fu g (by omega) (by omega) (by omega) e
   .obtain⟨d,u⟩:=Zst hx hG all bq ar jz q b6 b7 k (i+1) fu (by omega) (by omega) (by omega);exact⟨d,u,trivial⟩
  .rw[if_neg h0,iNa,Pr.bind_ret];exact ih (i+1) fu a (by omega) (by omega) (by omega) ha
end
section
variable {c:Zaq} {x:Zao} (hx:x.ok) (bH:0<=c.fShards) (hs:c.fShards<=1000) {got:List Zae} (hG:Gl got) {a:Nat} (ha:a<=got.length)
include hx bH hs hG ha
theorem ZPL:Wlk got a eqP anyW (banP c x) (ZiJ c x (wk got a)):=by
 have hL:=hG.len;have d6:got.length<=1000000:=by omega
 have k9:(⟨x.fNet,x.fNum⟩ : Zac).ok:=⟨hx.2.2.1,hx.2.2.2.2.1,trivial⟩;unfold banP ZiJ;rw[Zag];by_cases e:x.fNum<=x.fNow
 .rw[if_pos e,if_pos e];exact ZmT hG ha _ _ _ _
 rw[if_neg e,if_neg e];unfold ZPz ZtR;simp only[Pr.bind_assoc,Pr.bind_ret];refine Wlk.seqU (ZiY (by omega) ha _ _ _) (fun _ E _ o _=>?_) (fun q=>?_);rotate_left
 .simp only[ZaO,Zjh got d6,ZdB,Zaw,Zeg,cond_true];exact⟨_,rfl,trivial⟩
 refine Wlk.seqU (ZiY (by omega) o _ _ _) (fun _ F _ r _=>?_) (fun q=>?_);rotate_left
 .simp only[Zjh got d6,ZdB,Zaw,Zeg,cond_true];exact⟨_,rfl,trivial⟩
 refine Wlk.seqU (ZrV (by omega) r _) (fun _ G _ t _=>?_) (fun q=>?_);rotate_left
 .simp only[ZdB,Zaw,Zeg,cond_true];exact⟨_,rfl,trivial⟩
 refine Wlk.seqP (Zmi (by omega) t _) (fun v v' H _ j g=>?_) (fun q b _=>?_);rotate_left
 .simp only[Zeg,cond_true];exact⟨_,rfl,trivial⟩
 obtain⟨rfl,g⟩:=g;have ib:=hG.val v g;have kP:=Ztc v.fBans ⟨x.fNet,x.fNum⟩ c.fMaxBans;simp only[ZgG,cond_false];rw[ZwL _ _ _ (by omega) k9,Zaw];generalize addB v.fBans ⟨x.fNet,x.fNum⟩ c.fMaxBans=ad at kP ⊢;by_cases h0:ad.2=0;rotate_left
 .have i:(ad.2 != 0)=true:=by rw[bne_iff_ne];exact h0
  rw[if_neg h0,i,cond_true,Pr.bind_ret];exact ZIj hG j c _
 have i:(ad.2 != 0)=false:=by rw[h0];rfl
 rw[if_pos h0,i,cond_false];simp only[Pr.bind_assoc,Pr.bind_ret];refine Wlk.seqP (ZLm bH hs hG j) (fun w ls I _ u y=>?_) (fun q ls _=>?_);rotate_left
 .simp only[Zeg,cond_true];exact⟨_,rfl,trivial⟩
 obtain⟨rfl,gl,fI,jy⟩:=y;have ar:∀p∈w.flatten,p.fEnd.fAddr.ok:=fun p A=>(jy p A).1.1;simp only[ZgG,cond_false];refine Wlk.seqU (Zmh (by omega) u _ _ _ ⟨by show ad.1.length<=_;omega,Nat.zero_le _⟩) (fun _ B _ C _=>?_) (fun q=>?_)
 .exact ZIl hx hG w gl ar fI _ _ w.length 0 _ B (by omega) (by omega) (by omega) C
 .obtain⟨d,D⟩:=Zst hx hG w gl ar fI q _ _ w.length 0 ((((w.length:Nat):Int)-(0:Int)).toNat+2) (by omega) (by omega) (by omega);exact⟨d,D,trivial⟩
end
section
variable {c:Zaq} {x:Zao} (hx:x.ok) (bH:0<=c.fShards) (hs:c.fShards<=1000) {got:List Zae} (hG:Gl got)
include hx bH hs hG
theorem ZNu:Wlk got 0 eqP anyW (ZGQ c x) (Zds c x got):=by
 have a6:Wlk got 0 eqP anyW ZmQ ((Zaj (wk got 0) (8:Int) (0:Int) true).bind fun x2=>some (x2,ZdE 1)):=ZmT hG (Nat.zero_le _) _ _ _ _;have cj:∀r:Option (Zad×Zai),(r.bind fun y=>some (y.1,y.2))=r:=fun r=>by cases r<;>rfl
 unfold ZGQ Zds;rw[Zow x hx,Zaw];cases Zlu x with
 |false=>
  rw[Bool.not_false,cond_true,if_neg (by decide)];exact a6
 |true=>
  rw[Bool.not_true,cond_false,if_pos rfl,Zag,Zag,Zdn,Zdn,Zdn,Zdn];by_cases hlo:x.fKind<6
  .rw[if_pos hlo,iNa,iNa,iNa,iNa,iNa];exact a6
  rw[if_neg hlo];by_cases hhi:x.fKind>10
  .rw[if_pos hhi,iNa,iNa,iNa,iNa,iNa];exact a6
  rw[if_neg hhi];by_cases d:x.fKind=6
  .rw[if_pos d,if_pos d,cj];exact ZPL hx bH hs hG (Nat.zero_le _)
  rw[if_neg d,if_neg d];by_cases e:x.fKind=7
  .rw[if_pos e,if_pos e,cj];exact ZLv hx hG (Nat.zero_le _)
  rw[if_neg e,if_neg e];by_cases g:x.fKind=8
  .rw[if_pos g,if_pos g];exact ZIk hx hG (Nat.zero_le _)
  rw[if_neg g,if_neg g];by_cases i:x.fKind=9
  .rw[if_pos i,if_pos i,cj];exact ZOg hx hG (Nat.zero_le _)
  rw[if_neg i,if_neg i,if_pos (show x.fKind=10 by omega),cj];exact ZOh bH hs hG (Nat.zero_le _)
end
def outP(p:Zaa):Bool:=!p.fIn
def outE(e:Zab):Bool:=e.fState==2
def gsP(l:List Zaa):List Zav:=(l.filter outP).map fun p=>grp p.fEnd.fAddr
def gsE(l:List Zab):List Zav:=(l.filter outE).map fun e=>grp e.fEnd.fAddr
theorem ZMV(l:List Zab)(i:Nat)(h:i<l.length):gsE (l.drop i)=(if outE (l.getD i Zab.d)then[grp (l.getD i Zab.d).fEnd.fAddr]else[])++gsE (l.drop (i+1)):=by
 rw[Zez l Zab.d i h];unfold gsE;generalize l.getD i Zab.d=e;cases g:outE e<;>simp[g]
theorem ZMU(l:List Zaa)(i:Nat)(h:i<l.length):gsP (l.drop i)=(if outP (l.getD i Zaa.d)then[grp (l.getD i Zaa.d).fEnd.fAddr]else[])++gsP (l.drop (i+1)):=by
 rw[Zez l Zaa.d i h];unfold gsP;generalize l.getD i Zaa.d=e;cases g:outP e<;>simp[g]
def bitA(a:Zaf)(j:Nat):Int:=if a.fV6 then a.fHi / 2 ^ (63-j) % 2 else a.fLo / 2 ^ (31-j) % 2
theorem ZOa(n k:Nat)(o:k<64)(d:n<2 ^ 64):IntKind.i64.wrap (IntKind.u64.wrap (((BitVec.ofInt (IntKind.bits .u64) (Int.fdiv (n:Int) (2 ^ (min (IntKind.u64.wrap (k:Int)).toNat (IntKind.bits .u64))))) &&& (BitVec.ofInt (IntKind.bits .u64) (1:Int))).toNat:Int))=(n:Int) / 2 ^ k % 2:=by
 have g:(IntKind.u64.wrap (k:Int)).toNat=k:=by rw[ZgS (by omega) (by omega)];rfl
 rw[g,show min k (IntKind.bits .u64)=k from Nat.min_eq_left (by simp[IntKind.bits];omega)];have e:Int.fdiv (n:Int) (2 ^ k)=((n / 2 ^ k:Nat):Int):=by
  rw[Int.fdiv_eq_ediv_of_nonneg _ (by have:(0:Int)<2 ^ k:=Int.pow_pos (by omega);omega)];simp
 have i:n / 2 ^ k<2 ^ 64:=Nat.lt_of_le_of_lt (Nat.div_le_self _ _) d;rw[e,show (1:Int)=((1:Nat):Int)from rfl,ZxX _ 1 i (by omega),Nat.and_one_is_mod];have r:n / 2 ^ k % 2<2:=Nat.mod_lt _ (by omega);have j:IntKind.i64.wrap ((n / 2 ^ k % 2:Nat):Int)=((n / 2 ^ k % 2:Nat):Int):=by
  simp only[IntKind.wrap,IntKind.bits,IntKind.signed];simp;omega
 rw[j];simp
theorem ZNZ(a:Zaf)(h:a.ok)(j:Nat)(d:j<if a.fV6 then 32 else 16):Zbq a (j:Int)=some (bitA a j):=by
 obtain⟨v,t,lo⟩:=a;obtain⟨_,g,i,_⟩:=h;have g:=Zjy g;have i:=Zjy i;simp only at g i;obtain⟨n,o⟩:=ZjE g.1;obtain⟨m,r⟩:=ZjE i.1;subst o r;cases v with
 |false=>
  have d:j<16:=by simpa using d
  have e:Zbl (31:Int) (j:Int)=((31-j:Nat):Int):=by rw[ZcC (by omega) (by omega)];omega
  simp only[Zbq,ZbE,ZcM,Zag,Option.bind_some,cond_false,Bool.not_false,cond_true,e];rw[iNa,iNa,Zap (by rw[ZgS (by omega) (by omega)];omega),ZOa m (31-j) (by omega) (by omega)];simp[bitA]
 |true=>
  have d:j<32:=by simpa using d
  have et:Int.tmod (j:Int) 64=(j:Int):=by rw[Int.tmod_eq_emod_of_nonneg (by omega)];omega
  have e:Zbl (63:Int) (j:Int)=((63-j:Nat):Int):=by rw[ZcC (by omega) (by omega)];omega
  simp only[Zbq,ZbE,ZcM,Zag,Option.bind_some,cond_false,Bool.not_true,cond_true,et,e];rw[iNa,iNa,iNb,Zap (by rw[ZgS (by omega) (by omega)];omega),ZOa n (63-j) (by omega) (by omega)];simp[bitA]
theorem ZBi(n m t b:Nat)(hb:b<=t)(d:n<2 ^ t)(g:m<2 ^ t):(∀j,j<b->n / 2 ^ (t-1-j) % 2=m / 2 ^ (t-1-j) % 2)↔n / 2 ^ (t-b)=m / 2 ^ (t-b):=by
 constructor
 .intro h;apply Nat.eq_of_testBit_eq;intro i;rw[Nat.testBit_div_two_pow,Nat.testBit_div_two_pow];by_cases o:i<b
  .have:=h (b-1-i) (by omega);rw[show t-1-(b-1-i)=i+(t-b)by omega]at this;rw[Nat.testBit_eq_decide_div_mod_eq,Nat.testBit_eq_decide_div_mod_eq,this]
  .rw[Nat.testBit_lt_two_pow (Nat.lt_of_lt_of_le d (Nat.pow_le_pow_right (by omega) (by omega))),Nat.testBit_lt_two_pow (Nat.lt_of_lt_of_le g (Nat.pow_le_pow_right (by omega) (by omega)))]
 .intro h j r;have e:2 ^ (t-1-j)=2 ^ (t-b) * 2 ^ (b-1-j):=by rw[<-Nat.pow_add];congr 1;omega
  rw[e,<-Nat.div_div_eq_div_mul,<-Nat.div_div_eq_div_mul,h]
theorem ZIH(a b:Zaf)(ha:a.ok)(hb:b.ok)(y:a.fV6=b.fV6):∀fu (i:Nat),i<=32->32-i<fu ->
  ∃r,Zcj fu (i:Int) a b=some r/\(r=true↔∀j,i<=j->j<(if a.fV6 then 32 else 16)->bitA a j=bitA b j):=by
 intro fu;induction fu with
 |zero=>intro _ _ h;omega
 |succ fu ih=>
  intro i D E;simp only[Zcj,Zag];by_cases h:i<32
  .rw[iNb];have ia:Zau (i:Int) 1=((i+1:Nat):Int):=add1 (n:=32) h (by unfold maxLen;omega);rw[ia];obtain⟨r,v,u⟩:=ih (i+1) (by omega) (by omega);by_cases d:i<(if a.fV6 then 32 else 16)
   .have A:=ZNZ a ha i d;have B:=ZNZ b hb i (by rw[<-y];exact d);have step:∃r,((Zbq a (i:Int)).bind fun x3=>(Zbq b (i:Int)).bind fun x4=>bif(x3 != x4)then some false else Zcj fu ((i+1:Nat):Int) a b)=some r/\(r=true↔∀j,i<=j->j<(if a.fV6 then 32 else 16)->bitA a j=bitA b j):=by
     rw[A,B];simp only[Option.bind_some];by_cases o:bitA a i=bitA b i
     .rw[show (bitA a i != bitA b i)=false by simp[o],cond_false];refine⟨r,v,u.trans ⟨fun q j t e=>?_,fun q j t e=>q j (by omega) e⟩⟩;by_cases C:j=i
      .subst C;exact o
      .exact q j (by omega) e
     .rw[show (bitA a i != bitA b i)=true by simp[o],cond_true];exact⟨false,rfl,by simp;exact⟨i,Nat.le_refl _,d,o⟩⟩
    cases g:a.fV6
    .rw[g]at d;have d:i<16:=by simpa using d
     simp only[cond_false];rw[iNb];rw[g]at step;exact step
    .simp only[cond_true];rw[g]at step;exact step
   .cases g:a.fV6
    .rw[g]at d u;have d:16<=i:=by simpa using d
     simp only[cond_false];rw[iNa];refine⟨r,v,u.trans ⟨fun q j t e=>?_,fun q j t e=>q j (by omega) e⟩⟩;have:j<16:=by simpa using e
     omega
    .rw[g]at d;exact absurd h (by simpa using d)
  .rw[iNa];refine⟨true,rfl,by simp;intro j t e;split at e<;>omega⟩
theorem ZFn(a b:Zaf)(ha:a.ok)(hb:b.ok)(d:Zdo b=true):Zgy a b=some (decide (grp a=grp b)):=by
 have hs:=ZIH a b ha hb;simp only[Zgy,ZjC a ha,ZjC b hb,d,Option.bind_some,Bool.not_true,cond_false];cases hra:Zdo a with
 |false=>
  simp only[Bool.not_false,cond_true,Option.some.injEq];rw[eq_comm,decide_eq_false_iff_not];unfold grp;rw[hra,d];intro e;have:=congrArg Zav.fBits e;simp only[Bool.false_eq_true,if_false,if_true]at this;split at this<;>simp at this
 |true=>
  simp only[Bool.not_true,cond_false];by_cases g:a.fV6=b.fV6
  .rw[show (!(a.fV6==b.fV6))=false by simp[g],cond_false];obtain⟨r,i,o⟩:=hs g (((32:Int)-(0:Int)).toNat+2) 0 (by omega) (by omega);have i:Zcj (((32:Int)-(0:Int)).toNat+2) 0 a b=some r:=i;rw[i,Option.some.injEq,Bool.eq_iff_iff,o,decide_eq_true_eq];obtain⟨v,A,lo⟩:=a;obtain⟨v',co,jA⟩:=b;simp only at g;subst g;have ia:=Zjy ha.2.1;have ha2:=Zjy ha.2.2.1;have bo:=Zjy hb.2.1;have bk:=Zjy hb.2.2.1;simp only at ia ha2 bo bk;obtain⟨n,u⟩:=ZjE ia.1;obtain⟨m,y⟩:=ZjE ha2.1;obtain⟨n',ej⟩:=ZjE bo.1;obtain⟨m',c9⟩:=ZjE bk.1;subst u y ej c9;cases v with
   |false=>
    have B:(n:Int)=0/\(m:Int)<4294967296:=by simpa[Zdo]using hra
    have C:(n':Int)=0/\(m':Int)<4294967296:=by simpa[Zdo]using d
    have hb:=ZBi m m' 32 16 (by omega) (by omega) (by omega);simp only[grp,hra,d,if_true,Bool.false_eq_true,if_false,Zav.mk.injEq,Zaf.mk.injEq,true_and,and_true];have e:(∀j,0<=j->j<16->bitA ⟨false,n,m⟩ j=bitA ⟨false,n',m'⟩ j)↔∀j,j<16->m / 2 ^ (32-1-j) % 2=m' / 2 ^ (32-1-j) % 2:=by
     constructor
     .intro q j h;have:=q j (by omega) h;simp only[bitA,Bool.false_eq_true,if_false]at this;rw[show 32-1-j=31-j by omega]
      exact_mod_cast this
     .intro q j _ h;have:=q j h;rw[show 32-1-j=31-j by omega]at this;simp only[bitA,Bool.false_eq_true,if_false]
      exact_mod_cast this
    rw[e,hb];rw[show (2:Nat) ^ (32-16)=65536 from rfl];constructor<;>intro q<;>omega
   |true=>
    have hb:=ZBi n n' 64 32 (by omega) (by omega) (by omega);simp only[grp,hra,d,if_true,Bool.false_eq_true,if_false,Zav.mk.injEq,Zaf.mk.injEq,true_and,and_true];have e:(∀j,0<=j->j<32->bitA ⟨true,n,m⟩ j=bitA ⟨true,n',m'⟩ j)↔∀j,j<32->n / 2 ^ (64-1-j) % 2=n' / 2 ^ (64-1-j) % 2:=by
     constructor
     .intro q j h;have:=q j (by omega) h;simp only[bitA,if_true]at this;rw[show 64-1-j=63-j by omega]
      exact_mod_cast this
     .intro q j _ h;have:=q j h;rw[show 64-1-j=63-j by omega]at this;simp only[bitA,if_true]
      exact_mod_cast this
    rw[e,hb];rw[show (2:Nat) ^ (64-32)=4294967296 from rfl];constructor<;>intro q<;>omega
  .rw[show (!(a.fV6==b.fV6))=true by simp[g],cond_true,Option.some.injEq,eq_comm,decide_eq_false_iff_not];unfold grp;rw[hra,d];intro e;have t:=congrArg (fun x:Zav=>x.fAddr.fV6) e;simp only[if_true]at t;apply g;cases i:a.fV6<;>cases o:b.fV6<;>simp[i,o]at t ⊢
theorem ZLY(ps:List Zaa)(es:List Zab)(jB:es.length<=1000)(ar:∀e∈es,e.ok)(a:Zaf)(ha:a.ok)(r:Zdo a=true)(v7:Int)(k:Int->Zaf->Option Bool):∀fu (i:Nat),i<=es.length->es.length-i<fu ->
  Zee ps es v7 a k fu (i:Int)=some (!decide (grp a∈gsE (es.drop i))):=by
 have t:es.length<=maxLen:=by unfold maxLen;omega
 intro fu;induction fu with
 |zero=>intro _ _ h;omega
 |succ fu ih=>
  intro i u v;simp only[Zee,Zag];by_cases h:i<es.length
  .rw[iNb,Zap ⟨by omega,by omega⟩,ZMV es i h];simp only[Int.toNat_natCast];have eQ:=ar _ (ZbU es Zab.d i h);rw[add1 h t,ih (i+1) (by omega) (by omega)];cases o:outE (es.getD i Zab.d)
   .have dt:((es.getD i Zab.d).fState==(2:Int))=false:=o;rw[dt,cond_false];simp
   .have dt:((es.getD i Zab.d).fState==(2:Int))=true:=o;rw[dt,cond_true,ZFn _ _ eQ.1.1 ha r];simp only[Option.bind_some,Zag,if_true,List.mem_append,List.mem_singleton];generalize grp (es.getD i Zab.d).fEnd.fAddr=g;by_cases j:g=grp a
    .rw[if_pos j];simp[j]
    .rw[if_neg j];simp[Ne.symm j]
  .have e:i=es.length:=by omega
   rw[iNa,e,List.drop_length];simp[gsE]
theorem ZIQ(ps:List Zaa)(es:List Zab)(bL:ps.length<=1000)(jB:es.length<=1000)(g7:∀p∈ps,p.ok)(ar:∀e∈es,e.ok)(a:Zaf)(ha:a.ok)(o:Zdo a=true):∀fu (i:Nat),i<=ps.length->ps.length-i<fu ->
  Zcz ps es fu (i:Int) a=some (!decide (grp a∈gsP (ps.drop i)++gsE es)):=by
 have t:ps.length<=maxLen:=by unfold maxLen;omega
 intro fu;induction fu with
 |zero=>intro _ _ h;omega
 |succ fu ih=>
  intro i u v;simp only[Zcz,Zag];by_cases h:i<ps.length
  .rw[iNb,Zap ⟨by omega,by omega⟩,ZMU ps i h];simp only[Int.toNat_natCast];have eQ:=g7 _ (ZbU ps Zaa.d i h);rw[add1 h t,ih (i+1) (by omega) (by omega)];cases r:outP (ps.getD i Zaa.d)
   .have dt:(!(ps.getD i Zaa.d).fIn)=false:=r;rw[dt,cond_false];simp
   .have dt:(!(ps.getD i Zaa.d).fIn)=true:=r;rw[dt,cond_true,ZFn _ _ eQ.1.1 ha o];simp only[Option.bind_some,Zag,if_true,List.mem_append,List.mem_singleton];generalize grp (ps.getD i Zaa.d).fEnd.fAddr=g;by_cases j:g=grp a
    .rw[if_pos j];simp[j]
    .rw[if_neg j];simp[Ne.symm j]
  .have e:i=ps.length:=by omega
   rw[iNa,e,List.drop_length];have:=ZLY ps es jB ar a ha o (ps.length:Int) (Zcz ps es fu) ((((es.length:Nat):Int)-(0:Int)).toNat+2) 0 (by omega) (by omega);simp only[Int.natCast_zero,List.drop_zero]at this;rw[this];simp[gsP]
theorem ZMj(ps:List Zaa)(es:List Zab)(a:Zaf)(bL:ps.length<=1000)(jB:es.length<=1000)(g7:∀p∈ps,p.ok)(ar:∀e∈es,e.ok)(ha:a.ok) :
  Ziu ps es a=some (Zdo a && !decide (grp a∈gsP ps++gsE es)):=by
 simp only[Ziu,ZjC a ha,Option.bind_some];cases d:Zdo a
 .rfl
 .have:=ZIQ ps es bL jB g7 ar a ha d ((((ps.length:Nat):Int)-(0:Int)).toNat+2) 0 (by omega) (by omega);simp only[Int.natCast_zero,List.drop_zero]at this;simp only[Bool.not_true,cond_false,Bool.true_and];exact this
structure ZCw (v:ZfU):Prop where
 book:v.fBook.length<=900
 peers:v.fPeers.length<=900
 bans:v.fBans.length<=900
 bookOk:∀e∈v.fBook,e.ok
 peersOk:∀p∈v.fPeers,p.ok
 bansOk:∀b∈v.fBans,b.ok
def dueS(e:Zab)(ae:Int):Bool:=(e.fState==1)&&decide (e.fNext<=ae)
theorem ZOL(e:Zab)(ae:Int):ZiR e ae=some (dueS e ae):=by
 simp only[ZiR,dueS];cases(e.fState==(1:Int))<;>rfl
def dblN:Nat->Int->Int|0,x=>x|k+1,x=>dblN k (fitI (2*x))
theorem ZBW:∀k,dblN k 0=0
 | 0=>rfl
 |k+1=>by show dblN k (fitI (2 * 0))=0;exact ZBW k
theorem ZGi:∀k,dblN k 1099511627776=1099511627776
 | 0=>rfl
 |k+1=>by show dblN k (fitI (2 * 1099511627776))=_;exact ZGi k
theorem ZPk{x:Int}(h0:0<=x)(d:x<=1099511627776):fitI x=x:=by
 unfold fitI;rw[iNa,iNa]
theorem ZwB:∀(j:Nat)(x:Int)(n fu:Nat),n<=1000000->0<=x->x<=1099511627776->(x=0\/1099511627776<=x * 2 ^ j)->(1099511627776-x).toNat+1<=fu->ZjG fu x (n:Int)=some (dblN (min n j) x):=by
 intro j;induction j with
 |zero=>
  intro x n fu _ h0 e h2 g;obtain⟨fu,rfl⟩ : ∃y,fu=y+1:=⟨fu-1,by omega⟩;unfold ZjG;simp only[Zag];rw[Nat.min_zero];have dP:x=0\/1099511627776<=x:=by simpa using h2
  split
  .split
   .rw[iNa];rfl
   .rfl
  .rfl
 |succ j ih=>
  intro x n fu o h0 e h2 g;obtain⟨fu,rfl⟩ : ∃y,fu=y+1:=⟨fu-1,by omega⟩;unfold ZjG;simp only[Zag];cases n with
  |zero=>rw[iNa,Nat.zero_min];rfl
  |succ n=>
   rw[iNb];have di:min (n+1) (j+1)=min n j+1:=by omega
   rw[di];by_cases hx:x>0
   .rw[if_pos hx];by_cases d:x<1099511627776
    .rw[if_pos d,ZsQ (by omega) (by omega),Zlh,Zaw,Zwt (by omega)];have hle:=ZiH (2*x);have hge:x+1<=fitI (2*x):=by
      unfold fitI;repeat' split
      all_goals omega
     have dP:fitI (2*x)=0\/1099511627776<=fitI (2*x) * 2 ^ j:=by
      right;have jq:(1:Int)<=2 ^ j:=Int.pow_pos (by omega);rcases h2 with h2|h2
      .omega
      .have i:x * 2 ^ (j+1)=2*x * 2 ^ j:=by
        rw[Int.pow_succ,<-Int.mul_assoc,Int.mul_right_comm,Int.mul_comm x 2]
       rw[i]at h2;unfold fitI;rw[iNa];split
       .have:=Int.mul_le_mul_of_nonneg_left jq (show (0:Int)<=1099511627776 by omega);omega
       .exact h2
     exact ih (fitI (2*x)) n fu (by omega) hle.1 hle.2 dP (by omega)
    .have:x=1099511627776:=by omega
     rw[if_neg d,this,ZGi]
   .have:x=0:=by omega
    rw[if_neg hx,this,ZBW]
theorem ZwO(n:Nat):∀(k i:Nat)(x:Int)(fu:Nat),min n 41-i=k->i<=41->0<=x->x<=1099511627776->k+1<=fu->ZdR (n:Int) fu x (i:Int)=some (dblN k x):=by
 intro k;induction k with
 |zero=>
  intro i x fu e g h0 d j;obtain⟨fu,rfl⟩ : ∃y,fu=y+1:=⟨fu-1,by omega⟩;unfold ZdR;simp only[Zag];split
  .rw[iNa];rfl
  .rfl
 |succ k ih=>
  intro i x fu e g h0 d j;obtain⟨fu,rfl⟩ : ∃y,fu=y+1:=⟨fu-1,by omega⟩;unfold ZdR;simp only[Zag];have o:Zau (i:Int) 1=((i+1:Nat):Int):=add1 (n:=i+1) (by omega) (by simp only[maxLen];omega);have r:addT x x=fitI (2*x):=by
   unfold addT;rw[ZPk h0 d];congr 1;omega
  have hle:=ZiH (2*x);rw[iNb,iNb,(Ztl _ _).2,Zaw,o,r];exact ih (i+1) _ fu (by omega) (by omega) hle.1 hle.2 (by omega)
theorem ZEZ(a:Int)(n:Nat)(d:n<=1000000):ZqL a (n:Int)=some (dblN (min n 41) (fitI a))/\ZhO a (n:Int)=some (dblN (min n 41) (fitI a)):=by
 have h:=ZiH a;constructor
 .unfold ZqL;rw[Zlh,Zaw];exact ZwB 41 _ n _ d h.1 h.2 (by omega) (by omega)
 .unfold ZhO;rw[Zkl,Zaw];exact ZwO n _ 0 _ _ rfl (by omega) h.1 h.2 (by omega)
theorem ZNe(c:Zaq)(n:Nat)(d:n<=1000000):∃t,Zmc c (n:Int)=some t/\ZhJ c (n:Int)=some t:=by
 unfold Zmc ZhJ;simp only[Zag];cases n with
 |zero=>exact⟨0,rfl,rfl⟩
 |succ n=>
  rw[iNa,iNa,Zwt (by omega),Zlh,Zkl,(ZEZ _ n (by omega)).1,(ZEZ _ n (by omega)).2];simp only[Zaw];generalize dblN (min n 41) (fitI c.fBase)=a;generalize fitI c.fCap=b;refine⟨if a<b then a else b,rfl,?_⟩;split<;>split<;>first|rfl|omega | (congr 1;omega)
theorem ZJN(c:Zaq)(r:Int):∃t,Zlx c r=some t/\Zhg c r=some t:=by
 unfold Zlx Zhg;simp only[Zag];by_cases h:c.fJitter<1
 .rw[if_pos h];exact⟨_,rfl,rfl⟩
 .rw[if_neg h,Zap (by omega)];split<;>exact⟨_,rfl,rfl⟩
theorem ZOU(c:Zaq)(n:Nat)(d:n<=1000000)(ae r:Int):∃t,ZkZ c (n:Int) ae r=some t/\Zfq c (n:Int) ae r=some t:=by
 obtain⟨t,e,g⟩:=ZNe c n d;obtain⟨u,i,j⟩:=ZJN c r;unfold ZkZ Zfq;rw[e,g,i,j];simp only[Zaw,(Ztl _ _).1,(Ztl _ _).2];exact⟨_,rfl,rfl⟩
def ZuV(c:Zaq)(e:Zab)(ae r:Int):Zab:=(Zkf c e ae r).getD e
theorem ZKl(c:Zaq)(e:Zab)(ae r:Int):Zkf c e ae r=some (ZuV c e ae r)/\ZdA c e ae r=some (ZuV c e ae r):=by
 have au:∀n:Nat,n<=1000->Zau (if(999:Int)<(if(0:Int)>e.fFails then(0:Int)else e.fFails)then(999:Int)else(if(0:Int)>e.fFails then(0:Int)else e.fFails)) (1:Int)=(n:Int) ->
   ZdA c e ae r=((Zfq c (n:Int) ae r).bind fun x=>some (Zab.mk e.fEnd 1 (n:Int) x))->Zkf c e ae r=some (ZuV c e ae r)/\ZdA c e ae r=some (ZuV c e ae r):=by
  intro n i d o;obtain⟨t,u,v⟩:=ZOU c n (by omega) ae r;have j:Zkf c e ae r=some ⟨e.fEnd,1,(n:Int),t⟩:=by
   unfold Zkf;rw[d,u];rfl
  have y:ZuV c e ae r=⟨e.fEnd,1,(n:Int),t⟩:=by unfold ZuV;rw[j];rfl
  rw[y,j,o,v];exact⟨rfl,rfl⟩
 unfold ZdA Zfh at au ⊢;simp only[Zag]at au ⊢;by_cases h0:e.fFails>0
 .by_cases d:e.fFails<1000
  .obtain⟨n,i⟩ : ∃n:Nat,e.fFails=(n:Int):=⟨e.fFails.toNat,by omega⟩;have g:Zau e.fFails 1=((n+1:Nat):Int):=by rw[i];exact add1 (n:=n+1) (by omega) (by simp only[maxLen];omega)
   refine au (n+1) (by omega) ?_ ?_
   .rw[if_neg (show ¬(0:Int)>e.fFails by omega),iNa,g]
   .rw[if_pos h0,if_pos d,if_neg (show ¬e.fFails>=1000 by omega),g]
  .refine au 1000 (by omega) ?_ ?_
   .rw[if_neg (show ¬(0:Int)>e.fFails by omega),iNb];exact Zbs (by omega) (by omega)
   .rw[if_pos h0,if_neg d,if_pos (show e.fFails>=1000 by omega)];rfl
 .refine au 1 (by omega) ?_ ?_
  .have g:(if(0:Int)>e.fFails then(0:Int)else e.fFails)=0:=by split<;>omega
   rw[g,iNa];exact Zbs (by omega) (by omega)
  .rw[if_neg h0,if_neg (show ¬e.fFails>=1000 by omega)];rfl
theorem ZOJ{v:ZfU}(h:ZCw v)(e:Zab)(d:e.ok)(ae:Int):∃m,ZiN v.fBook v.fPeers v.fBans e ae=some m:=by
 obtain⟨s,u3,_⟩:=Zts v.fBans e.fEnd.fAddr ae (by have:=h.bans;unfold maxLen;omega) h.bansOk d.1.1;have hf2:=ZMj v.fPeers v.fBook e.fEnd.fAddr (by have:=h.peers;omega) (by have:=h.book;omega) h.peersOk h.bookOk d.1.1;have g:v.fPeers.length<=maxLen:=by have:=h.peers;unfold maxLen;omega
 unfold ZiN;rw[ZkT e d,Zaw,ZOL,Zaw,u3,Zaw,ZgU _ _ g,Zaw,hf2,Zaw];cases Zrc e
 .exact⟨_,rfl⟩
 .cases dueS e ae
  .exact⟨_,rfl⟩
  .simp only[cond_true];cases(s==(0:Int))
   .exact⟨_,rfl⟩
   .simp only[cond_true];cases decide (ZdU v.fPeers e.fEnd<0)<;>exact⟨_,rfl⟩
theorem ZGR{v:ZfU}(h:ZCw v)(ae:Int)(z:Zah):∀(fu i:Nat)(b:Int),i<=v.fBook.length->v.fBook.length-i<fu->b<(i:Int)->-1<=b ->
  ∃e ok,ZbO v.fBook v.fPeers v.fBans ae fu b (i:Int) z=some (e,ok)/\(ok=true->∃x∈v.fBook,x.fEnd=e):=by
 have j:v.fBook.length<=maxLen:=by have:=h.book;unfold maxLen;omega
 intro fu;induction fu with
 |zero=>intro _ _ _ h;omega
 |succ fu ih=>
  intro i b o r hb bo;unfold ZbO;simp only[Zag];by_cases hlt:i<v.fBook.length
  .rw[iNb,Zap ⟨by omega,by omega⟩];simp only[Int.toNat_natCast];have dF:=ZbU v.fBook Zab.d i hlt;obtain⟨m,jt⟩:=ZOJ h _ (h.bookOk _ dF) ae;rw[jt,Zaw,add1 hlt j];have keep:=ih (i+1) b (by omega) (by omega) (by omega) bo;have move:=ih (i+1) (i:Int) (by omega) (by omega) (by omega) (by omega);cases m with
   |false=>rw[Bool.not_false,cond_true];exact keep
   |true=>
    rw[Bool.not_true,cond_false];by_cases hb0:b<0
    .rw[if_pos hb0];exact move
    .rw[if_neg hb0,Zap ⟨by omega,by omega⟩];by_cases g:(v.fBook.getD i Zab.d).fNext<(v.fBook.getD b.toNat Zab.d).fNext
     .rw[if_pos g];exact move
     .rw[if_neg g,Zdn,Zou,Zaw];split
      .split
       .exact move
       .exact keep
      .exact keep
  .rw[iNa];by_cases hb0:b<0
   .rw[if_pos hb0];exact⟨_,_,rfl,fun q=>by cases q⟩
   .rw[if_neg hb0,Zap ⟨by omega,by omega⟩];exact⟨_,_,rfl,fun _=>⟨_,ZbU v.fBook Zab.d b.toNat (by omega),rfl⟩⟩
def ZtA(v:ZfU)(ae:Int):Zah×Bool:=(Zeq v.fBook v.fPeers v.fBans ae).getD (⟨⟨false,0,0⟩,0⟩,false)
theorem ZOQ{v:ZfU}(h:ZCw v)(ae:Int):True/\Zeq v.fBook v.fPeers v.fBans ae=some (ZtA v ae)/\((ZtA v ae).2=true->0<=ZnC v.fBook (ZtA v ae).1):=by
 obtain⟨e,ok,i,j⟩:=ZGR h ae ⟨⟨false,0,0⟩,0⟩ ((((v.fBook.length:Nat):Int)-(0:Int)).toNat+2) 0 (-1) (by omega) (by omega) (by omega) (by omega);have d:Zeq v.fBook v.fPeers v.fBans ae=some (e,ok):=by unfold Zeq;exact i
 have g:ZtA v ae=(e,ok):=by unfold ZtA;rw[d];rfl
 refine⟨trivial,by rw[g];exact d,fun ar=>?_⟩;rw[g]at ar ⊢;obtain⟨x,x1,x2⟩:=j ar;have hx:¬ZnC v.fBook e<0:=fun q=>ZKj.1 q x x1 x2;exact Int.not_lt.1 hx
theorem ZGP{l:List Zab}(hl:l.length<=900)(ar:∀e∈l,e.ok)(ae:Int):∀(fu i:Nat)(r:Int)(any:Bool),i<=l.length->l.length-i<fu->∃r',ZbN l ae fu r any (i:Int)=some r':=by
 have g:l.length<=maxLen:=by unfold maxLen;omega
 intro fu;induction fu with
 |zero=>intro _ _ _ _ h;omega
 |succ fu ih=>
  intro i r any j o;unfold ZbN;simp only[Zag,Zdn];by_cases hlt:i<l.length
  .rw[iNb,Zap ⟨by omega,by omega⟩];simp only[Int.toNat_natCast];rw[ZkT _ (ar _ (ZbU l Zab.d i hlt)),Zaw,add1 hlt g];have keep:=fun r any=>ih (i+1) r any (by omega) (by omega);cases Zrc (l.getD i Zab.d)with
   |false=>exact keep _ _
   |true=>
    rw[cond_true];split
    .split
     .cases any
      .exact keep _ _
      .rw[Bool.not_true,cond_false];split
       .exact keep _ _
       .exact keep _ _
     .exact keep _ _
    .exact keep _ _
  .rw[iNa];exact⟨r,rfl⟩
def ZIh(v:ZfU)(ae:Int):Int:=(Zep v.fBook ae).getD 0
theorem ZOd{v:ZfU}(h:ZCw v)(ae:Int):True/\Zep v.fBook ae=some (ZIh v ae):=by
 obtain⟨s,d⟩:=ZGP h.book h.bookOk ae ((((v.fBook.length:Nat):Int)-(0:Int)).toNat+2) 0 0 false (by omega) (by omega);have e:Zep v.fBook ae=some s:=by unfold Zep;exact d
 exact⟨trivial,by unfold ZIh;rw[e];rfl⟩
def ZOy(n:Nat):Pr ZfU:=(Zli ⟨3,0,0⟩).bind fun b=>(Zli ⟨4,0,0⟩).bind fun v=>(ZCn n 0 []).bind fun w=>.ret ⟨v.fBook,w,b.fBans⟩
theorem ZMK{got:List Zae}(hG:Gl got){b v:Zae}(hb:b∈got)(d:v∈got){w:List Zaa}(j:w.length<=800)(e:∀p∈w,p.ok):ZCw ⟨v.fBook,w,b.fBans⟩:=by
 have g:=hG.val b hb;have i:=hG.val v d;exact⟨by show v.fBook.length<=900;omega,by show w.length<=900;omega,by show b.fBans.length<=900;omega,i.1.2.2.2.1.2,e,g.1.2.2.1.2⟩
def stE(e:Zab)(s:Int):Zab:=⟨e.fEnd,s,e.fFails,e.fNext⟩
def ZPg(e:Zab):Zab:=⟨e.fEnd,3,0,e.fNext⟩
def newE(x:Zao):Zab:=⟨x.fEnd,1,0,fitI x.fNow⟩
def ZHj(x:Zao):Zaa:=⟨x.fEnd,false,fitI x.fNow,⟨0,fitI x.fNow⟩,0,0⟩
def ZAc(l:List Zab)(e:Zab):Pr Unit:=Zlg ⟨4,0,0⟩ ⟨0,ZkG,[],setS l e⟩ false
def ZAa(l:List Zab)(e:Zab):Pr Unit:=(ZAc l e).bind fun _=>Zsg 2 (-1) true 1000000
def ZBz(c:Zaq)(x:Zao)(l:List Zab)(e:Zab)(k:Int):Pr (Zai×Bool):=(ZAa l (ZuV c e x.fNow x.fNum)).bind fun _=>.ret (⟨k,endZ,(ZuV c e x.fNow x.fNum).fFails,(ZuV c e x.fNow x.fNum).fNext,[]⟩,false)
def entA(l:List Zab)(e:Zah):Zab:=l.getD (ZnC l e).toNat Zab.d
def ZJo(c:Zaq)(x:Zao):Pr (Zai×Bool):=(ZOy c.fShards.toNat).bind fun v=>(Zli ⟨2,0,0⟩).bind fun o=>if o.fN>=c.fMaxOut then .ret (ZdE 5,true)else if(ZtA v x.fNow).2=true then(Zsg 2 1 true 1000000).bind fun _=>(ZAc v.fBook (stE (entA v.fBook (ZtA v x.fNow).1) 2)).bind fun _=>.ret (⟨0,(ZtA v x.fNow).1,0,0,[]⟩,false)else .ret (⟨6,endZ,0,ZIh v x.fNow,[]⟩,true)
def ZNc(c:Zaq)(r:Zai×Bool):Pr Zai:=(Zla c.fShards r.2).bind fun _=>(keyP 3 1 false).bind fun _=>(keyP 4 0 false).bind fun _=>.ret r.1
def ZNd(c:Zaq)(x:Zao):Pr Zai:=(keyP 2 0 false).bind fun _=>(keyP 1 1 false).bind fun _=>(ZoB c.fShards).bind fun _=>(ZJo c x).bind fun r=>ZNc c r
def ZMX(n:Int)(x:Zao)(l:List Zab)(e:Zab):Pr (Zai×Bool):=(ZsC n).bind fun ps=>if ZdU ps x.fEnd>=0 then(ZAa l (stE e 1)).bind fun _=>.ret (ZdE 7,false)else(ZAc l (ZPg e)).bind fun _=>(ZlQ n ps (ps++[ZHj x])).bind fun _=>.ret (repZ,true)
def ZKi(n:Int)(c:Zaq)(x:Zao)(l:List Zab)(e:Zab):Pr (Zai×Bool):=if x.fGood=true then(Zli ⟨3,0,0⟩).bind fun b=>if Zpg b.fBans x.fEnd.fAddr x.fNow>0 then ZBz c x l e 8 else ZMX n x l e else ZBz c x l e 0
def resP(n:Int)(c:Zaq)(x:Zao):Pr (Zai×Bool):=(Zli ⟨4,0,0⟩).bind fun v=>if ZnC v.fBook x.fEnd<0 then .ret (ZdE 6,true)else if(entA v.fBook x.fEnd).fState=2 then ZKi n c x v.fBook (entA v.fBook x.fEnd)else .ret (ZdE 6,true)
def ZFZ(n:Int)(r:Zai×Bool):Pr Zai:=(keyP 3 (2+n) r.2).bind fun _=>(keyP 3 1 false).bind fun _=>(keyP 4 0 false).bind fun _=>.ret r.1
def ZwE(c:Zaq)(x:Zao):Pr Zai:=(keyP 2 0 false).bind fun _=>(keyP 1 1 false).bind fun _=>(keyP 1 (2+pt c x) false).bind fun _=>(resP (pt c x) c x).bind fun r=>ZFZ (pt c x) r
def ZFS(c:Zaq)(x:Zao):Pr Zai:=(keyP 1 1 false).bind fun _=>(Zli ⟨4,0,0⟩).bind fun v=>if(addS v.fBook (newE x) c.fMaxBook).2=0 then(Zlg ⟨4,0,0⟩ ⟨0,ZkG,[],(addS v.fBook (newE x) c.fMaxBook).1⟩ true).bind fun _=>(keyP 3 1 false).bind fun _=>.ret (ZdE 0)else(keyP 3 1 true).bind fun _=>.ret (ZdE (addS v.fBook (newE x) c.fMaxBook).2)
def ZGT(c:Zaq)(x:Zao):Pr Zai:=if Zlu x=true then(if x.fKind=3 then ZNd c x else if x.fKind=4 then ZwE c x else if x.fKind=13 then ZFS c x else ZmQ)else ZmQ
section
variable {c:Zaq} {x:Zao} (hx:x.ok) (hs:c.fShards<=1000) {l:List Zae} (hl:Gl l)
include hx hs hl
omit hx hs hl in
theorem ZPj(a:Int):okI .i64 (fitI a):=by
 have:=ZiH a;simp only[okI,Lit.wf,IntKind.min,IntKind.max,IntKind.bits,IntKind.signed];simp;omega
omit hs hl in
theorem ZJD:(newE x).ok:=⟨hx.2.1,rfl,rfl,ZPj _,trivial⟩
end
section
variable {got:List Zae} (hG:Gl got) {a:Nat} (ha:a<=got.length)
include hG ha
theorem ZDy(l:List Zab)(e:Zab)(hl:l.length<=10000):Wlk got a anyP anyW (ZAc l e) ((ZbQ (wk got a) l e).map fun w=>(w,())):=by
 have hL:=hG.len;have js:=ZFl l e;unfold ZbQ;rw[ZIX _ _ hl,Zaw,ZrQ];exact Zmh (by omega) ha _ _ _ ⟨Nat.zero_le _,by show (setS l e).length<=_;omega⟩
omit hG ha in
theorem ZHa(q:Zat)(l:List Zab)(e:Zab)(hl:l.length<=10000):ZbQ (wt got q) l e=some (wt got q):=by
 unfold ZbQ;rw[ZIX _ _ hl,Zaw,Zic];rfl
theorem ZDx(c:Zaq)(m:Bool)(v:Zai):Wlk got a eqP anyW (ZNc c (v,m)) ((Zdt c (wk got a) m).bind fun y=>some (y,v)):=by
 have hL:=hG.len;unfold ZNc Zdt;simp only[Option.bind_assoc,Zaw];refine Wlk.seqU (ZrW (by omega) ha _ _) (fun _ g i d _=>?_) (fun q=>?_)
 .refine Wlk.seqU (ZiY (by omega) d _ _ _) (fun _ j o e _=>?_) (fun q=>?_)
  .exact ZmT hG e _ _ _ _
  .simp only[ZaO,Zaw];exact⟨_,rfl,trivial⟩
 .simp only[ZaO,Zaw];exact⟨_,rfl,trivial⟩
omit ha in
theorem Zvx(c:Zaq)(q:Zat)(m:Bool):Zdt c (wt got q) m=some (wt got q):=by
 have hL:=hG.len;unfold Zdt;simp only[Zki got (by omega),ZaO,Zaw]
theorem ZFz(l:List Zab)(e:Zab)(hl:l.length<=10000){β:Type}(v:β):Wlk got a eqP anyW ((ZAa l e).bind fun _=>.ret v) ((ZbQ (wk got a) l e).bind fun y=>(Zbb y 2 (-1) true).bind fun z=>some (z,v)):=by
 have hL:=hG.len;unfold ZAa;rw[Pr.bind_assoc];refine Wlk.seqU (ZDy hG ha l e hl) (fun _ i j d _=>?_) (fun q=>?_)
 .exact Wlk.seqU (ZuJ (by omega) d _ _ _) (fun _ o r g _=>Wlk.ret g rfl) (fun q=>⟨_,rfl,trivial⟩)
 .rw[Zlv];exact⟨_,rfl,trivial⟩
end
section
variable {c:Zaq} {x:Zao} (hx:x.ok) (bH:0<=c.fShards) (hs:c.fShards<=1000) {got:List Zae} (hG:Gl got) {a:Nat} (ha:a<=got.length)
include hx hG ha
include bH hs in
theorem ZOO:Wlk got a eqP anyW (ZNd c x) (Zir c x (wk got a)):=by
 have hL:=hG.len;have d6:got.length<=1000000:=by omega
 have _u:=hx;have wA:=fun q=>ZNB (got:=got) bH hs q;unfold ZNd Zir ZJo ZOy;simp only[Pr.bind_assoc,Pr.bind_ret];refine Wlk.seqU (ZiY (by omega) ha _ _ _) (fun _ E _ r _=>?_) (fun q=>?_);rotate_left
 .obtain⟨ls,cw⟩:=wA q;simp only[ZaO,Zjh got d6,ZdB,Zaw,cw,Zeg,cond_true];exact⟨_,rfl,trivial⟩
 refine Wlk.seqU (ZiY (by omega) r _ _ _) (fun _ F _ t _=>?_) (fun q=>?_);rotate_left
 .obtain⟨ls,cw⟩:=wA q;simp only[ZaO,Zjh got d6,ZdB,Zaw,cw,Zeg,cond_true];exact⟨_,rfl,trivial⟩
 refine Wlk.seqU (ZrV (by omega) t _) (fun _ G _ u _=>?_) (fun q=>?_);rotate_left
 .obtain⟨ls,cw⟩:=wA q;simp only[ZdB,Zaw,cw,Zeg,cond_true];exact⟨_,rfl,trivial⟩
 refine Wlk.seqP (Zmi (by omega) u _) (fun b b' H _ y hb=>?_) (fun q b _=>?_);rotate_left
 .obtain⟨ls,cw⟩:=wA q;simp only[ZdB,Zaw,cw,Zeg,cond_true];exact⟨_,rfl,trivial⟩
 obtain⟨rfl,hb⟩:=hb;refine Wlk.seqP (Zmi (by omega) y _) (fun v v' I _ A e=>?_) (fun q v _=>?_);rotate_left
 .obtain⟨ls,cw⟩:=wA q;simp only[ZdB,Zaw,cw,Zeg,cond_true];exact⟨_,rfl,trivial⟩
 obtain⟨rfl,e⟩:=e;refine Wlk.seqP (All_W bH hs hG A) (fun w ls J _ B C=>?_) (fun q ls _=>?_);rotate_left
 .simp only[ZdB,Zaw,Zeg,cond_true];exact⟨_,rfl,trivial⟩
 obtain⟨rfl,gl,fI,jy⟩:=C;refine Wlk.seqP (Zmi (by omega) B _) (fun o o' L _ g ho=>?_) (fun q v _=>?_);rotate_left
 .simp only[Zeg,cond_true];exact⟨_,rfl,trivial⟩
 obtain⟨rfl,ho⟩:=ho;simp only[ZgG,cond_false];have j:=ZMK hG hb e fI jy;obtain⟨p1,p2,p3⟩:=ZOQ j x.fNow;have hbk:=(hG.val v e).2.2;have p2':Zeq v.fBook ls.flatten b.fBans x.fNow=some (ZtA ⟨v.fBook,ls.flatten,b.fBans⟩ x.fNow):=p2;rw[Zag];by_cases h0:o.fN>=c.fMaxOut
 .rw[if_pos h0,if_pos h0,Pr.bind_ret];exact ZDx hG g c true _
 .rw[if_neg h0,if_neg h0,ZpF ls gl (by omega),Zaw,p2',Zaw];have hlt:=ZDU v.fBook (ZtA ⟨v.fBook,ls.flatten,b.fBans⟩ x.fNow).1;have hwn:Zep v.fBook x.fNow=some (ZIh ⟨v.fBook,ls.flatten,b.fBans⟩ x.fNow):=(ZOd j x.fNow).2;generalize ZIh ⟨v.fBook,ls.flatten,b.fBans⟩ x.fNow=wn at hwn ⊢;generalize ZtA ⟨v.fBook,ls.flatten,b.fBans⟩ x.fNow=pk at p3 hlt ⊢;cases ar:pk.2 with
  |false=>
   rw[Bool.not_false,cond_true,if_neg (by decide),Pr.bind_ret];simp only[hwn,Zaw];exact ZDx hG g c true _
  |true=>
   have i:0<=ZnC v.fBook pk.1:=p3 ar;have ef:ZfZ (v.fBook.getD (ZnC v.fBook pk.1).toNat Zab.d) 2=some (stE (entA v.fBook pk.1) 2):=rfl;have nd:(0:Int)<=ZnC v.fBook pk.1/\ZnC v.fBook pk.1<((v.fBook.length:Nat):Int):=⟨i,hlt⟩;rw[Bool.not_true,cond_false,if_pos rfl];simp only[Zrg v.fBook pk.1 (by unfold maxLen;omega),Zaw,Zap nd,ef,Pr.bind_assoc,Pr.bind_ret];refine Wlk.seqU (ZuJ (by omega) g _ _ _) (fun _ M _ D _=>?_) (fun q=>?_)
   .refine Wlk.seqU (ZDy hG D _ _ (by omega)) (fun _ O _ i _=>?_) (fun q=>?_)
    .exact ZDx hG i c false _
    .rw[Zvx hG];exact⟨_,rfl,trivial⟩
   .rw[ZHa q _ _ (by omega),Zaw,Zvx hG];exact⟨_,rfl,trivial⟩
theorem ZFA(l:List Zab)(hl:l.length<=10000)(e:Zab)(k:Int):Wlk got a eqP anyW (ZBz c x l e k)
  ((ZdA c e x.fNow x.fNum).bind fun x3=>(ZbQ (wk got a) l x3).bind fun x4=>(Zbb x4 (2:Int) (-1:Int) true).bind fun x5=>some (x5,(Zai.mk k endZ x3.fFails x3.fNext []),false)):=by
 have _u:=hx;rw[(ZKl c e x.fNow x.fNum).2,Zaw];exact ZFz hG ha l _ hl _
theorem ZOM(l:List Zab)(hl:l.length<=10000)(e:Zab)(n:Int)(t:n=pt c x)(hg:x.fGood=true)(b12:Zad)(k5:Zai) :
  Wlk got a eqP anyW (ZMX n x l e) (Zcx n l c x (wk got a) e b12 k5 repZ):=by
 have hL:=hG.len;have _u:=hx;unfold Zcx ZMX;have i:(repZ.fCode==(8:Int))=false:=rfl;rw[hg,Bool.not_true,cond_false,i,cond_false];refine Wlk.seqP (ZCu (by omega) ha _) (fun ps ps' u _ g j=>?_) (fun q ps _=>?_);rotate_left
 .simp only[Zeg,cond_true];exact⟨_,rfl,trivial⟩
 obtain⟨rfl,aT,a4⟩:=j;simp only[ZgG,cond_false,List.nil_append];rw[ZgU _ _ (by unfold maxLen;omega),Zaw,Zag];by_cases d:ZdU ps x.fEnd>=0
 .have ed:ZfZ e 1=some (stE e 1):=rfl;rw[if_pos d,if_pos d,ed,Zaw];exact ZFz hG g l _ hl _
 .have eg:ZjV e=some (ZPg e):=rfl;have en:ZeK x.fEnd false x.fNow=some (ZHj x):=by unfold ZeK;rw[Zkl];rfl
  have hlen:(ps++[ZHj x]).length=ps.length+1:=by simp
  have n1:ps.length * 80<=140737488355328/\ps.length<=maxLen:=⟨by omega,by unfold maxLen;omega⟩;have n2:(ps++[ZHj x]).length * 80<=140737488355328/\(ps++[ZHj x]).length<=maxLen:=⟨by omega,by unfold maxLen;omega⟩;rw[if_neg d,if_neg d,eg,Zaw];simp only[en,Zaw,Zap n1,Zap n2];refine Wlk.seqU (ZDy hG g _ _ hl) (fun _ v _ o _=>?_) (fun q=>?_)
  .exact Wlk.seqU (ZoZ (by omega) o _ _ _ (by omega)) (fun _ y _ r _=>Wlk.ret r rfl) (fun q=>⟨_,rfl,trivial⟩)
  .rw[Zql got q _ _ _ (by omega)];exact⟨_,rfl,trivial⟩
theorem ZON(l:List Zab)(hl:l.length<=10000)(e:Zab)(n:Int)(i:n=pt c x):Wlk got a eqP anyW (ZKi n c x l e) (Ziq c x (wk got a) n l e):=by
 have hL:=hG.len;unfold ZKi Ziq;cases hg:x.fGood with
 |false=>
  rw[cond_false,if_neg (by decide)];unfold Zcx;rw[hg,Bool.not_false,cond_true];exact ZFA hx hG ha l hl e 0
 |true=>
  rw[cond_true,if_pos rfl];refine Wlk.seqP (Zmi (by omega) ha _) (fun b b' j _ g hb=>?_) (fun q b _=>?_);rotate_left
  .simp only[Zeg,cond_true];exact⟨_,rfl,trivial⟩
  obtain⟨rfl,hb⟩:=hb;have hbv:=hG.val b hb;simp only[ZgG,cond_false];rw[(Zpf b.fBans x.fEnd.fAddr x.fNow (by unfold maxLen;omega) hbv.1.2.2.1.2 hx.2.1.1).2,Zaw,Zag];by_cases d:Zpg b.fBans x.fEnd.fAddr x.fNow>0
  .rw[if_pos d,if_pos d];unfold Zcx;rw[hg,Bool.not_true,cond_false];exact ZFA hx hG g l hl e 8
  .rw[if_neg d,if_neg d];exact ZOM hx hG g l hl e n i hg _ _
theorem ZwR(n:Int)(m:Bool)(v:Zai):Wlk got a eqP anyW (ZFZ n (v,m)) ((Zaj (wk got a) 3 (2+n) m).bind fun x8=>(Zaj x8 3 1 false).bind fun x9=>(Zaj x9 4 0 false).bind fun dk=>some (dk,v)):=by
 have _u:=hx;have hL:=hG.len;unfold ZFZ;refine Wlk.seqU (ZiY (by omega) ha _ _ _) (fun _ g _ d _=>?_) (fun q=>?_)
 .refine Wlk.seqU (ZiY (by omega) d _ _ _) (fun _ i _ e _=>?_) (fun q=>?_)
  .exact ZmT hG e _ _ _ _
  .simp only[ZaO,Zaw];exact⟨_,rfl,trivial⟩
 .simp only[ZaO,Zaw];exact⟨_,rfl,trivial⟩
theorem ZJh:Wlk got a eqP anyW (ZwE c x) (ZgY c x (wk got a)):=by
 have hL:=hG.len;have e:Zcf x.fEnd.fAddr c.fSecret c.fShards=some (pt c x):=(Zor x.fEnd.fAddr hx.2.1.1 c.fSecret c.fShards).2.1;unfold ZwE ZgY resP;rw[e,Zaw,Zpp hx];simp only[Pr.bind_assoc];refine Wlk.seqU (ZiY (by omega) ha _ _ _) (fun _ A _ o _=>?_) (fun q=>?_);rotate_left
 .simp only[ZaO,ZdB,Zaw,Zeg,cond_true];exact⟨_,rfl,trivial⟩
 refine Wlk.seqU (ZiY (by omega) o _ _ _) (fun _ B _ g _=>?_) (fun q=>?_);rotate_left
 .simp only[ZaO,ZdB,Zaw,Zeg,cond_true];exact⟨_,rfl,trivial⟩
 refine Wlk.seqU (ZiY (by omega) g _ _ _) (fun _ C _ t _=>?_) (fun q=>?_);rotate_left
 .simp only[ZdB,Zaw,Zeg,cond_true];exact⟨_,rfl,trivial⟩
 refine Wlk.seqP (Zmi (by omega) t _) (fun v v' D _ i j=>?_) (fun q b _=>?_);rotate_left
 .simp only[Zeg,cond_true];exact⟨_,rfl,trivial⟩
 obtain⟨rfl,j⟩:=j;have ib:=hG.val v j;have hlt:=ZDU v.fBook x.fEnd;simp only[ZgG,cond_false];rw[Zrg _ _ (by unfold maxLen;omega),Zaw,Zag];by_cases h0:ZnC v.fBook x.fEnd<0
 .rw[if_pos h0,if_neg (show ¬ZnC v.fBook x.fEnd>=0 by omega),Pr.bind_ret];exact ZwR hx hG i _ true _
 .have ee:v.fBook.getD (ZnC v.fBook x.fEnd).toNat Zab.d=entA v.fBook x.fEnd:=rfl;rw[if_neg h0,if_pos (show ZnC v.fBook x.fEnd>=0 by omega),Zap (by omega),ee,Zdn];by_cases g:(entA v.fBook x.fEnd).fState=2
  .rw[if_pos g,if_pos g];refine Wlk.seqP (ZON hx hG i v.fBook (by omega) _ _ rfl) (fun r r' E _ u y=>?_) (fun q b _=>?_)
   .cases y;exact ZwR hx hG u _ r.2 r.1
   .simp only[ZaO,Zaw];exact⟨_,rfl,trivial⟩
  .rw[if_neg g,if_neg g,Pr.bind_ret];exact ZwR hx hG i _ true _
theorem ZMn:Wlk got a eqP anyW (ZFS c x) (ZhA c x (wk got a)):=by
 have hL:=hG.len;have en:ZiQ x.fEnd x.fNow=some (newE x):=by unfold ZiQ;rw[Zkl];rfl
 unfold ZFS ZhA;simp only[en,Zaw];have bm:∀(q:Zat)(v:Zae),v.fBook.length<=10000->∃d,((Zhf v.fBook (newE x) c.fMaxBook).bind fun x4=>
   bif(x4.2==(0:Int))then
    (ZaA (wt got q) (Zas.mk (4:Int) (0:Int) (0:Int)) (Zae.mk (0:Int) (Zaa.mk (Zah.mk (Zaf.mk false (0:Int) (0:Int)) (0:Int)) false (0:Int) (Zan.mk (0:Int) (0:Int)) (0:Int) (0:Int)) ([]:(List Zac)) x4.1) true).bind fun x5=>
    (Zaj x5 (3:Int) (1:Int) (x4.2 != (0:Int))).bind fun x6=>
    some (x6,(Zai.mk x4.2 (Zah.mk (Zaf.mk false (0:Int) (0:Int)) (0:Int)) (0:Int) (0:Int) ([]:(List Zaa))))
   else
    (Zaj (wt got q) (3:Int) (1:Int) (x4.2 != (0:Int))).bind fun x7=>
    some (x7,(Zai.mk x4.2 (Zah.mk (Zaf.mk false (0:Int) (0:Int)) (0:Int)) (0:Int) (0:Int) ([]:(List Zaa)))))=some (wt got q,d)/\anyW d:=by
  intro q v e;rw[ZJd _ _ _ e (ZJD hx),Zaw];simp only[Zic,ZaO,Zaw];cases((addS v.fBook (newE x) c.fMaxBook).2==(0:Int))
  .exact⟨_,rfl,trivial⟩
  .exact⟨_,rfl,trivial⟩
 refine Wlk.seqU (ZiY (by omega) ha _ _ _) (fun _ r _ j _=>?_) (fun q=>?_);rotate_left
 .rw[ZdB,Zaw];exact bm q valZ (by simp[valZ])
 refine Wlk.seqP (Zmi (by omega) j _) (fun v v' t _ i e=>?_) (fun q b hb=>?_);rotate_left
 .rw[hb];exact bm q valZ (by simp[valZ])
 obtain⟨rfl,e⟩:=e;have ib:=hG.val v e;have kP:=ZGx v.fBook (newE x) c.fMaxBook;dsimp only;rw[ZJd _ _ _ (by omega) (ZJD hx),Zaw,Zdn];by_cases h0:(addS v.fBook (newE x) c.fMaxBook).2=0
 .have g:((addS v.fBook (newE x) c.fMaxBook).2 != 0)=false:=by rw[h0];rfl
  rw[if_pos h0,if_pos h0,g];refine Wlk.seqU (Zmh (by omega) i _ _ _ ⟨Nat.zero_le _,by show (addS v.fBook (newE x) c.fMaxBook).1.length<=_;omega⟩) (fun _ u _ o _=>?_) (fun q=>?_)
  .rw[h0];exact ZmT hG o _ _ _ _
  .rw[ZaO];exact⟨_,rfl,trivial⟩
 .have g:((addS v.fBook (newE x) c.fMaxBook).2 != 0)=true:=by rw[bne_iff_ne];exact h0
  rw[if_neg h0,if_neg h0,g];exact ZmT hG i _ _ _ _
end
section
variable {c:Zaq} {x:Zao} (hx:x.ok) (bH:0<=c.fShards) (hs:c.fShards<=1000) {got:List Zae} (hG:Gl got)
include hx bH hs hG
theorem ZNv:Wlk got 0 eqP anyW (ZGT c x) (Zis c x got):=by
 have a6:Wlk got 0 eqP anyW ZmQ ((Zaj (wk got 0) (8:Int) (0:Int) true).bind fun x2=>some (x2,ZdE 1)):=ZmT hG (Nat.zero_le _) _ _ _ _;have jj:(Zad.mk got (0:Int) opZ false)=wk got 0:=rfl;have cj:∀r:Option (Zad×Zai),(r.bind fun y=>some (y.1,y.2))=r:=fun r=>by cases r<;>rfl
 unfold ZGT Zis;rw[Zow x hx,Zaw];cases Zlu x with
 |false=>
  rw[cond_false,if_neg (by decide)];exact a6
 |true=>
  rw[cond_true,if_pos rfl,Zdn,Zdn,Zdn];by_cases d:x.fKind=3
  .rw[if_pos d,if_pos d,cj];exact ZOO hx bH hs hG (Nat.zero_le _)
  .rw[if_neg d,if_neg d];by_cases e:x.fKind=4
   .rw[if_pos e,if_pos e,cj];exact ZJh hx hG (Nat.zero_le _)
   .rw[if_neg e,if_neg e];by_cases h13:x.fKind=13
    .rw[if_pos h13,if_pos h13,cj];exact ZMn hx hG (Nat.zero_le _)
    .rw[if_neg h13,if_neg h13];exact a6
end
def lks(n:Nat)(f:Nat->Zay):List Zay:=(List.range (n+2)).map f
def memM(inn out:Int)(bans:List Zac)(book:List Zab)(sh:List Zam)(n:Nat)(f:Nat->Zay):ZaW:=⟨inn,out,bans,book,sh,lks n f⟩
def ZQb:Zay:=⟨0,[]⟩
section
variable {inn out:Int} {bans:List Zac} {book:List Zab} {sh:List Zam} {n:Nat} {f:Nat->Zay} (bV:1<=n) (bW:n<=8) (bL:sh.length = n)
include bV bW bL
end
section
variable {inn out:Int} {bans:List Zac} {book:List Zab} {sh:List Zam} {n:Nat} {f:Nat->Zay} (bV:1<=n) (bW:n<=8) (bL:sh.length = n)
include bV bW bL
end
section
variable {inn out:Int} {bans:List Zac} {book:List Zab} {sh:List Zam} {n:Nat} {f:Nat->Zay} (bV:1<=n) (bW:n<=8) (bL:sh.length = n)
include bV bW bL
end
section
variable {inn out:Int} {bans:List Zac} {book:List Zab} {n:Nat} {f:Nat->Zay} (bV:1<=n) (bW:n<=8)
include bV bW
end
def StrP(l:Prs):Prop:=l.Pairwise fun x y=>ltP x y=true
theorem StrP.filter{l:Prs}(h:StrP l)(p:Zaa->Bool):StrP (l.filter p):=List.Pairwise.filter p h
theorem StrP.inj{l:Prs}(h:StrP l){x y:Zaa}(hx:x∈l)(g:y∈l)(e:x.fEnd=y.fEnd):x=y:=by
 induction l with
 |nil=>cases hx
 |cons z l ih=>
  have d:=List.pairwise_cons.1 h;have key:∀{w},w∈l->w.fEnd≠z.fEnd:=fun{w} i ew=>by
   have:=ZtN.1 (d.1 w i);rw[Zls.2 ew.symm]at this;omega
  rcases List.mem_cons.1 hx with h1|h1<;>rcases List.mem_cons.1 g with h2|h2
  .rw[h1,h2]
  .exact absurd (by rw[<-e,h1]) (key h2)
  .exact absurd (by rw[e,h2]) (key h1)
  .exact ih d.2 h1 h2
def ZAh(bN nsh:Int)(k:Nat)(p:Zaa):Bool:=decide (ZuO p.fEnd.fAddr bN nsh=(k:Int))
def Znf(l:Prs)(bN nsh:Int)(k:Nat):Prs:=l.filter (ZAh bN nsh k)
def shF(a b:Prs):Zam:=⟨(a.length:Int),a++b⟩
abbrev PPs:=List (Prs×Prs)
def shP(ps:PPs):List Zam:=ps.map fun x=>shF x.1 x.2
theorem ZDm(ps:PPs):(shP ps).length=ps.length:=by simp[shP]
def ps0(l:Prs)(bN nsh:Int)(n:Nat):PPs:=(List.range n).map fun k=>(Znf l bN nsh k,[])
theorem ZDz(l:Prs)(bN nsh:Int)(n:Nat):(ps0 l bN nsh n).length=n:=by simp[ps0]
def ZNO(L:List Prs)(i:Nat):Prs:=(L.take i).flatten++(L.drop (i+1)).flatten
theorem ZGN(l:Prs)(bN nsh:Int)(hl:l.length<=1000)(ar:∀p∈l,p.ok):ZhH l bN nsh=some (shP (ps0 l bN nsh (Zcg nsh))):=by
 have A:=Zja nsh;have bZ:∀(v8:Nat)(w7:List Zam)(kg:Int->List Zam->Option (List Zam)),w7.length<=100->v8<=100->∀(k i fu:Nat),l.length-i=k->i<=l.length->k+1<=fu ->
   ZcS l bN nsh (v8:Int) kg fu (i:Int) w7 (((Znf (l.take i) bN nsh v8).length:Nat):Int) (Znf (l.take i) bN nsh v8)=kg ((v8+1:Nat):Int) (w7++[shF (Znf l bN nsh v8) []]):=by
  intro v8 w7 kg B C k;induction k with
  |zero=>
   intro i fu j o r;obtain⟨fu,rfl⟩:=sC fu;have g:Zau (v8:Int) 1=((v8+1:Nat):Int):=add1 (n:=v8+1) (by omega) (by simp only[maxLen];omega);unfold ZcS;rw[Zag,iNa,List.take_of_length_le (by omega),Zap ⟨by simp;omega,by simp[maxLen];omega⟩,g];unfold shF;rw[List.append_nil]
  |succ k ih=>
   intro i fu j o r;obtain⟨fu,rfl⟩:=sC fu;have lc:i<l.length:=by omega
   have g:Zau (i:Int) 1=((i+1:Nat):Int):=add1 (n:=i+1) (by omega) (by simp only[maxLen];omega);have hle:(Znf (l.take i) bN nsh v8).length<=i:=by
    have:=List.length_filter_le (ZAh bN nsh v8) (l.take i);simp only[List.length_take]at this;unfold Znf;omega
   have dH:l.take (i+1)=l.take i++[l.getD i Zaa.d]:=by rw[List.take_succ_eq_append_getElem lc,ZbH l _ i lc]
   have u:=(Zor (l.getD i Zaa.d).fEnd.fAddr (ar _ (ZbU l _ i lc)).1.1 bN nsh).2.1;unfold ZcS;rw[Zag,iNb,Zap ⟨by omega,by omega⟩,Int.toNat_natCast,u,Zaw,Zdn];have t:∀(b:Bool),ZAh bN nsh v8 (l.getD i Zaa.d)=b->Znf (l.take (i+1)) bN nsh v8=Znf (l.take i) bN nsh v8++(if b=true then[l.getD i Zaa.d]else[]):=by
    intro b hb;unfold Znf;rw[dH,List.filter_append];cases b with
    |true=>rw[List.filter_cons_of_pos hb];rfl
    |false=>rw[List.filter_cons_of_neg (by rw[hb];decide)];rfl
   by_cases h:ZuO (l.getD i Zaa.d).fEnd.fAddr bN nsh=(v8:Int)
   .rw[if_pos h,Zap ⟨by simp only[List.length_append,List.length_singleton];omega,by simp only[List.length_append,List.length_singleton,maxLen];omega⟩,g];have v:Zau (((Znf (l.take i) bN nsh v8).length:Nat):Int) 1=(((Znf (l.take i) bN nsh v8).length+1:Nat):Int):=add1 (n:=(Znf (l.take i) bN nsh v8).length+1) (by omega) (by simp only[maxLen];omega);have:=ih (i+1) fu (by omega) (by omega) (by omega);rw[t true (by unfold ZAh;rw[decide_eq_true_eq];exact h)]at this;simp only[if_true,List.length_append,List.length_singleton]at this;rw[v];exact this
   .rw[if_neg h,g];have:=ih (i+1) fu (by omega) (by omega) (by omega);rw[t false (by unfold ZAh;rw[decide_eq_false_iff_not];exact h)]at this;simp only[Bool.false_eq_true,if_false,List.append_nil]at this;exact this
 have cK:∀(k i fu:Nat),Zcg nsh-i=k->i<=Zcg nsh->k+1<=fu->ZcT l bN nsh fu (i:Int) (shP (ps0 l bN nsh i))=some (shP (ps0 l bN nsh (Zcg nsh))):=by
  intro k;induction k with
  |zero=>
   intro i fu j o r;obtain⟨fu,rfl⟩:=sC fu;have:i=Zcg nsh:=by omega
   subst this;unfold ZcT;rw[Zkb,Zaw,Zag,iNa]
  |succ k ih=>
   intro i fu j o r;obtain⟨fu,rfl⟩:=sC fu;unfold ZcT;rw[Zkb,Zaw,Zag,iNb];have h:=bZ i (shP (ps0 l bN nsh i)) (ZcT l bN nsh fu) (by rw[ZDm,ZDz];omega) (by omega) l.length 0 ((((l.length:Nat):Int)-(0:Int)).toNat+2) (by omega) (by omega) (by omega);have y:Znf (l.take 0) bN nsh i=[]:=by simp[Znf]
   rw[y]at h;have e:shP (ps0 l bN nsh i)++[shF (Znf l bN nsh i) []]=shP (ps0 l bN nsh (i+1)):=by
    unfold shP ps0;rw[List.range_succ];simp
   rw[e]at h;refine h.trans ?_;exact ih (i+1) fu (by omega) (by omega) (by omega)
 exact cK (Zcg nsh) 0 1000000 (by omega) (by omega) (by omega)
theorem ZMA(c:Zaq)(s:ZaN)(ar:∀p∈s.fPeers,p.ok)(e:s.fPeers.length<=100)(g:s.fBook.length<=100) :
  ZfN c s=some (memM (cntP s.fPeers true) (cntP s.fPeers false+Zly s.fBook 2) s.fBans s.fBook (shP (ps0 s.fPeers c.fSecret c.fShards (Zcg c.fShards))) (Zcg c.fShards) fun _=>ZQb):=by
 have r:=Zja c.fShards;have t:=Zsq s.fPeers false;have hb:0<=Zly s.fBook 2/\Zly s.fBook 2<=100:=by
  unfold Zly;have:=List.countP_le_length (p:=fun x:Zab=>decide (x.fState=2)) (l:=s.fBook);omega
 have j:Zau ((Zcg c.fShards:Nat):Int) 2=((Zcg c.fShards+2:Nat):Int):=by rw[Zbs (by omega) (by omega)];omega
 unfold ZfN;rw[ZiZ _ _ (by unfold maxLen;omega),Zaw,ZiZ _ _ (by unfold maxLen;omega),Zaw,ZzC _ _ (by unfold maxLen;omega),Zaw,ZGN _ _ _ (by omega) ar,Zaw];simp only[ZDm,ZDz,j];rw[Zap ⟨by omega,by omega,by omega,by omega⟩,Zbs (by omega) (by omega)];have o:List.replicate ((Zcg c.fShards+2:Nat):Int).toNat Zay.d=lks (Zcg c.fShards) fun _=>ZQb:=by
  rw[Int.toNat_natCast];apply List.ext_getElem
  .simp[lks]
  .intro i e g;simp[lks];rfl
 rw[o];rfl
theorem ZBU(s:ZaN)(d:s.fPeers.length<=1000)(e:s.fBook.length<=1000):ZgC s=some (cntP s.fPeers false+Zly s.fBook 2):=by
 have g:=Zsq s.fPeers false;have hb:0<=Zly s.fBook 2/\Zly s.fBook 2<=1000:=by
  unfold Zly;have:=List.countP_le_length (p:=fun x:Zab=>decide (x.fState=2)) (l:=s.fBook);omega
 unfold ZgC;rw[ZiZ _ _ (by unfold maxLen;omega),Zaw,ZzC _ _ (by unfold maxLen;omega),Zaw,Zbs (by omega) (by omega)]
end Go.Proofs.YtnigiacmmedkhaaGreat
