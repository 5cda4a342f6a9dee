import Derived.Test.YtdjfoojllbfcgaaGreatQPlTd
namespace Go.Proofs.YtdjfoojllbfcgaaGreat
set_option linter.unusedVariables false
set_option linter.unusedSimpArgs false
theorem ZtI {c:Zan} {l:List Zae} {x:Zae} {g:Zal} (h:runT (Zon c) l = some (.ret x g)) : ∃ r,l = x :: r∧g = ⟨r⟩:=by
  cases l with
  | nil =>simp [runT,Zon] at h
  | cons v r =>
    simp only [runT,Zon,Option.some.injEq,Tout.ret.injEq] at h
    exact ⟨r,by rw [h.1],h.2.symm⟩
def ZoK (part:Int):Nat→Nat→List Zaa→Pr (List Zaa)
  | 0,_,w =>.ret w
  | k + 1,i,w =>(Zon ⟨6,part,i⟩).bind fun v =>ZoK part k (i + 1) (w ++ [v.fPeer])
def Zsh (part:Int):Pr (List Zaa):=(Zon ⟨5,part,0⟩).bind fun v =>ZoK part v.fN.toNat 0 []
theorem Zzh (part n:Int) : ∀ (k:Nat) (w:List Zaa) (l:List Zae) (fu:Nat),(n - (w.length:Int)).toNat = k→w.length + l.length≤900000→k + 1≤fu→ZdM part fu n (w.length:Int) w ⟨l⟩ = runT (ZoK part k w.length w) l:=by
  intro k
  induction k with
  | zero =>
    intro w l fu hk hl hf
    obtain ⟨fu,rfl⟩ : ∃ x,fu = x + 1:=⟨fu - 1,by omega⟩
    unfold ZdM
    simp only [cond_decide']
    rw [if_neg (by omega)]
    rfl
  | succ k ih =>
    intro w l fu hk hl hf
    obtain ⟨fu,rfl⟩ : ∃ x,fu = x + 1:=⟨fu - 1,by omega⟩
    unfold ZdM
    simp only [cond_decide']
    have e:Zhn part (w.length:Int) = some ⟨6,part,(w.length:Int)⟩:=rfl
    rw [if_pos (by omega),e,ZaF,Zpu]
    refine Zbk (fun x a ha h =>?_) (fun o =>rfl)
    obtain ⟨r,rfl,h2⟩:=ZtI h
    simp only [Zal.mk.injEq] at h2
    rw [h2]
    simp only [List.length_cons] at hl
    dsimp only
    rw [Zay (by simp only [List.length_append,List.length_singleton,maxLen]; omega)]
    have e1:ZaD (w.length:Int) 1 = (((w ++ [x.fPeer]).length:Nat):Int):=by
      rw [add1 (n:=w.length + 1) (by omega) (by simp only [maxLen]; omega)]; simp
    have e2:w.length + 1 = (w ++ [x.fPeer]).length:=by simp
    rw [e1,e2]
    exact ih (w ++ [x.fPeer]) r fu (by simp only [List.length_append,List.length_singleton]; omega) (by simp only [List.length_append,List.length_singleton]; omega) (by omega)
theorem ZxQ (part:Int) (l:List Zae) (hl:l.length≤900000):Zih ⟨l⟩ part = runT (Zsh part) l:=by
  unfold Zih
  have e:Zho part = some ⟨5,part,0⟩:=rfl
  rw [e,ZaF,Zpu]
  refine Zbk (fun x a ha h =>?_) (fun o =>rfl)
  obtain ⟨r,rfl,h2⟩:=ZtI h
  simp only [Zal.mk.injEq] at h2
  rw [h2]
  simp only [List.length_cons] at hl
  dsimp only
  have:=Zzh part (if (0:Int) > x.fN then 0 else x.fN) x.fN.toNat [] r ((((if (0:Int) > x.fN then 0 else x.fN)) - (0:Int)).toNat + 2) (by simp only [List.length_nil]; split <;> omega) (by simp only [List.length_nil]; omega) (by split <;> omega)
  exact this
theorem Zuz (part:Int) : ∀ (k i:Nat) (w:List Zaa) (l:List Zae) (x:List Zaa) (g:Zal),runT (ZoK part k i w) l = some (.ret x g)→x.length + g.fgot.length = w.length + l.length
  | 0,i,w,l,x,g,h =>by simp [ZoK,runT] at h; rw [← h.1,← h.2]
  | k + 1,i,w,[],x,g,h =>by simp [ZoK,runT,Zon,Pr.bind] at h
  | k + 1,i,w,v :: l,x,g,h =>by
    have:=Zuz part k (i + 1) (w ++ [v.fPeer]) l x g h
    simp only [List.length_append,List.length_cons,List.length_nil] at this ⊢
    omega
theorem Zxk {part:Int} {l:List Zae} {x:List Zaa} {g:Zal} (h:runT (Zsh part) l = some (.ret x g)):x.length≤l.length:=by
  cases l with
  | nil =>simp [Zsh,runT,Zon,Pr.bind] at h
  | cons v l =>
    have:=Zuz part _ _ _ l x g h
    simp only [List.length_cons,List.length_nil] at this ⊢
    omega
theorem Zuy (part:Int) (Q:Zaa→Prop) : ∀ (k i:Nat) (w:List Zaa) (l:List Zae) (x:List Zaa) (g:Zal),runT (ZoK part k i w) l = some (.ret x g)→(∀ p ∈ w,Q p)→(∀ v ∈ l,Q v.fPeer)→∀ p ∈ x,Q p
  | 0,i,w,l,x,g,h,hw,hl =>by simp [ZoK,runT] at h; rw [← h.1]; exact hw
  | k + 1,i,w,[],x,g,h,hw,hl =>by simp [ZoK,runT,Zon,Pr.bind] at h
  | k + 1,i,w,v :: l,x,g,h,hw,hl =>by
    refine Zuy part Q k (i + 1) (w ++ [v.fPeer]) l x g h (fun p hp =>?_) (fun v' hv =>hl v' (List.mem_cons_of_mem _ hv))
    rcases List.mem_append.1 hp with hp | hp
    · exact hw p hp
    · rw [List.mem_singleton.1 hp]; exact hl v (by simp)
theorem Zxj {part:Int} {Q:Zaa→Prop} {l:List Zae} {x:List Zaa} {g:Zal} (h:runT (Zsh part) l = some (.ret x g)) (hl : ∀ v ∈ l,Q v.fPeer) : ∀ p ∈ x,Q p:=by
  cases l with
  | nil =>simp [Zsh,runT,Zon,Pr.bind] at h
  | cons v l =>exact Zuy part Q _ _ _ l x g h (by simp) fun v' hv =>hl v' (List.mem_cons_of_mem _ hv)
def wrB (was now:List Zaa) (i:Nat):Bool:=decide (was.length≤i) || !decide (was.getD i Zaa.d = now.getD i Zaa.d)
def wrL (was now:List Zaa):List Int:=((List.range now.length).filter (wrB was now)).map fun (i:Nat) =>(i:Int)
theorem ZwQ (was now:List Zaa) (hn:now.length≤1000000):ZgZ was now = some (wrL was now):=by
  have main : ∀ (k i:Nat) (f:Nat),now.length - i = k→i≤now.length→k + 1≤f→ZbV was f now (now.length:Int) i (((List.range i).filter (wrB was now)).map fun (i:Nat) =>(i:Int)) = some (wrL was now):=by
    intro k
    induction k with
    | zero =>
      intro i f hk hi hf
      obtain ⟨f,rfl⟩ : ∃ x,f = x + 1:=⟨f - 1,by omega⟩
      unfold ZbV
      simp only [cond_decide']
      rw [if_neg (by omega)]
      have:i = now.length:=by omega
      rw [this]; rfl
    | succ k ih =>
      intro i f hk hi hf
      obtain ⟨f,rfl⟩ : ∃ x,f = x + 1:=⟨f - 1,by omega⟩
      unfold ZbV
      simp only [cond_decide']
      have e1:ZaD (i:Int) 1 = ((i + 1:Nat):Int):=add1 (n:=i + 1) (by omega) (by simp only [maxLen]; omega)
      have hl:((List.range i).filter (wrB was now)).length≤i:=by
        have:=List.length_filter_le (wrB was now) (List.range i); rw [List.length_range] at this; exact this
      have hlen:((((List.range i).filter (wrB was now)).map fun (i:Nat) =>(i:Int)) ++ [(i:Int)]).length * 8≤140737488355328∧((((List.range i).filter (wrB was now)).map fun (i:Nat) =>(i:Int)) ++ [(i:Int)]).length≤maxLen:=by
        simp only [List.length_append,List.length_singleton,List.length_map,maxLen]; omega
      have hadd:wrB was now i = true→(((List.range i).filter (wrB was now)).map fun (i:Nat) =>(i:Int)) ++ [(i:Int)] = ((List.range (i + 1)).filter (wrB was now)).map fun (i:Nat) =>(i:Int):=fun h =>by
        rw [List.range_succ,List.filter_append,List.map_append,List.filter_cons_of_pos (by rw [h])]; rfl
      have hsame:wrB was now i = false→(((List.range i).filter (wrB was now)).map fun (i:Nat) =>(i:Int)) = ((List.range (i + 1)).filter (wrB was now)).map fun (i:Nat) =>(i:Int):=fun h =>by
        rw [List.range_succ,List.filter_append,List.map_append,List.filter_cons_of_neg (by rw [h]; decide)]; simp
      have ih':=ih (i + 1) f (by omega) (by omega) (by omega)
      rw [if_pos (by omega),Zay (by omega)]
      by_cases h:(i:Int) ≥ (was.length:Int)
      · have hb:wrB was now i = true:=by unfold wrB; rw [decide_eq_true (show was.length≤i by omega)]; rfl
        rw [if_pos h,Zay hlen,e1,hadd hb]
        exact ih'
      · rw [if_neg h,Zay (show 0≤(i:Int)∧(i:Int) < (was.length:Int) by omega)]
        have h0:decide (was.length≤i) = false:=decide_eq_false (by omega)
        by_cases h2:was.getD ((i:Int)).toNat Zaa.d = now.getD ((i:Int)).toNat Zaa.d
        · have hb:wrB was now i = false:=by
            unfold wrB; rw [h0,Bool.false_or]; simp only [Int.toNat_natCast] at h2; rw [decide_eq_true h2]; rfl
          simp only [h2,decide_true,Bool.not_true,cond_false,e1]
          rw [hsame hb]
          exact ih'
        · have hb:wrB was now i = true:=by
            unfold wrB; rw [h0,Bool.false_or]; simp only [Int.toNat_natCast] at h2; rw [decide_eq_false h2]; rfl
          simp only [h2,decide_false,Bool.not_false,cond_true]
          rw [Zay hlen,e1,hadd hb]
          exact ih'
  exact main now.length 0 _ (by omega) (by omega) (by omega)
theorem ZBT {was now:List Zaa} {x:Int} (h:x ∈ wrL was now):0≤x∧x < (now.length:Int):=by
  unfold wrL at h
  obtain ⟨i,h1,rfl⟩:=List.mem_map.1 h
  have:=List.mem_range.1 (List.mem_filter.1 h1).1
  omega
theorem ZBU (was now:List Zaa):(wrL was now).length≤now.length:=by
  unfold wrL
  rw [List.length_map]
  have:=List.length_filter_le (wrB was now) (List.range now.length)
  rw [List.length_range] at this; exact this
def ZqM (part:Int) (now:List Zaa):List Int→Pr Unit
  | [] =>.ret ()
  | i :: r =>(ZmJ ⟨6,part,i⟩ ⟨0,now.getD i.toNat Zaa.d,[],[]⟩ false).bind fun _ =>ZqM part now r
def ZqN (part:Int) (was now:List Zaa):Pr Unit:=(ZqM part now (wrL was now)).bind fun _ =>if was.length = now.length then .ret () else ZmJ ⟨5,part,0⟩ ⟨(now.length:Int),Zom,[],[]⟩ false
theorem ZvF (part:Int) (was now:List Zaa) (l:List Zae) (hn:now.length≤1000000):Zhp ⟨l⟩ part was now = runT (ZqN part was now) l:=by
  unfold Zhp
  rw [ZwQ was now hn,ZaF]
  have hlen:=ZBU was now
  have main : ∀ (k i f:Nat) (l:List Zae),(wrL was now).length - i = k→i≤(wrL was now).length→k + 1≤f→ZcT part was now f (wrL was now) ((wrL was now).length:Int) i ⟨l⟩ = runT ((ZqM part now ((wrL was now).drop i)).bind fun _ =>if was.length = now.length then .ret () else ZmJ ⟨5,part,0⟩ ⟨(now.length:Int),Zom,[],[]⟩ false) l:=by
    intro k
    induction k with
    | zero =>
      intro i f l hk hi hf
      obtain ⟨f,rfl⟩ : ∃ x,f = x + 1:=⟨f - 1,by omega⟩
      unfold ZcT
      simp only [cond_decide']
      rw [if_neg (by omega),List.drop_of_length_le (by omega)]
      have e:Zho part = some ⟨5,part,0⟩:=rfl
      simp only [e,Option.bind_some,ZqM,Pr.bind_ret]
      by_cases hc:was.length = now.length
      · have e2:(((was.length:Nat):Int) != ((now.length:Nat):Int)) = false:=by simp [hc]
        rw [if_pos hc,e2,cond_false]
        rfl
      · have e2:(((was.length:Nat):Int) != ((now.length:Nat):Int)) = true:=by
          rw [bne_iff_ne]; omega
        rw [if_neg hc,e2,cond_true,Znv]
        exact ZmM (p:=ZmJ ⟨5,part,0⟩ ⟨(now.length:Int),Zom,[],[]⟩ false) (fun _ _ =>rfl) (fun _ =>rfl)
    | succ k ih =>
      intro i f l hk hi hf
      obtain ⟨f,rfl⟩ : ∃ x,f = x + 1:=⟨f - 1,by omega⟩
      unfold ZcT
      simp only [cond_decide']
      have e1:ZaD (i:Int) 1 = ((i + 1:Nat):Int):=add1 (n:=i + 1) (by omega) (by simp only [maxLen]; omega)
      have hm:=ZBT (ZlZ (wrL was now) (0:Int) i (by omega))
      have hm' : 0≤(wrL was now).getD ((i:Int)).toNat (0:Int)∧(wrL was now).getD ((i:Int)).toNat (0:Int) < (now.length:Int):=by simpa using hm
      have e : ∀ x,Zhn part x = some ⟨6,part,x⟩:=fun _ =>rfl
      rw [if_pos (by omega),Zay (by omega)]
      simp only [e,Option.bind_some]
      rw [Zay hm',ZjD (wrL was now) (0:Int) i (by omega)]
      simp only [ZqM,Pr.bind_assoc,Int.toNat_natCast,Znv]
      refine Zbk (fun x a ha h =>?_) (fun o =>rfl)
      dsimp only
      rw [e1]
      exact ih (i + 1) f _ (by omega) (by omega) (by omega)
  have:=main (wrL was now).length 0 ((((wrL was now).length:Int) - (0:Int)).toNat + 2) l (by omega) (by omega) (by omega)
  rw [List.drop_zero] at this
  exact this
def Zsl (k by_:Int) (mark:Bool):Nat→Pr Unit
  | 0 =>.no
  | n + 1 =>(Zon ⟨k,0,0⟩).bind fun v =>(ZCI k v.fN (ZaD v.fN by_) mark).bind fun b =>bif b then .ret () else Zsl k by_ mark n
theorem ZwW (k by_:Int) (mark:Bool) : ∀ (f:Nat) (l:List Zae),Zew by_ mark f ⟨l⟩ ⟨k,0,0⟩ = runT (Zsl k by_ mark f) l:=by
  intro f
  induction f with
  | zero =>intro l; rfl
  | succ f ih =>
    intro l
    unfold Zew
    rw [Zpu]
    refine Zbk (fun x a ha h =>?_) (fun o =>rfl)
    dsimp only
    rw [ZBx]
    refine Zbk (fun b a ha h =>?_) (fun o =>rfl)
    dsimp only
    cases b with
    | true =>rfl
    | false =>exact ih _
theorem ZnN (k by_:Int) (mark:Bool) (l:List Zae):Zfx ⟨l⟩ k by_ mark = runT (Zsl k by_ mark 1000000) l:=by
  unfold Zfx
  exact ZwW k by_ mark 1000000 l
end Go.Proofs.YtdjfoojllbfcgaaGreat
namespace Go.Proofs.YtdjfoojllbfcgaaGreat
set_option linter.unusedVariables false
set_option linter.unusedSimpArgs false
def gv (v:Zae):Prop:=v.ok∧v.fBans.length≤5000∧v.fBook.length≤5000
structure Gd (l:List Zae):Prop where
  len:l.length≤400000
  val : ∀ v ∈ l,gv v
theorem Gd.drop {l:List Zae} (h:Gd l) (a:Nat):Gd (l.drop a):=⟨by have:=h.len; simp; omega,fun v hv =>h.val v (List.mem_of_mem_drop hv)⟩
theorem Zzx {c:Zan} {l:List Zae} {x:Zae} {g:Zal} (h:runT (Zon c) l = some (.ret x g)) (hl:Gd l):gv x:=by
  obtain ⟨r,rfl,_⟩:=ZtI h
  exact hl.val x (by simp)
def ZnB (k:Int):Zam:=⟨k,endZ,0,0,[]⟩
def pt (c:Zaz) (x:Zaw):Int:=Zwa x.fEnd.fAddr c.fSecret c.fShards
section
variable {c:Zaz} {x:Zaw} (hx:x.ok)
include hx
theorem pt_le:0≤pt c x∧pt c x≤7:=by
  obtain ⟨_,_,h1,h2⟩:=Ztm x.fEnd.fAddr hx.2.1.1 c.fSecret c.fShards
  have:ZmR c.fShards≤8:=by
    unfold ZmR
    repeat' split
    all_goals omega
  unfold pt
  omega
theorem ZpZ:ZaD 2 (pt c x) = 2 + pt c x:=by
  have:=pt_le (c:=c) hx
  exact ZjY (by omega) (by omega)
theorem Ztw:ZdI ⟨c,x⟩ = some (pt c x):=by
  unfold ZdI
  rw [(Ztm x.fEnd.fAddr hx.2.1.1 c.fSecret c.fShards).1]; rfl
theorem ZkX:Zbi ⟨c,x⟩ = some (2 + pt c x):=by
  unfold Zbi
  rw [Ztw hx,ZaF,ZpZ hx]
end
def Zrk (n:Int) (e:Zaf):Pr (List Zaa × Int):=(keyP 1 (2 + n) false).bind fun _ =>(Zsh n).bind fun l =>.ret (l,Zfh l e)
theorem ZmS {n:Int} {e:Zaf} {l:List Zae} {r:List Zaa × Int} {g:Zal} (h:runT (Zrk n e) l = some (.ret r g)):r.2 = Zfh r.1 e∧r.1.length≤l.length∧∀ Q:Zaa→Prop,(∀ v ∈ l,Q v.fPeer)→∀ p ∈ r.1,Q p:=by
  cases l with
  | nil =>simp [Zrk,keyP,Pr.bind,runT] at h
  | cons v l =>
    have h2:runT ((Zsh n).bind fun w =>Pr.ret (w,Zfh w e)) l = some (.ret r g):=h
    rw [← Zbk (p:=Zsh n) (l:=l) (F:=fun t =>match t with | .ret x g =>runT (Pr.ret (x,Zfh x e)) g.fgot | .pan o =>some (.pan o) | .bad s =>some (.bad s)) (fun _ _ _ _ =>rfl) (fun _ =>rfl)] at h2
    cases hr:runT (Zsh n) l with
    | none =>rw [hr] at h2; cases h2
    | some t =>
      rw [hr] at h2
      cases t with
      | ret w g2 =>
        simp only [Option.bind_some,runT,Option.some.injEq,Tout.ret.injEq] at h2
        obtain ⟨rfl,rfl⟩:=h2
        have:=Zxk hr
        exact ⟨rfl,by simp only [List.length_cons]; omega,fun Q hQ =>Zxj hr fun v' hv =>hQ v' (List.mem_cons_of_mem _ hv)⟩
      | pan o =>simp at h2
      | bad s =>simp at h2
def ZAE (p:Zaa) (now:Int):Zaa:=(ZgN p now).getD p
theorem ZwZ (p:Zaa) (now:Int):ZgN p now = some (ZAE p now)∧ZbT p now = some (ZAE p now):=by
  obtain ⟨q,h1,h2⟩:=ZyO p now
  unfold ZAE; rw [h1,h2]; exact ⟨rfl,rfl⟩
def Zzl (p:Zaa) (ms:Int):Zaa:=(Zij p ms).getD p
theorem Zxn (p:Zaa) (ms:Int):Zij p ms = some (Zzl p ms)∧Zcq p ms = some (Zzl p ms):=by
  obtain ⟨q,h1,h2⟩:=ZCe p ms
  unfold Zzl; rw [h1,h2]; exact ⟨rfl,rfl⟩
def ZuK (n:Int):Pr Zam:=(keyP 3 (2 + n) true).bind fun _ =>.ret (ZnB 6)
def Zwi (n i:Int) (p:Zaa):Pr Unit:=ZmJ ⟨6,n,i⟩ ⟨0,p,[],[]⟩ true
def atP (r:List Zaa × Int):Zaa:=r.1.getD r.2.toNat Zaa.d
def ZCf (n:Int) (x:Zaw):Pr Zam:=(Zrk n x.fEnd).bind fun r =>if r.2 < 0 then ZuK n else
  if x.fKind = 11 then (Zwi n r.2 (Zzl (atP r) x.fNum)).bind fun _ =>(keyP 3 (2 + n) false).bind fun _ =>.ret ⟨0,endZ,(Zzl (atP r) x.fNum).fPing,0,[]⟩
  else (Zwi n r.2 (ZAE (atP r) x.fNow)).bind fun _ =>(keyP 3 (2 + n) false).bind fun _ =>.ret repZ
def ZzY (gone:List Zaf):Pr Unit:=(Zon ⟨4,0,0⟩).bind fun v =>ZmJ ⟨4,0,0⟩ ⟨0,Zom,[],v.fBook.map (Zvn gone)⟩ false
def ZuD (n:Int) (e:Zaf):Pr Zam:=(Zrk n e).bind fun r =>if r.2 < 0 then ZuK n else
  (ZqN n r.1 (ZoF r.1 [e])).bind fun _ =>(if (atP r).fIn = true then Zsl 1 (-1) true 1000000 else (ZzY [e]).bind fun _ =>Zsl 2 (-1) true 1000000).bind fun _ =>
  (keyP 3 (2 + n) false).bind fun _ =>.ret repZ
def Zzy (n:Int) (e:Zaf):Pr Zam:=(Zrk n e).bind fun r =>if r.2 < 0 then ZuK n else
  if (atP r).fIn = true then (ZqN n r.1 (ZoF r.1 [e])).bind fun _ =>(Zsl 1 (-1) true 1000000).bind fun _ =>(keyP 3 (2 + n) false).bind fun _ =>.ret repZ
  else (keyP 3 (2 + n) false).bind fun _ =>(keyP 1 1 false).bind fun _ =>(ZuD n e).bind fun q =>(keyP 3 1 false).bind fun _ =>.ret q
def ZAq (gone:List Zaa):Pr Unit:=if cntP gone false > 0 then (ZzY (Zoy gone)).bind fun _ =>Zsl 2 (-(cntP gone false)) false 1000000 else .ret ()
def ZBq (gone:List Zaa):Pr Unit:=(if cntP gone true > 0 then Zsl 1 (-(cntP gone true)) false 1000000 else .ret ()).bind fun _ =>ZAq gone
def Zuc (n:Int) (l gone:List Zaa):Pr Unit:=(ZqN n l (ZoF l (Zoy gone))).bind fun _ =>ZBq gone
def ZfR (c:Zaz) (x:Zaw):Zab:=⟨ZuZ x.fEnd.fAddr,addT x.fNow c.fBanFor⟩
def Zvz (c:Zaz) (x:Zaw):Pr Int:=(Zon ⟨3,0,0⟩).bind fun v =>if (addB v.fBans (ZfR c x) c.fMaxBans).2 = 0 then
  (ZmJ ⟨3,0,0⟩ ⟨0,Zom,(addB v.fBans (ZfR c x) c.fMaxBans).1,[]⟩ false).bind fun _ =>.ret (ZfR c x).fUntil else .ret 0
def Zrd (n:Int) (c:Zaz) (x:Zaw):Pr (Zam × Bool):=(Zrk n x.fEnd).bind fun r =>if r.2 < 0 then .ret (ZnB 6,true) else
  if Zms (Zio c x (atP r)).fScore c.fLimit = true then (Zvz c x).bind fun u =>(Zuc n r.1 (ofP r.1 (ZfR c x).fNet true)).bind fun _ =>.ret (⟨0,x.fEnd,((ofP r.1 (ZfR c x).fNet true).length:Int),u,[]⟩,true)
  else (Zwi n r.2 (Zio c x (atP r))).bind fun _ =>.ret (⟨0,endZ,ZsA (Zio c x (atP r)).fScore,0,[]⟩,false)
def ZAm (n:Int) (c:Zaz) (x:Zaw):Pr Zam:=(Zrk n x.fEnd).bind fun r =>if r.2 < 0 then ZuK n else
  if Zms (Zio c x (atP r)).fScore c.fLimit = true then (keyP 3 (2 + n) false).bind fun _ =>(keyP 1 0 false).bind fun _ =>(keyP 1 1 false).bind fun _ =>(Zrd n c x).bind fun q =>
    (keyP 3 (2 + n) q.2).bind fun _ =>(keyP 3 1 false).bind fun _ =>(keyP 3 0 false).bind fun _ =>.ret q.1
  else (Zwi n r.2 (Zio c x (atP r))).bind fun _ =>(keyP 3 (2 + n) false).bind fun _ =>.ret ⟨0,endZ,ZsA (Zio c x (atP r)).fScore,0,[]⟩
def Zug:Pr Zam:=(keyP 8 0 true).bind fun _ =>.ret (ZnB 1)
def ZsW (c:Zaz) (x:Zaw):Pr Zam:=if ZjF x = true then (if x.fKind = 2 then Zzy (pt c x) x.fEnd else if x.fKind = 5 then ZAm (pt c x) c x else if x.fKind = 11 ∨ x.fKind = 12 then ZCf (pt c x) x else Zug) else Zug
section
variable {c:Zaz} {x:Zaw} (hx:x.ok) {l:List Zae} (hl:Gd l)
include hx hl
theorem Zpt:Zde ⟨c,x⟩ ⟨l⟩ = runT (Zrk (pt c x) x.fEnd) l:=by
  unfold Zde
  rw [ZkX hx,ZaF,ZqI]
  refine Zbk (fun _ a ha h =>?_) (fun _ =>rfl)
  dsimp only
  have h2:=(hl.drop a).len
  rw [Ztw hx,ZaF,ZxQ _ _ (by omega)]
  refine Zbk (fun w b hb h3 =>?_) (fun _ =>rfl)
  dsimp only
  have:=Zxk h3
  rw [ZxV _ _ (by unfold maxLen; omega)]
  rfl
theorem ZqJ (i:Int) (p:Zaa):ZdJ ⟨c,x⟩ ⟨l⟩ i p = runT (Zwi (pt c x) i p) l:=by
  have _u:=hl
  unfold ZdJ
  rw [Ztw hx,ZaF,Znv]
  exact ZmM (p:=Zwi (pt c x) i p) (fun _ _ =>rfl) (fun _ =>rfl)
theorem ZqH : ((Zbi ⟨c, x⟩).bind fun x2 => (Zbf ⟨l⟩ x2 true).bind fun x3 => (match x3 with
      | .ret x3v x3g =>(ZdR (6:Int)).bind fun x4 =>some (Tout.ret x4 x3g)
      | .pan x3o =>some (Tout.pan x3o)
      | .bad x3s =>some (Tout.bad x3s))) = runT (ZuK (pt c x)) l:=by
  have _u:=hl
  rw [ZkX hx,ZaF,ZhG]
  exact Zbk (fun _ a ha h =>rfl) (fun _ =>rfl)
theorem Zsd (w:List Zaa) (gone:List Zaf) (hw:w.length≤400000) (hg:gone.length≤400000):ZdS ⟨c,x⟩ ⟨l⟩ w gone = runT (ZqN (pt c x) w (ZoF w gone)) l:=by
  have _u:=hl
  unfold ZdS
  have:=ZmN w gone
  rw [Ztw hx,ZaF,ZxZ w gone (by omega) (by unfold maxLen; omega),ZaF,ZvF _ _ _ _ (by omega)]
  exact ZmM (fun _ _ =>rfl) (fun _ =>rfl)
omit hx in
theorem ZvK (gone:List Zaf) (hg:gone.length≤400000):ZhD ⟨l⟩ gone = runT (ZzY gone) l:=by
  unfold ZhD
  rw [Zpu]
  refine Zbk (fun v a ha h =>?_) (fun _ =>rfl)
  dsimp only
  have hv:=Zzx h hl
  rw [ZAl _ _ (by have:=hv.2.2; omega) (by unfold maxLen; omega),ZaF,Znv]
  exact ZmM (p:=ZmJ ⟨4,0,0⟩ ⟨0,Zom,[],v.fBook.map (Zvn gone)⟩ false) (fun _ _ =>rfl) (fun _ =>rfl)
theorem ZxR:ZgB ⟨c,x⟩ ⟨l⟩ = runT (ZCf (pt c x) x) l:=by
  unfold ZgB
  rw [Zpt hx hl]
  refine Zbk (fun r a ha h =>?_) (fun _ =>rfl)
  obtain ⟨h1,h2,_⟩:=ZmS h
  have hlt:=ZiP r.1 x.fEnd
  dsimp only
  rw [cond_decide']
  by_cases h0:r.2 < 0
  · rw [if_pos h0,if_pos h0]
    exact ZqH hx (hl.drop a)
  · rw [if_neg h0,if_neg h0,Zay (by omega),(ZwZ _ _).1,ZaF,ZgU]
    by_cases hk:x.fKind = 11
    · rw [if_pos hk,if_pos hk,(Zxn _ _).1,ZaF,ZqJ hx (hl.drop a)]
      refine Zbk (fun _ b hb _ =>?_) (fun _ =>rfl)
      dsimp only
      rw [ZkX hx,ZaF,ZhG]
      exact Zbk (fun _ _ _ _ =>rfl) (fun _ =>rfl)
    · rw [if_neg hk,if_neg hk,ZqJ hx (hl.drop a)]
      refine Zbk (fun _ b hb _ =>?_) (fun _ =>rfl)
      dsimp only
      rw [ZkX hx,ZaF,ZhG]
      exact Zbk (fun _ _ _ _ =>rfl) (fun _ =>rfl)
theorem ZAA:Zga ⟨c,x⟩ ⟨l⟩ = runT (ZuD (pt c x) x.fEnd) l:=by
  unfold Zga
  rw [Zpt hx hl]
  refine Zbk (fun r a ha h =>?_) (fun _ =>rfl)
  obtain ⟨h1,h2,_⟩:=ZmS h
  have hlt:=ZiP r.1 x.fEnd
  have hlen:=hl.len
  dsimp only
  rw [cond_decide']
  by_cases h0:r.2 < 0
  · rw [if_pos h0,if_pos h0]
    exact ZqH hx (hl.drop a)
  · rw [if_neg h0,if_neg h0,Zsd hx (hl.drop a) _ _ (by omega) (by simp)]
    refine Zbk (fun _ b hb _ =>?_) (fun _ =>rfl)
    dsimp only
    rw [Zay (by omega)]
    have hd:(List.getD r.1 r.2.toNat Zaa.d) = atP r:=rfl
    rw [hd]
    cases hin:(atP r).fIn with
    | true =>
      rw [cond_true,if_pos rfl,ZnN]
      refine Zbk (fun _ d hd _ =>?_) (fun _ =>rfl)
      dsimp only
      rw [ZkX hx,ZaF,ZhG]
      exact Zbk (fun _ _ _ _ =>rfl) (fun _ =>rfl)
    | false =>
      rw [cond_false,if_neg (by decide),Pr.bind_assoc,ZvK ((hl.drop a).drop b) _ (by simp)]
      refine Zbk (fun _ d hd _ =>?_) (fun _ =>rfl)
      dsimp only
      rw [ZnN]
      refine Zbk (fun _ d hd _ =>?_) (fun _ =>rfl)
      dsimp only
      rw [ZkX hx,ZaF,ZhG]
      exact Zbk (fun _ _ _ _ =>rfl) (fun _ =>rfl)
theorem ZAC:Zgb ⟨c,x⟩ ⟨l⟩ = runT (Zzy (pt c x) x.fEnd) l:=by
  unfold Zgb
  rw [Zpt hx hl]
  refine Zbk (fun r a ha h =>?_) (fun _ =>rfl)
  obtain ⟨h1,h2,_⟩:=ZmS h
  have hlt:=ZiP r.1 x.fEnd
  have hlen:=hl.len
  dsimp only
  rw [cond_decide']
  by_cases h0:r.2 < 0
  · rw [if_pos h0,if_pos h0]
    exact ZqH hx (hl.drop a)
  · rw [if_neg h0,if_neg h0,Zay (by omega)]
    have hd:(List.getD r.1 r.2.toNat Zaa.d) = atP r:=rfl
    rw [hd]
    cases hin:(atP r).fIn with
    | true =>
      rw [cond_true,if_pos rfl,Zsd hx (hl.drop a) _ _ (by omega) (by simp)]
      refine Zbk (fun _ d hd _ =>?_) (fun _ =>rfl)
      dsimp only
      rw [ZnN]
      refine Zbk (fun _ d hd _ =>?_) (fun _ =>rfl)
      dsimp only
      rw [ZkX hx,ZaF,ZhG]
      exact Zbk (fun _ _ _ _ =>rfl) (fun _ =>rfl)
    | false =>
      rw [cond_false,if_neg (by decide),ZkX hx,ZaF,ZhG]
      refine Zbk (fun _ b hb _ =>?_) (fun _ =>rfl)
      dsimp only
      rw [ZqI]
      refine Zbk (fun _ d hd _ =>?_) (fun _ =>rfl)
      dsimp only
      rw [ZAA hx (((hl.drop a).drop b).drop d)]
      refine Zbk (fun _ e he _ =>?_) (fun _ =>rfl)
      dsimp only
      rw [ZhG]
      exact Zbk (fun _ _ _ _ =>rfl) (fun _ =>rfl)
end
theorem Zqy {n:Int} (h0:0≤n) (h1:n≤1000000):IntKind.wrap .i64 (0 - n) = -n:=by
  have:=ZlO (a:=0) (b:=n) (by omega) (by omega)
  unfold Zja at this
  omega
theorem Znr (l:List Zaa):(Zoy l).length = l.length:=by simp [Zoy]
theorem ZvM {l:List Zae} (hl:Gd l) (gone:List Zaa) (hg:gone.length≤400000):Zeb gone ⟨l⟩ = runT (ZAq gone) l:=by
  have hc:=Zua gone false
  have he:=Znr gone
  unfold Zeb ZAq
  rw [ZqO _ _ (by unfold maxLen; omega),ZaF,cond_decide']
  by_cases h0:cntP gone false > 0
  · rw [if_pos h0,if_pos h0,ZsV _ (by omega),ZaF,ZvK hl _ (by omega)]
    refine Zbk (fun _ d hd _ =>?_) (fun _ =>rfl)
    dsimp only
    rw [ZnN,Zqy (by omega) (by omega)]
    exact ZmM (fun _ _ =>rfl) (fun _ =>rfl)
  · rw [if_neg h0,if_neg h0]; rfl
section
variable {c:Zaz} {x:Zaw} (hx:x.ok) {l:List Zae} (hl:Gd l)
include hx hl
theorem ZBC (w gone:List Zaa) (hw:w.length≤400000) (hg:gone.length≤400000):ZgD ⟨c,x⟩ ⟨l⟩ w gone = runT (Zuc (pt c x) w gone) l:=by
  have hc:=Zua gone true
  have he:=Znr gone
  unfold ZgD
  rw [ZsV _ (by omega),ZaF,Zsd hx hl _ _ hw (by omega)]
  refine Zbk (fun _ d hd _ =>?_) (fun _ =>rfl)
  dsimp only
  rw [ZqO _ _ (by unfold maxLen; omega),ZaF,cond_decide']
  unfold ZBq
  by_cases h0:cntP gone true > 0
  · rw [if_pos h0,if_pos h0,ZnN,Zqy (by omega) (by omega)]
    refine Zbk (fun _ e he _ =>?_) (fun _ =>rfl)
    dsimp only
    exact ZvM ((hl.drop d).drop e) gone hg
  · rw [if_neg h0,if_neg h0,Pr.bind_ret]
    exact ZvM (hl.drop d) gone hg
omit hx hl in
theorem ZAw (a b:Int):okI .i64 (addT a b):=by
  have:=Zky (fitI a + fitI b)
  unfold addT
  simp only [okI,Lit.wf,IntKind.min,IntKind.max,IntKind.bits,IntKind.signed]
  simp
  omega
omit hx hl in
theorem Zpi (a:Zag) (h:a.ok):(ZuZ a).ok:=by
  unfold ZuZ
  split
  · refine ⟨h,?_,trivial⟩
    have:wid a≤128:=Zui a
    simp only [okI,Lit.wf,IntKind.min,IntKind.max,IntKind.bits,IntKind.signed]
    simp
    omega
  · exact ⟨⟨trivial,rfl,rfl,trivial⟩,rfl,trivial⟩
theorem ZBB:ZgC ⟨c,x⟩ ⟨l⟩ (ZfR c x).fNet = runT (Zvz c x) l:=by
  unfold ZgC
  rw [(ZyU _ _).1,ZaF,Zpu]
  refine Zbk (fun v d hd h =>?_) (fun _ =>rfl)
  dsimp only
  have hv:=Zzx h hl
  have hb:(ZfR c x).ok:=⟨Zpi _ hx.2.1.1,ZAw _ _,trivial⟩
  have e:Zab.mk (ZfR c x).fNet (addT x.fNow c.fBanFor) = ZfR c x:=rfl
  rw [e,ZBp _ _ _ (by have:=hv.2.1; omega) hb,ZaF]
  by_cases h0:(addB v.fBans (ZfR c x) c.fMaxBans).2 = 0
  · have e2:((addB v.fBans (ZfR c x) c.fMaxBans).2 != 0) = false:=by rw [h0]; rfl
    rw [if_pos h0,e2,cond_false,Znv]
    exact Zbk (p:=ZmJ ⟨3,0,0⟩ ⟨0,Zom,(addB v.fBans (ZfR c x) c.fMaxBans).1,[]⟩ false) (fun _ _ _ _ =>rfl) (fun _ =>rfl)
  · have e2:((addB v.fBans (ZfR c x) c.fMaxBans).2 != 0) = true:=by rw [bne_iff_ne]; exact h0
    rw [if_neg h0,e2,cond_true]
    rfl
omit hl in
theorem ZvL (p:Zaa):Zes ⟨c,x⟩ p = some (Zio c x p,Zms (Zio c x p).fScore c.fLimit):=by
  have _u:=hx
  unfold Zes
  have hw:=Ztl c x p
  rw [(Zzn x.fNum).1,ZaF,(Zvx c x p).1,ZaF,(ZpA _ _ hw.1 hw.2).1]
  rfl
theorem ZyJ:Zfz ⟨c,x⟩ ⟨l⟩ = runT (Zrd (pt c x) c x) l:=by
  unfold Zfz
  rw [Zpt hx hl]
  refine Zbk (fun r a ha h =>?_) (fun _ =>rfl)
  obtain ⟨h1,h2,h3⟩:=ZmS h
  have hlt:=ZiP r.1 x.fEnd
  have hlen:=hl.len
  dsimp only
  rw [cond_decide']
  by_cases h0:r.2 < 0
  · rw [if_pos h0,if_pos h0]; rfl
  · rw [if_neg h0,if_neg h0,Zay (by omega),ZvL hx,ZaF]
    have hd:(List.getD r.1 r.2.toNat Zaa.d) = atP r:=rfl
    rw [hd]
    dsimp only
    cases hin:Zms (Zio c x (atP r)).fScore c.fLimit with
    | false =>
      rw [Bool.not_false,cond_true,if_neg (by decide),ZqJ hx (hl.drop a)]
      refine Zbk (fun _ d hd _ =>?_) (fun _ =>rfl)
      dsimp only
      rw [(Znx _).1]; rfl
    | true =>
      have hof:=Zzt r.1 (ZfR c x).fNet true
      have e:Zim x.fEnd.fAddr = some (ZfR c x).fNet:=Zvq _ hx.2.1.1
      rw [Bool.not_true,cond_false,if_pos rfl,e,ZaF,ZBB hx (hl.drop a)]
      refine Zbk (fun u d hd _ =>?_) (fun _ =>rfl)
      dsimp only
      rw [ZvO r.1 (ZfR c x).fNet (Zpi _ hx.2.1.1).1 (by omega) (h3 (fun p =>p.fEnd.fAddr.ok) fun v hv =>(hl.val v hv).1.2.1.1.1),ZaF]
      dsimp only
      rw [ZBC hx ((hl.drop a).drop d) _ _ (by omega) (by omega)]
      exact Zbk (fun _ _ _ _ =>rfl) (fun _ =>rfl)
theorem ZAD:Zgc ⟨c,x⟩ ⟨l⟩ = runT (ZAm (pt c x) c x) l:=by
  unfold Zgc
  rw [Zpt hx hl]
  refine Zbk (fun r a ha h =>?_) (fun _ =>rfl)
  obtain ⟨h1,h2,h3⟩:=ZmS h
  have hlt:=ZiP r.1 x.fEnd
  have hlen:=hl.len
  dsimp only
  rw [cond_decide']
  by_cases h0:r.2 < 0
  · rw [if_pos h0,if_pos h0]
    exact ZqH hx (hl.drop a)
  · rw [if_neg h0,if_neg h0,Zay (by omega),ZvL hx,ZaF]
    have hd:(List.getD r.1 r.2.toNat Zaa.d) = atP r:=rfl
    rw [hd]
    dsimp only
    cases hin:Zms (Zio c x (atP r)).fScore c.fLimit with
    | false =>
      rw [Bool.not_false,cond_true,if_neg (by decide),ZqJ hx (hl.drop a)]
      refine Zbk (fun _ d hd _ =>?_) (fun _ =>rfl)
      dsimp only
      rw [ZkX hx,ZaF,ZhG]
      refine Zbk (fun _ d hd _ =>?_) (fun _ =>rfl)
      dsimp only
      rw [(Znx _).1]; rfl
    | true =>
      rw [Bool.not_true,cond_false,if_pos rfl,ZkX hx,ZaF,ZhG]
      refine Zbk (fun _ b hb _ =>?_) (fun _ =>rfl)
      dsimp only
      rw [ZqI]
      refine Zbk (fun _ d hd _ =>?_) (fun _ =>rfl)
      dsimp only
      rw [ZqI]
      refine Zbk (fun _ e he _ =>?_) (fun _ =>rfl)
      dsimp only
      rw [ZyJ hx ((((hl.drop a).drop b).drop d).drop e)]
      refine Zbk (fun q _ _ _ =>?_) (fun _ =>rfl)
      dsimp only
      rw [ZhG]
      refine Zbk (fun _ _ _ _ =>?_) (fun _ =>rfl)
      dsimp only
      rw [ZhG]
      refine Zbk (fun _ _ _ _ =>?_) (fun _ =>rfl)
      dsimp only
      rw [ZhG]
      exact Zbk (fun _ _ _ _ =>rfl) (fun _ =>rfl)
omit hx hl in
theorem ZvD (l:List Zae):ZfZ ⟨c,x⟩ ⟨l⟩ = runT Zug l:=by
  unfold ZfZ
  rw [ZBz]
  exact Zbk (fun _ _ _ _ =>rfl) (fun _ =>rfl)
theorem ZBA:Zht c x l = (runT (ZsW c x) l).map Zre:=by
  unfold Zht ZkP ZsW
  rw [ZyE x hx,ZaF]
  have fin : ∀ t:Option ZaM,(t.bind fun y =>some y) = t:=fun t =>by cases t <;> rfl
  cases ZjF x with
  | false =>
    simp only [Bool.not_false,cond_true,ZaF,fin,Bool.false_eq_true,if_false]
    unfold Zjm
    rw [ZvD]
  | true =>
    simp only [Bool.not_true,cond_false,if_true,ZgU]
    by_cases h2:x.fKind = 2
    · simp only [if_pos h2,ZaF,fin]
      unfold ZkZ
      rw [ZAC hx hl]
    · by_cases h5:x.fKind = 5
      · simp only [if_neg h2,if_pos h5,ZaF,fin]
        unfold ZkY
        rw [ZAD hx hl]
      · by_cases h11:x.fKind = 11
        · simp only [if_neg h2,if_neg h5,if_pos h11,ZaF,fin,if_pos (Or.inl h11)]
          unfold Zjl
          rw [ZxR hx hl]
          all_goals simp [h11]
        · by_cases h12:x.fKind = 12
          · simp only [if_neg h2,if_neg h5,if_neg h11,if_pos h12,ZaF,fin]
            unfold Zjl
            rw [ZxR hx hl]
            all_goals simp [h12]
          · simp only [if_neg h2,if_neg h5,if_neg h11,if_neg h12,ZaF,fin]
            unfold Zjm
            rw [ZvD]
            all_goals simp [h11,h12]
end
end Go.Proofs.YtdjfoojllbfcgaaGreat
namespace Go.Proofs.YtdjfoojllbfcgaaGreat
set_option linter.unusedVariables false
set_option linter.unusedSimpArgs false
theorem Wlk.ret {α β:Type} {got:List Zae} {a:Nat} (ha:a≤got.length) {P:α→β→Prop} {W:β→Prop} {x:α} {b:β} (h:P x b):Wlk got a P W (.ret x) (some (wk got a,b)) :=
  .inl ⟨x,b,a,rfl,rfl,Nat.le_refl _,ha,h⟩
theorem Wlk.mono {α β:Type} {got:List Zae} {a:Nat} {P P' : α→β→Prop} {W W' : β→Prop} {p:Pr α} {r:Option (Zad × β)} (h:Wlk got a P W p r) (h1 : ∀ x b,P x b→P' x b) (h2 : ∀ b,W b→W' b):Wlk got a P' W' p r:=by
  rcases h with ⟨v,b,a',e1,e2,e3,e4,e5⟩ | ⟨q,b,e1,e2,e3,e4⟩
  · exact .inl ⟨v,b,a',e1,e2,e3,e4,h1 _ _ e5⟩
  · exact .inr ⟨q,b,e1,e2,e3,h2 _ e4⟩
theorem Wlk.seqP {α β γ δ : Type} {got : List Zae} {a : Nat} {P : α → β → Prop} {W : β → Prop} {p : Pr α} {r : Option (Zad × β)} (h : Wlk got a P W p r) {f : α → Pr γ} {P' : γ → δ → Prop} {W' : δ → Prop} {K : Zad × β → Option (Zad × δ)}
    (h1 : ∀ x b a',a≤a'→a'≤got.length→P x b→Wlk got a' P' W' (f x) (K (wk got a',b))) (h2 : ∀ q b,W b→∃ d,K (wt got q,b) = some (wt got q,d)∧W' d):Wlk got a P' W' (p.bind f) (r.bind K):=by
  have:=Wlk.seq h (f:=f) (K:=fun w b =>K (w,b)) h1 h2
  cases r with
  | none =>exact this
  | some x =>exact this
theorem Wlk.seqU {α γ δ : Type} {got : List Zae} {a : Nat} {P : α → Unit → Prop} {W : Unit → Prop} {p : Pr α} {r : Option Zad} (h : Wlk got a P W p (r.map fun w => (w, ()))) {f : α → Pr γ} {P' : γ → δ → Prop} {W' : δ → Prop} {K : Zad → Option (Zad × δ)}
    (h1 : ∀ x a',a≤a'→a'≤got.length→P x ()→Wlk got a' P' W' (f x) (K (wk got a'))) (h2 : ∀ q,∃ d,K (wt got q) = some (wt got q,d)∧W' d):Wlk got a P' W' (p.bind f) (r.bind K):=by
  have:=Wlk.seq h (f:=f) (K:=fun w _ =>K w) (fun x b =>h1 x) (fun q b _ =>h2 q)
  cases r with
  | none =>exact this
  | some x =>exact this
theorem Wlk.seqUU {α γ : Type} {got : List Zae} {a : Nat} {P : α → Unit → Prop} {W : Unit → Prop} {p : Pr α} {r : Option Zad} (h : Wlk got a P W p (r.map fun w => (w, ()))) {f : α → Pr γ} {P' : γ → Unit → Prop} {W' : Unit → Prop} {K : Zad → Option Zad}
    (h1 : ∀ x a',a≤a'→a'≤got.length→P x ()→Wlk got a' P' W' (f x) ((K (wk got a')).map fun w =>(w,()))) (h2 : ∀ q,K (wt got q) = some (wt got q)) (hW:W' ()):Wlk got a P' W' (p.bind f) ((r.bind K).map fun w =>(w,())):=by
  have:=Wlk.seqU h (f:=f) (K:=fun w =>(K w).map fun w =>(w,())) h1 (fun q =>⟨(),by rw [h2 q]; rfl,hW⟩)
  cases r with
  | none =>exact this
  | some x =>exact this
theorem Wlk.seqPU {α β γ : Type} {got : List Zae} {a : Nat} {P : α → β → Prop} {W : β → Prop} {p : Pr α} {r : Option (Zad × β)} (h : Wlk got a P W p r) {f : α → Pr γ} {P' : γ → Unit → Prop} {W' : Unit → Prop} {K : Zad × β → Option Zad}
    (h1 : ∀ x b a',a≤a'→a'≤got.length→P x b→Wlk got a' P' W' (f x) ((K (wk got a',b)).map fun w =>(w,()))) (h2 : ∀ q b,W b→K (wt got q,b) = some (wt got q)) (hW:W' ()):Wlk got a P' W' (p.bind f) ((r.bind K).map fun w =>(w,())):=by
  have:=Wlk.seqP h (f:=f) (K:=fun w =>(K w).map fun w =>(w,())) h1 (fun q b hb =>⟨(),by rw [h2 q b hb]; rfl,hW⟩)
  cases r with
  | none =>exact this
  | some x =>exact this
theorem ZqG {α:Type} (r:Option α):(r.bind fun x =>some x) = r:=by cases r <;> rfl
section
variable {got:List Zae} (hL:got.length≤900000) {a:Nat} (ha:a≤got.length)
include hL ha
theorem ZCE (o:Zao) (ho:okV o.fVal):Wlk got a (fun x b =>x = b∧x ∈ got) (fun b =>b = valZ) (.ask o .ret) (Zck (wk got a) o):=by
  unfold Wlk
  rw [ZmO _ _ _ (by omega) ha]
  by_cases h:a < got.length
  · rw [if_pos h,ZjD got Zae.d a h]
    exact .inl ⟨_,_,a + 1,rfl,rfl,by omega,h,rfl,ZlZ got Zae.d a h⟩
  · rw [if_neg h,List.drop_eq_nil_of_le (by omega)]
    exact .inr ⟨_,_,rfl,rfl,Zxs ho,rfl⟩
theorem ZBR (c:Zan):Wlk got a (fun x b =>x = b∧x ∈ got) (fun b =>b = valZ) (Zon c) (Zbq (wk got a) c):=by
  unfold Zbq
  have:=ZCE hL ha ⟨5,0,c,0,0,valZ,false⟩ Zwg
  have e : ∀ r:Option (Zad × Zae),(r.bind fun x =>some (x.1,x.2)) = r:=fun r =>by cases r <;> rfl
  exact (e _).symm ▸ this
theorem Zqq (k lock:Int) (mark:Bool):Wlk got a anyP anyW (keyP k lock mark) ((Zar (wk got a) k lock mark).map fun w =>(w,())):=by
  unfold Zar
  exact Wlk.seqPU (p:=.ask ⟨k,lock,locZ,0,0,valZ,mark⟩ .ret) (ZCE hL ha ⟨k,lock,locZ,0,0,valZ,mark⟩ Zwg) (f:=fun _ =>.ret ()) (fun x b a' h1 h2 h3 =>Wlk.ret h2 trivial) (fun q b _ =>rfl) trivial
theorem ZpX (c:Zan) (v:Zae) (mark:Bool) (hv:okV v):Wlk got a anyP anyW (ZmJ c v mark) ((ZaB (wk got a) c v mark).map fun w =>(w,())):=by
  unfold ZaB
  exact Wlk.seqPU (p:=.ask ⟨6,0,c,0,0,v,mark⟩ .ret) (ZCE hL ha ⟨6,0,c,0,0,v,mark⟩ hv) (f:=fun _ =>.ret ()) (fun x b a' h1 h2 h3 =>Wlk.ret h2 trivial) (fun q b _ =>rfl) trivial
theorem ZCY (n:Int):Wlk got a (fun x b =>x = b∧x.length≤got.length∧∀ Q:Zaa→Prop,(∀ v ∈ got,Q v.fPeer)→∀ p ∈ x,Q p) (fun b =>b.length≤got.length + 1) (Zsh n) (ZcW (wk got a) n):=by
  have h:=ZCC hL ha n
  rw [ZxQ n (got.drop a) (by simp; omega)] at h
  rcases h with ⟨v,b,a',e1,e2,e3,e4,e5⟩ | ⟨q,b,e1,e2,e3,e4⟩
  · exact .inl ⟨v,b,a',e1,e2,e3,e4,e5.1,e5.2,fun Q hQ =>Zxj e1 fun v hv =>hQ v (List.mem_of_mem_drop hv)⟩
  · exact .inr ⟨q,b,e1,e2,e3,e4⟩
theorem ZwS (n:Int) (was now:List Zaa) (hn:now.length≤1000000):Wlk got a anyP anyW (ZqN n was now) ((Zbr (wk got a) n was now).map fun w =>(w,())):=by
  have h:=ZBw (by omega) ha n was now hn
  rw [ZvF n was now (got.drop a) hn] at h
  exact h
theorem ZvH (k b:Int) (mark:Bool):Wlk got a anyP anyW (Zsl k b mark 1000000) ((ZbK (wk got a) k b mark).map fun w =>(w,())):=by
  have h:=ZCD hL ha k b mark
  rw [ZnN k b mark (got.drop a)] at h
  exact h
end
end Go.Proofs.YtdjfoojllbfcgaaGreat
namespace Go.Proofs.YtdjfoojllbfcgaaGreat
set_option linter.unusedVariables false
set_option linter.unusedSimpArgs false
section
variable {got:List Zae} (hG:Gd got) {a:Nat} (ha:a≤got.length)
include hG ha
def opnd (got:List Zae) (e:Zaf) (r:List Zaa × Int) (b:List Zaa):Prop:=r = (b,Zfh b e)∧b.length≤got.length∧∀ Q:Zaa→Prop,(∀ v ∈ got,Q v.fPeer)→∀ p ∈ b,Q p
theorem ZvY (n:Int) (e:Zaf) (hn:ZaD 2 n = 2 + n):Wlk got a (opnd got e) anyW (Zrk n e) (Zbp (wk got a) n):=by
  have hL:=hG.len
  unfold Zbp Zrk
  rw [hn]
  refine Wlk.seqU (Zqq (by omega) ha 1 (2 + n) false) (fun _ a' h1 h2 _ =>?_) (fun q =>?_)
  · refine Wlk.seqP (ZCY (by omega) h2 n) (fun x b a'' h3 h4 h5 =>?_) (fun q b _ =>⟨_,rfl,trivial⟩)
    obtain ⟨rfl,h6,h7⟩:=h5
    exact Wlk.ret h4 ⟨rfl,h6,h7⟩
  · rw [ZvG]
    exact ⟨_,rfl,trivial⟩
omit hG ha in
theorem Zlp (q:Zao) (n:Int):Zbp (wt got q) n = some (wt got q,[]):=by
  unfold Zbp
  rw [ZcM,ZaF,ZvG]; rfl
theorem Zzj (gone:List Zaf) (hg:gone.length≤400000):Wlk got a anyP anyW (ZzY gone) ((ZcV (wk got a) gone).map fun w =>(w,())):=by
  have hL:=hG.len
  unfold ZcV ZzY
  refine Wlk.seqPU (ZBR (by omega) ha _) (fun x b a' h1 h2 h3 =>?_) (fun q b hb =>?_) trivial
  · obtain ⟨rfl,h3⟩:=h3
    have hv:=hG.val _ h3
    dsimp only
    rw [Ztt _ _ (by have:=hv.2.2; omega) (by unfold maxLen; omega),ZaF,ZqG]
    exact ZpX (by omega) h2 _ _ _ ⟨by simp,by have:=hv.2.2; simp; omega⟩
  · subst hb
    dsimp only
    rw [Ztt _ _ (by simp [valZ]) (by unfold maxLen; omega),ZaF,Zji]; rfl
omit hG ha in
theorem ZsH (q:Zao) (gone:List Zaf) (hg:gone.length≤400000):ZcV (wt got q) gone = some (wt got q):=by
  unfold ZcV
  rw [ZvI,ZaF]
  dsimp only
  rw [Ztt _ _ (by simp [valZ]) (by unfold maxLen; omega),ZaF,Zji]; rfl
theorem Zxl (gone:List Zaa) (hg:gone.length≤400000) (b4:Zad):Wlk got a anyP anyW (ZAq gone) ((Zct gone (cntP gone false) (wk got a) b4).map fun w =>(w,())):=by
  have hL:=hG.len
  have hc:=Zua gone false
  have he:=Znr gone
  unfold Zct ZAq
  rw [cond_decide']
  by_cases h0:cntP gone false > 0
  · rw [if_pos h0,if_pos h0,ZnC _ (by omega),ZaF]
    refine Wlk.seqUU (Zzj hG ha _ (by omega)) (fun _ a' h1 h2 _ =>?_) (fun q =>?_) trivial
    · rw [ZqG,Zqy (by omega) (by omega)]
      exact ZvH (by omega) h2 _ _ _
    · rw [ZqG,ZkD]
  · rw [if_neg h0,if_neg h0]
    exact Wlk.ret ha trivial
omit hG ha in
theorem ZqY (q:Zao) (gone:List Zaa) (hg:gone.length≤400000) (n:Int) (b4:Zad):Zct gone n (wt got q) b4 = some (wt got q):=by
  have he:=Znr gone
  unfold Zct
  rw [cond_decide',ZnC _ (by omega),ZaF,ZsH q _ (by omega),ZaF,ZqG,ZkD]
  split <;> rfl
theorem ZCd (gone:List Zaa) (hg:gone.length≤400000):Wlk got a anyP anyW (ZBq gone) ((Zcp (wk got a) gone).map fun w =>(w,())):=by
  have hL:=hG.len
  have hc:=Zua gone true
  unfold Zcp ZBq
  rw [ZlR _ _ (by unfold maxLen; omega),ZaF,ZlR _ _ (by unfold maxLen; omega),ZaF,cond_decide']
  by_cases h0:cntP gone true > 0
  · rw [if_pos h0,if_pos h0,Zqy (by omega) (by omega)]
    refine Wlk.seqUU (ZvH (by omega) ha _ _ _) (fun _ a' h1 h2 _ =>?_) (fun q =>?_) trivial
    · exact Zxl hG h2 gone hg _
    · exact ZqY q gone hg _ _
  · rw [if_neg h0,if_neg h0,Pr.bind_ret]
    exact Zxl hG ha gone hg _
omit hG ha in
theorem ZsI (q:Zao) (gone:List Zaa) (hg:gone.length≤400000):Zcp (wt got q) gone = some (wt got q):=by
  unfold Zcp
  rw [ZlR _ _ (by unfold maxLen; omega),ZaF,ZlR _ _ (by unfold maxLen; omega),ZaF,cond_decide',ZkD,ZaF,ZqY q gone hg]
  split <;> rfl
end
theorem ZAQ {c:Zaz} {x:Zaw} (hx:x.ok):ZcF c x = some (pt c x):=by
  unfold ZcF
  rw [(Ztm x.fEnd.fAddr hx.2.1.1 c.fSecret c.fShards).2.1]; rfl
section
variable {c:Zaz} {x:Zaw} (hx:x.ok) {got:List Zae} (hG:Gd got) {a:Nat} (ha:a≤got.length)
include hx hG ha
theorem Zjk (k l:Int) (m:Bool) (v:Zam):Wlk got a eqP anyW ((keyP k l m).bind fun _ =>.ret v) ((Zar (wk got a) k l m).bind fun y =>some (y,v)):=by
  have _u:=hx
  have hL:=hG.len
  exact Wlk.seqU (Zqq (by omega) ha k l m) (fun _ a' h1 h2 _ =>Wlk.ret h2 rfl) (fun q =>⟨_,rfl,trivial⟩)
theorem ZAV (r : List Zaa) (hr : r.length ≤ got.length) (h0 : 0 ≤ Zfh r x.fEnd) : Wlk got a eqP anyW
    (if (atP (r,Zfh r x.fEnd)).fIn = true then (ZqN (pt c x) r (ZoF r [x.fEnd])).bind fun _ =>(Zsl 1 (-1) true 1000000).bind fun _ =>(keyP 3 (2 + pt c x) false).bind fun _ =>.ret repZ
      else (keyP 3 (2 + pt c x) false).bind fun _ =>(keyP 1 1 false).bind fun _ =>(ZuD (pt c x) x.fEnd).bind fun q =>(keyP 3 1 false).bind fun _ =>.ret q)
    (Zcv x (wk got a) (pt c x) r (Zfh r x.fEnd)):=by
  have hL:=hG.len
  have hlt:=ZiP r x.fEnd
  unfold Zcv
  have hd:(List.getD r (Zfh r x.fEnd).toNat Zaa.d) = atP (r,Zfh r x.fEnd):=rfl
  rw [Zay (by omega),hd,ZpZ hx]
  have hrest:=ZmN r [x.fEnd]
  cases hin:(atP (r,Zfh r x.fEnd)).fIn with
  | true =>
    rw [cond_true,if_pos rfl,Zqu r [x.fEnd] (by omega) (by unfold maxLen; simp),ZaF]
    refine Wlk.seqU (ZwS (by omega) ha _ _ _ (by omega)) (fun _ a' h1 h2 _ =>?_) (fun q =>?_)
    · refine Wlk.seqU (ZvH (by omega) h2 _ _ _) (fun _ a'' h3 h4 _ =>?_) (fun q =>?_)
      · exact Zjk hx hG h4 _ _ _ _
      · rw [ZcM]; exact ⟨_,rfl,trivial⟩
    · rw [ZkD,ZaF,ZcM]; exact ⟨_,rfl,trivial⟩
  | false =>
    rw [cond_false,if_neg (by decide)]
    refine Wlk.seqU (Zqq (by omega) ha _ _ _) (fun _ a1 h1 h2 _ =>?_) (fun q =>?_)
    rotate_left
    · rw [ZcM,ZaF,Zlp]; exact ⟨_,rfl,trivial⟩
    refine Wlk.seqU (Zqq (by omega) h2 _ _ _) (fun _ a2 h3 h4 _ =>?_) (fun q =>?_)
    rotate_left
    · rw [Zlp]; exact ⟨_,rfl,trivial⟩
    unfold ZuD
    rw [Pr.bind_assoc]
    refine Wlk.seqP (ZvY hG h4 _ x.fEnd (ZpZ hx)) (fun q b a3 h5 h6 hq =>?_) (fun q b _ =>⟨_,rfl,trivial⟩)
    obtain ⟨rfl,h7,h8⟩:=hq
    have hlt2:=ZiP b x.fEnd
    have hrest2:=ZmN b [x.fEnd]
    simp only [Zkf,cond_false]
    rw [Zjr _ _ (by unfold maxLen; omega),ZaF,cond_decide']
    by_cases hk:Zfh b x.fEnd < 0
    · rw [if_pos hk,if_pos hk]
      unfold ZuK
      rw [Pr.bind_assoc]
      refine Wlk.seqU (Zqq (by omega) h6 _ _ _) (fun _ a4 h9 h10 _ =>?_) (fun q =>?_)
      · exact Zjk hx hG h10 _ _ _ _
      · rw [ZcM]; exact ⟨_,rfl,trivial⟩
    · rw [if_neg hk,if_neg hk,Zqu b [x.fEnd] (by omega) (by unfold maxLen; simp),ZaF,Pr.bind_assoc]
      have hd2:(List.getD b (Zfh b x.fEnd).toNat Zaa.d) = atP (b,Zfh b x.fEnd):=rfl
      refine Wlk.seqU (ZwS (by omega) h6 _ _ _ (by omega)) (fun _ a4 h9 h10 _ =>?_) (fun q =>?_)
      · rw [Zay (by omega),hd2,Pr.bind_assoc]
        cases hin2:(atP (b,Zfh b x.fEnd)).fIn with
        | true =>
          rw [cond_true,if_pos rfl]
          refine Wlk.seqU (ZvH (by omega) h10 _ _ _) (fun _ a5 h11 h12 _ =>?_) (fun q =>?_)
          · rw [Pr.bind_assoc]
            refine Wlk.seqU (Zqq (by omega) h12 _ _ _) (fun _ a6 h13 h14 _ =>?_) (fun q =>?_)
            · exact Zjk hx hG h14 _ _ _ _
            · rw [ZcM]; exact ⟨_,rfl,trivial⟩
          · rw [ZcM,ZaF,ZcM]; exact ⟨_,rfl,trivial⟩
        | false =>
          rw [cond_false,if_neg (by decide),Pr.bind_assoc]
          refine Wlk.seqU (Zzj hG h10 _ (by simp)) (fun _ a5 h11 h12 _ =>?_) (fun q =>?_)
          · refine Wlk.seqU (ZvH (by omega) h12 _ _ _) (fun _ a6 h13 h14 _ =>?_) (fun q =>?_)
            · rw [Pr.bind_assoc]
              refine Wlk.seqU (Zqq (by omega) h14 _ _ _) (fun _ a7 h15 h16 _ =>?_) (fun q =>?_)
              · exact Zjk hx hG h16 _ _ _ _
              · rw [ZcM]; exact ⟨_,rfl,trivial⟩
            · rw [ZcM,ZaF,ZcM]; exact ⟨_,rfl,trivial⟩
          · rw [ZkD,ZaF,ZcM,ZaF,ZcM]; exact ⟨_,rfl,trivial⟩
      · rw [Zay (by omega),ZsH q _ (by simp),ZaF,ZkD,ZkD,ZaF,ZcM,ZaF,ZcM]
        cases (List.getD b (Zfh b x.fEnd).toNat Zaa.d).fIn <;> exact ⟨_,rfl,trivial⟩
theorem Zzi (r : List Zaa) (hr : r.length ≤ got.length) (hok : ∀ p ∈ r, p.fEnd.fAddr.ok) : Wlk got a eqP anyW
    ((Zvz c x).bind fun u =>(Zuc (pt c x) r (ofP r (ZfR c x).fNet true)).bind fun _ =>.ret (⟨0,x.fEnd,((ofP r (ZfR c x).fNet true).length:Int),u,[]⟩ : Zam))
    (ZeB c x (wk got a) (pt c x) r):=by
  have hL:=hG.len
  have hof:=Zzt r (ZfR c x).fNet true
  have hrest:=ZmN r (Zoy (ofP r (ZfR c x).fNet true))
  have hel:=Znr (ofP r (ZfR c x).fNet true)
  have hb:(ZfR c x).ok:=⟨Zpi _ hx.2.1.1,ZAw _ _,trivial⟩
  have e1:ZdF x.fEnd.fAddr = some (ZfR c x).fNet:=Zxg _ hx.2.1.1
  have e2:ZeL x.fNow c.fBanFor = some (ZfR c x).fUntil:=(ZyU _ _).2
  have e3:Zab.mk (ZfR c x).fNet (ZfR c x).fUntil = ZfR c x:=rfl
  unfold ZeB Zvz
  rw [e1,ZaF,e2,ZaF,Pr.bind_assoc]
  have tail : ∀ (a' : Nat), a' ≤ got.length → ∀ u : Int, Wlk got a' eqP anyW ((Zuc (pt c x) r (ofP r (ZfR c x).fNet true)).bind fun _ => .ret (⟨0, x.fEnd, ((ofP r (ZfR c x).fNet true).length : Int), u, []⟩ : Zam))
      ((ZdK r (ZfR c x).fNet true).bind fun x6 =>(ZcG x6).bind fun x7 =>(ZbX r x7).bind fun x8 =>(Zbr (wk got a') (pt c x) r x8).bind fun x9 =>(Zcp x9 x6).bind fun x10 =>
        some (x10,(Zam.mk (0:Int) x.fEnd ((x6.length:Nat):Int) u ([]:(List Zaa))))):=by
    intro a' h2 u
    rw [Zxi r (ZfR c x).fNet true (Zpi _ hx.2.1.1).1 (by omega) hok,ZaF,ZnC _ (by omega),ZaF,Zqu r _ (by omega) (by unfold maxLen; omega),ZaF]
    unfold Zuc
    rw [Pr.bind_assoc]
    refine Wlk.seqU (ZwS (by omega) h2 _ _ _ (by omega)) (fun _ a1 h3 h4 _ =>?_) (fun q =>?_)
    · exact Wlk.seqU (ZCd hG h4 _ (by omega)) (fun _ a2 h5 h6 _ =>Wlk.ret h6 rfl) (fun q =>⟨_,rfl,trivial⟩)
    · rw [ZsI q _ (by omega)]; exact ⟨_,rfl,trivial⟩
  have tailw : ∀ (q : Zao) (u : Int), ((ZdK r (ZfR c x).fNet true).bind fun x6 => (ZcG x6).bind fun x7 => (ZbX r x7).bind fun x8 => (Zbr (wt got q) (pt c x) r x8).bind fun x9 => (Zcp x9 x6).bind fun x10 =>
        some (x10,(Zam.mk (0:Int) x.fEnd ((x6.length:Nat):Int) u ([]:(List Zaa))))) = some (wt got q,⟨0,x.fEnd,((ofP r (ZfR c x).fNet true).length:Int),u,[]⟩):=by
    intro q u
    rw [Zxi r (ZfR c x).fNet true (Zpi _ hx.2.1.1).1 (by omega) hok,ZaF,ZnC _ (by omega),ZaF,Zqu r _ (by omega) (by unfold maxLen; omega),ZaF,ZyI got q _ _ _ (by omega),ZaF,ZsI q _ (by omega)]
    rfl
  refine Wlk.seqP (ZBR (by omega) ha _) (fun v b a1 h1 h2 h3 =>?_) (fun q b hbz =>?_)
  · obtain ⟨rfl,h3⟩:=h3
    have hv:=hG.val _ h3
    have hal:=ZBv v.fBans (ZfR c x) c.fMaxBans
    dsimp only
    rw [e3,Zxh _ _ _ (by have:=hv.2.1; omega) hb,ZaF,ZgU]
    by_cases hz:(addB v.fBans (ZfR c x) c.fMaxBans).2 = 0
    · rw [if_pos hz,if_pos hz,Pr.bind_assoc]
      refine Wlk.seqU (ZpX (by omega) h2 _ _ _ ⟨by have:=hv.2.1; show (addB v.fBans (ZfR c x) c.fMaxBans).1.length≤_; omega,Nat.zero_le _⟩) (fun _ a2 h4 h5 _ =>?_) (fun q =>?_)
      · exact tail a2 h5 _
      · exact ⟨_,tailw q _,trivial⟩
    · rw [if_neg hz,if_neg hz,Pr.bind_ret]
      exact tail a1 h2 0
  · subst hbz
    dsimp only
    rw [e3,Zxh _ _ _ (by simp [valZ]) hb,ZaF,ZgU,Zji]
    split
    · exact ⟨_,tailw q _,trivial⟩
    · exact ⟨_,tailw q _,trivial⟩
omit hG ha in
theorem Zuv (p:Zaa):Zec c x p = some (Zio c x p):=by
  have _u:=hx
  unfold Zec
  rw [(Zzn x.fNum).2.1,ZaF,(Zvx c x p).2]; rfl
theorem ZAW (r : List Zaa) (hr : r.length ≤ got.length) (h0 : 0 ≤ Zfh r x.fEnd) : Wlk got a eqP anyW
    (if Zms (Zio c x (atP (r, Zfh r x.fEnd))).fScore c.fLimit = true then (keyP 3 (2 + pt c x) false).bind fun _ => (keyP 1 0 false).bind fun _ => (keyP 1 1 false).bind fun _ => (Zrd (pt c x) c x).bind fun q =>
        (keyP 3 (2 + pt c x) q.2).bind fun _ =>(keyP 3 1 false).bind fun _ =>(keyP 3 0 false).bind fun _ =>.ret q.1
      else (Zwi (pt c x) (Zfh r x.fEnd) (Zio c x (atP (r,Zfh r x.fEnd)))).bind fun _ =>(keyP 3 (2 + pt c x) false).bind fun _ =>.ret ⟨0,endZ,ZsA (Zio c x (atP (r,Zfh r x.fEnd))).fScore,0,[]⟩)
    (Zcw c x (wk got a) (pt c x) (atP (r,Zfh r x.fEnd)) (Zfh r x.fEnd)):=by
  have hL:=hG.len
  have hlt:=ZiP r x.fEnd
  have hw:=Ztl c x (atP (r,Zfh r x.fEnd))
  unfold Zcw
  rw [Zuv hx,ZaF,(ZpA _ _ hw.1 hw.2).2,ZaF,ZpZ hx]
  have keys : ∀ (a' : Nat), a' ≤ got.length → ∀ (m : Bool) (v : Zam), Wlk got a' eqP anyW ((keyP 3 (2 + pt c x) m).bind fun _ => (keyP 3 1 false).bind fun _ => (keyP 3 0 false).bind fun _ => .ret v)
      ((Zar (wk got a') 3 (2 + pt c x) m).bind fun x14 =>(Zar x14 3 1 false).bind fun x15 =>(Zar x15 3 0 false).bind fun x16 =>some (x16,v)):=by
    intro a' h2 m v
    refine Wlk.seqU (Zqq (by omega) h2 _ _ _) (fun _ a1 h3 h4 _ =>?_) (fun q =>?_)
    · refine Wlk.seqU (Zqq (by omega) h4 _ _ _) (fun _ a2 h5 h6 _ =>?_) (fun q =>?_)
      · exact Zjk hx hG h6 _ _ _ _
      · rw [ZcM]; exact ⟨_,rfl,trivial⟩
    · rw [ZcM,ZaF,ZcM]; exact ⟨_,rfl,trivial⟩
  cases hin:Zms (Zio c x (atP (r,Zfh r x.fEnd))).fScore c.fLimit with
  | false =>
    rw [Bool.not_false,cond_true,if_neg (by decide)]
    refine Wlk.seqU (ZpX (by omega) ha _ _ _ ⟨Nat.zero_le _,Nat.zero_le _⟩) (fun _ a1 h1 h2 _ =>?_) (fun q =>?_)
    · rw [(Znx _).2]
      exact Zjk hx hG h2 _ _ _ _
    · rw [ZcM,ZaF,(Znx _).2]; exact ⟨_,rfl,trivial⟩
  | true =>
    rw [Bool.not_true,cond_false,if_pos rfl]
    refine Wlk.seqU (Zqq (by omega) ha _ _ _) (fun _ a1 h1 h2 _ =>?_) (fun q =>?_)
    rotate_left
    · rw [ZcM,ZaF,ZcM,ZaF,Zlp]; exact ⟨_,rfl,trivial⟩
    refine Wlk.seqU (Zqq (by omega) h2 _ _ _) (fun _ a2 h3 h4 _ =>?_) (fun q =>?_)
    rotate_left
    · rw [ZcM,ZaF,Zlp]; exact ⟨_,rfl,trivial⟩
    refine Wlk.seqU (Zqq (by omega) h4 _ _ _) (fun _ a3 h5 h6 _ =>?_) (fun q =>?_)
    rotate_left
    · rw [Zlp]; exact ⟨_,rfl,trivial⟩
    unfold Zrd
    rw [Pr.bind_assoc]
    refine Wlk.seqP (ZvY hG h6 _ x.fEnd (ZpZ hx)) (fun q b a4 h7 h8 hq =>?_) (fun q b _ =>⟨_,rfl,trivial⟩)
    obtain ⟨rfl,h9,h10⟩:=hq
    have hlt2:=ZiP b x.fEnd
    simp only [Zkf,cond_false]
    rw [Zjr _ _ (by unfold maxLen; omega),ZaF,cond_decide']
    by_cases hk:Zfh b x.fEnd < 0
    · rw [if_neg (show ¬ (Zfh b x.fEnd ≥ 0) by omega),if_pos hk,Pr.bind_ret]
      exact keys a4 h8 true _
    · rw [if_pos (show Zfh b x.fEnd ≥ 0 by omega),if_neg hk,Zay (by omega)]
      have hd2:(List.getD b (Zfh b x.fEnd).toNat Zaa.d) = atP (b,Zfh b x.fEnd):=rfl
      have hw2:=Ztl c x (atP (b,Zfh b x.fEnd))
      rw [hd2,Zuv hx,ZaF,(ZpA _ _ hw2.1 hw2.2).2,ZaF]
      cases hin2:Zms (Zio c x (atP (b,Zfh b x.fEnd))).fScore c.fLimit with
      | true =>
        rw [cond_true,if_pos rfl,Pr.bind_assoc]
        have hp:=Zzi hx hG h8 (c:=c) b h9 (h10 (fun p =>p.fEnd.fAddr.ok) fun v hv =>(hG.val v hv).1.2.1.1.1)
        have key2 : ∀ {f : Zam → Pr Zam} , ((Zvz c x).bind fun u => ((Zuc (pt c x) b (ofP b (ZfR c x).fNet true)).bind fun _ => Pr.ret ((⟨0, x.fEnd, ((ofP b (ZfR c x).fNet true).length : Int), u, []⟩ : Zam), true)).bind fun q => f q.1) =
            (((Zvz c x).bind fun u =>(Zuc (pt c x) b (ofP b (ZfR c x).fNet true)).bind fun _ =>.ret (⟨0,x.fEnd,((ofP b (ZfR c x).fNet true).length:Int),u,[]⟩ : Zam)).bind f):=by
          intro f
          simp only [Pr.bind_assoc,Pr.bind_ret]
        have key3 : ((Zvz c x).bind fun u => ((Zuc (pt c x) b (ofP b (ZfR c x).fNet true)).bind fun _ => Pr.ret ((⟨0, x.fEnd, ((ofP b (ZfR c x).fNet true).length : Int), u, []⟩ : Zam), true)).bind fun q =>
              (keyP 3 (2 + pt c x) q.2).bind fun _ =>(keyP 3 1 false).bind fun _ =>(keyP 3 0 false).bind fun _ =>.ret q.1) =
            (((Zvz c x).bind fun u =>(Zuc (pt c x) b (ofP b (ZfR c x).fNet true)).bind fun _ =>.ret (⟨0,x.fEnd,((ofP b (ZfR c x).fNet true).length:Int),u,[]⟩ : Zam)).bind fun v =>
              (keyP 3 (2 + pt c x) true).bind fun _ =>(keyP 3 1 false).bind fun _ =>(keyP 3 0 false).bind fun _ =>.ret v):=by
          simp only [Pr.bind_assoc,Pr.bind_ret]
        rw [key3]
        refine Wlk.seqP hp (fun v w a5 h11 h12 hv =>?_) (fun q b _ =>?_)
        · cases hv
          exact keys a5 h12 true v
        · dsimp only
          rw [ZcM,ZaF,ZcM,ZaF,ZcM]; exact ⟨_,rfl,trivial⟩
      | false =>
        rw [cond_false,if_neg (by decide),Pr.bind_assoc]
        refine Wlk.seqU (ZpX (by omega) h8 _ _ _ ⟨Nat.zero_le _,Nat.zero_le _⟩) (fun _ a5 h11 h12 _ =>?_) (fun q =>?_)
        · rw [(Znx _).2,ZaF,Pr.bind_ret]
          exact keys a5 h12 false _
        · rw [(Znx _).2,ZaF,ZcM,ZaF,ZcM,ZaF,ZcM]; exact ⟨_,rfl,trivial⟩
end
section
variable {c:Zaz} {x:Zaw} (hx:x.ok) {got:List Zae} (hG:Gd got)
include hx hG
theorem ZBy:Wlk got 0 eqP anyW (ZsW c x) (ZfD c x got):=by
  have hL:=hG.len
  have wrong:Wlk got 0 eqP anyW Zug ((Zar (wk got 0) (8:Int) (0:Int) true).bind fun x2 =>some (x2,ZnB 1)):=Zjk hx hG (Nat.zero_le _) _ _ _ _
  have hw0:(Zad.mk got (0:Int) opZ false) = wk got 0:=rfl
  unfold ZsW ZfD
  rw [ZvV x hx,ZaF]
  cases ZjF x with
  | false =>
    rw [Bool.not_false,cond_true,if_neg (by decide)]
    exact wrong
  | true =>
    rw [Bool.not_true,cond_false,if_pos rfl]
    -- the body of all that are not wrong
    have body : ∀ (P : Pr Zam) (k2 k5 k11 : Bool), (k2 = (x.fKind == 2)) → (k5 = (x.fKind == 5)) → (k11 = (x.fKind == 11)) → (P = if x.fKind = 2 then Zzy (pt c x) x.fEnd else if x.fKind = 5 then ZAm (pt c x) c x else ZCf (pt c x) x) →
        Wlk got 0 eqP anyW P ((ZcF c x).bind fun x4 => (Zbp (wk got 0) x4).bind fun x5 =>
            bif x5.1.fWait then some (x5.1,repZ)
            else (ZbN x5.2 x.fEnd).bind fun x6 =>
              bif (decide (x6 < (0:Int))) then
                (Zar x5.1 (3:Int) (ZaD (2:Int) x4) true).bind fun x7 =>some (x7,ZnB 6)
              else
                bif k2 then (Zcv x x5.1 x4 x5.2 x6).bind fun x8 =>some (x8.1,x8.2)
                else
                  bif k5 then
                    need (0≤x6∧x6 < ((x5.2.length:Nat):Int)) <|
                    (Zcw c x x5.1 x4 (x5.2.getD x6.toNat Zaa.d) x6).bind fun x9 =>some (x9.1,x9.2)
                  else
                    need (0≤x6∧x6 < ((x5.2.length:Nat):Int)) <|
                    (ZbT (x5.2.getD x6.toNat Zaa.d) x.fNow).bind fun x10 =>
                    bif k11 then
                      (Zcq (x5.2.getD x6.toNat Zaa.d) x.fNum).bind fun x11 =>
                      (ZaB x5.1 (Zan.mk (6:Int) x4 x6) (Zae.mk (0:Int) x11 ([]:(List Zab)) ([]:(List Zac))) true).bind fun x12 =>
                      (Zar x12 (3:Int) (ZaD (2:Int) x4) false).bind fun x13 =>some (x13,(Zam.mk (0:Int) endZ x11.fPing (0:Int) ([]:(List Zaa))))
                    else
                      (ZaB x5.1 (Zan.mk (6:Int) x4 x6) (Zae.mk (0:Int) x10 ([]:(List Zab)) ([]:(List Zac))) true).bind fun x14 =>
                      (Zar x14 (3:Int) (ZaD (2:Int) x4) false).bind fun x15 =>some (x15,repZ)):=by
      rintro P k2 k5 k11 rfl rfl rfl rfl
      rw [ZAQ hx,ZaF]
      have fin2 : ∀ r:Option (Zad × Zam),(r.bind fun y =>some (y.1,y.2)) = r:=fun r =>by cases r <;> rfl
      have first : ∀ (f : List Zaa × Int → Pr Zam) (K : Zad × List Zaa → Option (Zad × Zam)), (∀ q b, K (wt got q, b) = some (wt got q, repZ)) →
          (∀ b a1,a1≤got.length→b.length≤got.length→(Zfh b x.fEnd < 0→Wlk got a1 eqP anyW (f (b,Zfh b x.fEnd)) (K (wk got a1,b)))∧(0≤Zfh b x.fEnd→Wlk got a1 eqP anyW (f (b,Zfh b x.fEnd)) (K (wk got a1,b)))) →
          Wlk got 0 eqP anyW ((Zrk (pt c x) x.fEnd).bind f) ((Zbp (wk got 0) (pt c x)).bind K):=by
        intro f K hw hb
        refine Wlk.seqP (ZvY hG (Nat.zero_le _) _ x.fEnd (ZpZ hx)) (fun q b a1 h1 h2 hq =>?_) (fun q b _ =>⟨_,hw q b,trivial⟩)
        obtain ⟨rfl,h3,_⟩:=hq
        obtain ⟨k1,k2⟩:=hb b a1 h2 h3
        rcases Int.lt_or_le (Zfh b x.fEnd) 0 with h | h
        · exact k1 h
        · exact k2 h
      have none_W : ∀ a1,a1≤got.length→Wlk got a1 eqP anyW (ZuK (pt c x)) ((Zar (wk got a1) (3:Int) (ZaD (2:Int) (pt c x)) true).bind fun x7 =>some (x7,ZnB 6)):=fun a1 h =>by
        rw [ZpZ hx]; exact Zjk hx hG h _ _ _ _
      by_cases h2:x.fKind = 2
      · rw [if_pos h2]
        refine first _ _ (fun q b =>rfl) fun b a1 h3 h4 =>⟨fun h5 =>?_,fun h5 =>?_⟩
        · simp only [Zkf,cond_false]
          rw [Zjr _ _ (by unfold maxLen; omega),ZaF,cond_decide',if_pos h5,if_pos h5]
          exact none_W a1 h3
        · simp only [Zkf,cond_false]
          rw [Zjr _ _ (by unfold maxLen; omega),ZaF,cond_decide',if_neg (show ¬ (Zfh b x.fEnd < 0) by omega),if_neg (show ¬ (Zfh b x.fEnd < 0) by omega),ZgU,if_pos h2,fin2]
          exact ZAV hx hG h3 b h4 h5
      · rw [if_neg h2]
        by_cases h5' : x.fKind = 5
        · rw [if_pos h5']
          refine first _ _ (fun q b =>rfl) fun b a1 h3 h4 =>⟨fun h5 =>?_,fun h5 =>?_⟩
          · simp only [Zkf,cond_false]
            rw [Zjr _ _ (by unfold maxLen; omega),ZaF,cond_decide',if_pos h5,if_pos h5]
            exact none_W a1 h3
          · have hlt:=ZiP b x.fEnd
            simp only [Zkf,cond_false]
            rw [Zjr _ _ (by unfold maxLen; omega),ZaF,cond_decide',if_neg (show ¬ (Zfh b x.fEnd < 0) by omega),if_neg (show ¬ (Zfh b x.fEnd < 0) by omega),ZgU,if_neg h2,ZgU,if_pos h5',Zay (by omega),fin2]
            exact ZAW hx hG h3 b h4 h5
        · rw [if_neg h5']
          refine first _ _ (fun q b =>rfl) fun b a1 h3 h4 =>⟨fun h5 =>?_,fun h5 =>?_⟩
          · simp only [Zkf,cond_false]
            rw [Zjr _ _ (by unfold maxLen; omega),ZaF,cond_decide',if_pos h5,if_pos h5]
            exact none_W a1 h3
          · have hlt:=ZiP b x.fEnd
            have hd:(List.getD b (Zfh b x.fEnd).toNat Zaa.d) = atP (b,Zfh b x.fEnd):=rfl
            simp only [Zkf,cond_false]
            rw [Zjr _ _ (by unfold maxLen; omega),ZaF,cond_decide',if_neg (show ¬ (Zfh b x.fEnd < 0) by omega),if_neg (show ¬ (Zfh b x.fEnd < 0) by omega),ZgU,if_neg h2,ZgU,if_neg h5',Zay (by omega),hd,(ZwZ _ _).2,ZaF,ZgU,(Zxn _ _).2,ZaF,ZpZ hx]
            by_cases h11:x.fKind = 11
            · rw [if_pos h11,if_pos h11]
              refine Wlk.seqU (ZpX (by omega) h3 _ _ _ ⟨Nat.zero_le _,Nat.zero_le _⟩) (fun _ a2 h6 h7 _ =>?_) (fun q =>?_)
              · exact Zjk hx hG h7 _ _ _ _
              · rw [ZcM]; exact ⟨_,rfl,trivial⟩
            · rw [if_neg h11,if_neg h11]
              refine Wlk.seqU (ZpX (by omega) h3 _ _ _ ⟨Nat.zero_le _,Nat.zero_le _⟩) (fun _ a2 h6 h7 _ =>?_) (fun q =>?_)
              · exact Zjk hx hG h7 _ _ _ _
              · rw [ZcM]; exact ⟨_,rfl,trivial⟩
    by_cases h2:x.fKind = 2
    · have e2:(x.fKind != 2) = false:=by simp [h2]
      rw [e2,cond_false]
      exact body _ _ _ _ rfl rfl rfl (by rw [if_pos h2,if_pos h2])
    · have e2:(x.fKind != 2) = true:=by simp [h2]
      rw [e2,cond_true]
      by_cases h5:x.fKind = 5
      · have e5:(x.fKind != 5) = false:=by simp [h5]
        rw [e5,cond_false]
        exact body _ _ _ _ rfl rfl rfl (by rw [if_neg h2,if_neg h2,if_pos h5,if_pos h5])
      · have e5:(x.fKind != 5) = true:=by simp [h5]
        rw [e5,cond_true]
        by_cases h11:x.fKind = 11
        · have e11:(x.fKind != 11) = false:=by simp [h11]
          rw [e11,cond_false]
          exact body _ _ _ _ rfl rfl rfl (by rw [if_neg h2,if_neg h2,if_neg h5,if_neg h5,if_pos (Or.inl h11)])
        · have e11:(x.fKind != 11) = true:=by simp [h11]
          rw [e11,cond_true]
          by_cases h12:x.fKind = 12
          · have e12:(x.fKind != 12) = false:=by simp [h12]
            rw [e12,cond_false]
            exact body _ _ _ _ rfl rfl rfl (by rw [if_neg h2,if_neg h2,if_neg h5,if_neg h5,if_pos (Or.inr h12)])
          · have e12:(x.fKind != 12) = true:=by simp [h12]
            rw [e12,cond_true,if_neg h2,if_neg h5,if_neg (by simp [h11,h12])]
            exact wrong
end
end Go.Proofs.YtdjfoojllbfcgaaGreat
namespace Go.Proofs.YtdjfoojllbfcgaaGreat
set_option linter.unusedVariables false
set_option linter.unusedSimpArgs false
def Pr.all {α:Type} (Q:α→Prop):Pr α→Prop
  | .ret x =>Q x
  | .ask _ k =>∀ v,(k v).all Q
  | .no =>True
theorem Pr.all_bind {α β:Type} {Q:α→Prop} {Q' : β→Prop} {p:Pr α} {f:α→Pr β} (h:p.all Q) (hf : ∀ x,Q x→(f x).all Q'):(p.bind f).all Q':=by
  induction p with
  | ret x =>exact hf x h
  | ask o k ih =>exact fun v =>ih v (h v)
  | no =>trivial
theorem Pr.all_any {α:Type} (p:Pr α):p.all fun _ =>True:=by
  induction p with
  | ret x =>trivial
  | ask o k ih =>exact fun v =>ih v
  | no =>trivial
theorem Pr.all_then {α β:Type} {Q' : β→Prop} {p:Pr α} {f:α→Pr β} (hf : ∀ x,(f x).all Q'):(p.bind f).all Q':=Pr.all_bind (Pr.all_any p) fun x _ =>hf x
theorem Pr.all_run {α:Type} {Q:α→Prop} : ∀ {p:Pr α} {l:List Zae} {x:α} {g:Zal},p.all Q→runT p l = some (.ret x g)→Q x
  | .ret y,l,x,g,h,e =>by simp [runT] at e; rw [← e.1]; exact h
  | .ask o k,[],x,g,h,e =>by simp [runT] at e
  | .ask o k,v :: l,x,g,h,e =>Pr.all_run (h v) e
  | .no,l,x,g,h,e =>by simp [runT] at e
theorem ZCn (n a b:Int):Zbe n a b = some (decide (n ≥ a) && decide (n≤b)):=by
  unfold Zbe
  cases decide (n ≥ a) <;> rfl
theorem ZCs {α:Type} {c:Bool} {x y:Option α} (h1 : ∃ b,x = some b) (h2 : ∃ b,y = some b) : ∃ b,(bif c then x else y) = some b:=by
  cases c
  · exact h2
  · exact h1
theorem ZCc (c:Zaz) : ∃ b,ZeX c = some b:=by
  unfold ZeX
  simp only [Zcl,ZcJ,ZCn,ZaF]
  repeat' first | exact ⟨_,rfl⟩ | apply ZCs
theorem got38 (l:List Zae) : ∃ b,Zhm l = some b∧(b = true→l.length≤80∧∀ v ∈ l,v.fBans.length≤20∧v.fBook.length≤20):=by
  have main : ∀ fu (i : Nat), i ≤ 80 → i ≤ l.length → 80 - i < fu → (∀ j : Nat, j < i → (l.getD j Zae.d).fBans.length ≤ 20 ∧ (l.getD j Zae.d).fBook.length ≤ 20) →
      ∃ b,Zda l fu (i:Int) = some b∧(b = true→l.length≤80∧∀ v ∈ l,v.fBans.length≤20∧v.fBook.length≤20):=by
    intro fu
    induction fu with
    | zero =>intro i _ _ h; omega
    | succ fu ih =>
      intro i hi hil hf hall
      unfold Zda
      simp only [cond_decide']
      have fin:l.length≤i→∀ v ∈ l,v.fBans.length≤20∧v.fBook.length≤20:=fun hle v hv =>by
        obtain ⟨j,hj,rfl⟩:=List.getElem_of_mem hv
        rw [← ZjH l Zae.d j hj]
        exact hall j (by omega)
      by_cases h1:(i:Int) < (l.length:Int)
      · rw [if_pos h1]
        by_cases h2:(i:Int) < 80
        · rw [if_pos h2,Zay ⟨by omega,by omega⟩]
          simp only [Int.toNat_natCast]
          by_cases h3:((l.getD i Zae.d).fBans.length:Int) > 20
          · rw [if_pos h3]; exact ⟨false,rfl,fun h =>by cases h⟩
          · rw [if_neg h3]
            by_cases h4:((l.getD i Zae.d).fBook.length:Int) > 20
            · rw [if_pos h4]; exact ⟨false,rfl,fun h =>by cases h⟩
            · rw [if_neg h4]
              have e1:ZaD (i:Int) 1 = ((i + 1:Nat):Int):=add1 (n:=81) (by omega) (by unfold maxLen; omega)
              rw [e1]
              refine ih (i + 1) (by omega) (by omega) (by omega) fun j hj =>?_
              by_cases e:j = i
              · subst e; omega
              · exact hall j (by omega)
        · rw [if_neg h2]
          refine ⟨_,rfl,fun h =>?_⟩
          have:=of_decide_eq_true h
          have hle:l.length≤i:=by omega
          exact ⟨by omega,fin hle⟩
      · rw [if_neg h1]
        refine ⟨_,rfl,fun h =>?_⟩
        have:=of_decide_eq_true h
        exact ⟨by omega,fin (by omega)⟩
  exact main _ 0 (by omega) (by omega) (by omega) (fun j hj =>by omega)
theorem ZCl {got : List Zae} {p : Pr Zam} {r : Option (Zad × Zam)} (h : Wlk got 0 eqP anyW p r) (hp : p.all fun v => v.fPeers.length ≤ 1000000) :
    ∃ t w v,(runT p got).map Zre = some t∧r = some (w,v)∧Zfu t w v = some true:=by
  rcases h with ⟨v,b,a,h1,h2,h3,h4,h5⟩ | ⟨q,b,h1,h2,h3,h4⟩
  · cases h5
    rw [List.drop_zero] at h1
    refine ⟨_,_,_,by rw [h1]; rfl,h2,?_⟩
    unfold Zfu
    simp only [Zkf,cond_false,Zre,cond_true,Bool.not_false]
    have e1:ZdC Zao.d opZ = some true:=ZqQ opZ Zwg
    have e2:=ZnX v (Pr.all_run (Q:=fun v:Zam =>v.fPeers.length≤1000000) hp h1)
    have e1' : ZdC Zao.d (Zao.mk (0:Int) (0:Int) (Zan.mk (0:Int) (0:Int) (0:Int)) (0:Int) (0:Int) (Zae.mk (0:Int) (Zaa.mk (Zaf.mk (Zag.mk false (0:Int) (0:Int)) (0:Int)) false (0:Int) (Zah.mk (0:Int) (0:Int)) (0:Int) (0:Int)) ([]:(List Zab)) ([]:(List Zac))) false) = some true:=e1
    rw [e1',e2]; rfl
  · rw [List.drop_zero] at h1
    refine ⟨_,_,_,by rw [h1]; rfl,h2,?_⟩
    unfold Zfu
    simp only [Ztk,cond_true,Zre,Bool.not_false]
    have e1:ZdC q (wt got q).fOp = some true:=ZqQ q h3
    have e2:ZdD Zam.d (Zam.mk (0:Int) (Zaf.mk (Zag.mk false (0:Int) (0:Int)) (0:Int)) (0:Int) (0:Int) ([]:(List Zaa))) = some true:=ZnX repZ (by simp [repZ])
    rw [e1,e2]; rfl
theorem Zyq (c:Zaz) (x:Zaw):(ZsW c x).all fun v =>v.fPeers.length≤1000000:=by
  have none : ∀ n,(ZuK n).all fun v =>v.fPeers.length≤1000000:=fun n =>Pr.all_then fun _ =>Nat.zero_le _
  have wrong:Zug.all fun v =>v.fPeers.length≤1000000:=Pr.all_then fun _ =>Nat.zero_le _
  have parts : ∀ n e,(ZuD n e).all fun v =>v.fPeers.length≤1000000:=fun n e =>by
    refine Pr.all_then fun r =>?_
    split
    · exact none n
    · exact Pr.all_then fun _ =>Pr.all_then fun _ =>Pr.all_then fun _ =>Nat.zero_le _
  have punish : ∀ n,(Zrd n c x).all fun v =>v.1.fPeers.length≤1000000:=fun n =>by
    refine Pr.all_then fun r =>?_
    split
    · exact Nat.zero_le _
    · split
      · exact Pr.all_then fun _ =>Pr.all_then fun _ =>Nat.zero_le _
      · exact Pr.all_then fun _ =>Nat.zero_le _
  unfold ZsW
  split
  rotate_left
  · exact wrong
  split
  · refine Pr.all_then fun r =>?_
    split
    · exact none _
    · split
      · exact Pr.all_then fun _ =>Pr.all_then fun _ =>Pr.all_then fun _ =>Nat.zero_le _
      · exact Pr.all_then fun _ =>Pr.all_then fun _ =>Pr.all_bind (parts _ _) fun v hv =>Pr.all_then fun _ =>hv
  · split
    · refine Pr.all_then fun r =>?_
      split
      · exact none _
      · split
        · exact Pr.all_then fun _ =>Pr.all_then fun _ =>Pr.all_then fun _ =>Pr.all_bind (punish _) fun q hq =>Pr.all_then fun _ =>Pr.all_then fun _ =>Pr.all_then fun _ =>hq
        · exact Pr.all_then fun _ =>Pr.all_then fun _ =>Nat.zero_le _
    · split
      · refine Pr.all_then fun r =>?_
        split
        · exact none _
        · split
          · exact Pr.all_then fun _ =>Pr.all_then fun _ =>Nat.zero_le _
          · exact Pr.all_then fun _ =>Pr.all_then fun _ =>Nat.zero_le _
      · exact wrong
theorem ZwP:Zee = some true:=by decide +kernel
theorem gd_of {l:List Zae} (h:okL Zae.ok l) (h1:l.length≤80) (h2 : ∀ v ∈ l,v.fBans.length≤20∧v.fBook.length≤20):Gd l :=
  ⟨by omega,fun v hv =>⟨h.2 v hv,by have:=(h2 v hv).1; omega,by have:=(h2 v hv).2; omega⟩⟩
theorem Zsc (c:Zaz) (x:Zaw) (got:List Zae) (hc:c.ok) (hx:x.ok) (hg:okL Zae.ok got):ZeM c x got = some true:=by
  obtain ⟨b,hb⟩:=ZCc c
  obtain ⟨d,hd,hd2⟩:=got38 got
  unfold ZeM
  rw [hb,ZaF]
  cases b with
  | false =>rw [Bool.not_false,cond_true,ZwP]; rfl
  | true =>
    rw [Bool.not_true,cond_false,hd,ZaF]
    cases d with
    | false =>rw [Bool.not_false,cond_true,ZwP]; rfl
    | true =>
      have hG:=gd_of hg (hd2 rfl).1 (hd2 rfl).2
      obtain ⟨t,w,v,h1,h2,h3⟩:=ZCl (ZBy hx hG (c:=c)) (Zyq c x)
      rw [Bool.not_true,cond_false,h2,ZaF,ZBA hx hG,h1,ZaF,h3,ZwP]
      rfl
end Go.Proofs.YtdjfoojllbfcgaaGreat
