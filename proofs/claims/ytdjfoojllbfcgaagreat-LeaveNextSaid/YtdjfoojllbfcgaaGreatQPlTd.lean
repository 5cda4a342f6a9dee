import Derived.Test.YtdjfoojllbfcgaaGreatQPlA
import Derived.Test.YtdjfoojllbfcgaaGreatQLevA2
namespace Go.Proofs.YtdjfoojllbfcgaaGreat
set_option linter.unusedSimpArgs false
set_option linter.unusedVariables false
theorem ZuL {a:Int} (h:0≤a) : ∃ n:Nat,a = n:=⟨a.toNat,by omega⟩
def ZfN (a:Zag):Bool:=if a.fV6 then !(decide (a.fHi = 0) && decide (a.fLo / 4294967296 = 65535)) else decide (a.fHi = 0) && decide (a.fLo < 4294967296)
theorem ZCP (n:Nat) (h:n≤18446744073709551615):IntKind.u32.wrap (IntKind.u64.wrap (((BitVec.ofInt (IntKind.bits .u64) (n:Int)) &&& (BitVec.ofInt (IntKind.bits .u64) (4294967295:Int))).toNat:Int)) = ((n % 4294967296:Nat):Int):=by
  have:=ZAt n 4294967295 (by omega) (by omega)
  rw [show ((4294967295:Nat):Int) = (4294967295:Int) from rfl] at this
  rw [this,show (4294967295:Nat) = 2 ^ 32 - 1 from rfl,Nat.and_two_pow_sub_one_eq_mod]
  rw [show (2:Nat) ^ 32 = 4294967296 from rfl]
  have h1:n % 4294967296 < 4294967296:=Nat.mod_lt _ (by omega)
  rw [Zjj (by omega) (by omega)]
  simp only [IntKind.wrap,IntKind.bits,IntKind.signed]
  simp
theorem ZCF (n:Nat) (h:n < 4294967296):ZlK ((n:Nat):Int) = some ⟨false,0,n⟩:=by
  unfold ZlK
  rw [Zjj (by omega) (by omega)]
theorem ZlM (a:Zag) (h:a.ok):Zfl a = some (ZfN a):=by
  obtain ⟨v,hi,lo⟩:=a
  obtain ⟨_,h1,h2,_⟩:=h
  have h1:=ZpC h1
  have h2:=ZpC h2
  simp only at h1 h2
  obtain ⟨n,rfl⟩:=ZuL h2.1
  have hm:=ZCP n (by omega)
  have hlt:n % 4294967296 < 4294967296:=Nat.mod_lt _ (by omega)
  have hd:Int.fdiv (n:Int) (2 ^ (min (32:Int).toNat (IntKind.bits .u64))) = (n:Int) / 4294967296:=by
    rw [show (2:Int) ^ (min (32:Int).toNat (IntKind.bits .u64)) = 4294967296 from rfl,Int.fdiv_eq_ediv_of_nonneg _ (by omega)]
  cases v with
  | true =>
    simp only [Zfl,Zph,ZfN,cond_true,hd,hm]
    have hb : ∀ (p q:Int),(p == q) = decide (p = q):=fun p q =>by rw [Bool.eq_iff_iff]; simp
    have hv:=ZCF _ hlt
    by_cases h3:hi = 0
    · by_cases h4:(n:Int) / 4294967296 = 65535
      · rw [hb,hb,decide_eq_true h3,decide_eq_true h4,cond_true,cond_true,hv]
        simp
      · rw [hb,hb,decide_eq_true h3,decide_eq_false h4,cond_true,cond_false]
        simp
    · rw [hb,decide_eq_false h3,cond_false]
      simp
  | false =>
    simp only [Zfl,ZfN,cond_false,hm,ZCF _ hlt,Option.bind_some]
    congr 1
    rw [Bool.eq_iff_iff]
    simp
    constructor
    · rintro ⟨h5,h6⟩; exact ⟨h5.symm,by omega⟩
    · rintro ⟨h5,h6⟩; exact ⟨h5.symm,by omega⟩
theorem Zlo (a:Zag) (h:a.ok):ZbP a = some (ZfN a):=by
  obtain ⟨v,hi,lo⟩:=a
  obtain ⟨_,h1,h2,_⟩:=h
  have h1:=ZpC h1
  have h2:=ZpC h2
  simp only at h1 h2
  have hd:IntKind.u64.wrap (Int.tdiv lo 4294967296) = lo / 4294967296:=by
    rw [Int.tdiv_eq_ediv_of_nonneg h2.1]
    exact Zjj (by omega) (by omega)
  cases v with
  | true =>
    simp only [ZbP,ZfN,hd,Bool.not_true,cond_false,if_true]
    generalize lo / 4294967296 = q
    simp only [Bool.cond_eq_ite,beq_iff_eq,bne_iff_ne,ne_eq,decide_eq_true_eq,Bool.not_eq_true',Bool.not_eq_false',decide_eq_false_iff_not]
    repeat' split
    all_goals first | rfl | (rw [Option.some.injEq,Bool.eq_iff_iff]; simp only [Bool.and_eq_true,Bool.not_eq_true',Bool.not_eq_false',Bool.and_eq_false_iff,decide_eq_true_eq,decide_eq_false_iff_not,beq_iff_eq,bne_iff_ne,ne_eq,iff_true,iff_false,true_iff,false_iff,Bool.false_eq_true,Bool.true_eq_false,not_true_eq_false,not_false_eq_true]; omega)
  | false =>
    simp only [ZbP,ZfN,Bool.not_false,cond_true,Bool.false_eq_true,if_false]
    simp only [Bool.cond_eq_ite,beq_iff_eq,bne_iff_ne,ne_eq,decide_eq_true_eq,Bool.not_eq_true',Bool.not_eq_false',decide_eq_false_iff_not]
    repeat' split
    all_goals first | rfl | (rw [Option.some.injEq,Bool.eq_iff_iff]; simp only [Bool.and_eq_true,Bool.not_eq_true',Bool.not_eq_false',Bool.and_eq_false_iff,decide_eq_true_eq,decide_eq_false_iff_not,beq_iff_eq,bne_iff_ne,ne_eq,iff_true,iff_false,true_iff,false_iff,Bool.false_eq_true,Bool.true_eq_false,not_true_eq_false,not_false_eq_true]; omega)
theorem ZAS (a b:Zag):Zeq a b = some (cmpA a b):=by
  obtain ⟨v,hi,lo⟩:=a
  obtain ⟨v',hi',lo'⟩:=b
  simp only [Zeq,Zdz,Zdy,cmpA,famA,cmpI,orI,Zag.mk.injEq]
  simp only [Bool.cond_eq_ite,bne_iff_ne,ne_eq,ite_not,decide_eq_true_eq,Bool.not_eq_true',beq_eq_false_iff_ne]
  cases v <;> cases v' <;> simp only [true_and,Bool.false_eq_true,Bool.true_eq_false,false_and,not_true_eq_false,not_false_eq_true,if_true,if_false,ite_true,ite_false,Bool.not_true,Bool.not_false]
  all_goals (repeat' split) <;> first | rfl | omega | (congr 1; omega) | simp_all
theorem ZAR (a b:Zap):Zep a b = some (cmpN a b):=by
  simp only [Zep,ZAS,Option.bind_some,cmpN,orI,cmpI]
  simp only [Bool.cond_eq_ite,bne_iff_ne,ne_eq,ite_not,decide_eq_true_eq,beq_iff_eq]
  generalize cmpA a.fAddr b.fAddr = c
  (repeat' split) <;> first | rfl | omega | (congr 1; omega) | simp_all
end Go.Proofs.YtdjfoojllbfcgaaGreat
namespace Go.Proofs.YtdjfoojllbfcgaaGreat
set_option linter.unusedSimpArgs false
set_option linter.unusedVariables false
def ZkL (a:Zaf):Bool:=ZfN a.fAddr && decide (1≤a.fPort) && decide (a.fPort≤65535)
theorem ZyB (a:Zaf) (h:a.ok):Zjy a = some (ZkL a):=by
  simp only [Zjy,ZlM _ h.1,ZkL,Option.bind_some]
  generalize ZfN a.fAddr = b
  cases b <;> simp only [cond_true,cond_false,Bool.true_and,Bool.false_and]
  simp only [Bool.cond_eq_ite,beq_iff_eq,bne_iff_ne,ne_eq,decide_eq_true_eq,Bool.not_eq_true',Bool.not_eq_false',decide_eq_false_iff_not]
  repeat' split
  all_goals first | rfl | (rw [Option.some.injEq,Bool.eq_iff_iff]; simp only [Bool.and_eq_true,Bool.not_eq_true',Bool.not_eq_false',Bool.and_eq_false_iff,decide_eq_true_eq,decide_eq_false_iff_not,beq_iff_eq,bne_iff_ne,ne_eq,iff_true,iff_false,true_iff,false_iff,Bool.false_eq_true,Bool.true_eq_false,not_true_eq_false,not_false_eq_true]; omega)
theorem Zuw (a:Zaf) (h:a.ok):Zfc a = some (ZkL a):=by
  simp only [Zfc,Zlo _ h.1,ZkL,Option.bind_some]
  generalize ZfN a.fAddr = b
  cases b <;> simp only [cond_true,cond_false,Bool.true_and,Bool.false_and]
  simp only [Bool.cond_eq_ite,beq_iff_eq,bne_iff_ne,ne_eq,decide_eq_true_eq,Bool.not_eq_true',Bool.not_eq_false',decide_eq_false_iff_not]
  repeat' split
  all_goals first | rfl | (rw [Option.some.injEq,Bool.eq_iff_iff]; simp only [Bool.and_eq_true,Bool.not_eq_true',Bool.not_eq_false',Bool.and_eq_false_iff,decide_eq_true_eq,decide_eq_false_iff_not,beq_iff_eq,bne_iff_ne,ne_eq,iff_true,iff_false,true_iff,false_iff,Bool.false_eq_true,Bool.true_eq_false,not_true_eq_false,not_false_eq_true]; omega)
end Go.Proofs.YtdjfoojllbfcgaaGreat
namespace Go.Proofs.YtdjfoojllbfcgaaGreat
set_option linter.unusedSimpArgs false
set_option linter.unusedVariables false
theorem ZBi (l:List Zac) (h:l.length≤10000):Zbs l = some l:=by
  unfold Zbs
  rw [Zay ⟨by omega,ZoD (by omega)⟩]
end Go.Proofs.YtdjfoojllbfcgaaGreat
namespace Go.Proofs.YtdjfoojllbfcgaaGreat
set_option linter.unusedSimpArgs false
set_option linter.unusedVariables false
theorem Zoz (l:List Zaf) (e:Zaf) (hl:l.length≤maxLen):ZbG l e = some (l.contains e):=by
  simp only [ZbG,Zdp]
  have := ZlX l Zaf.d (fun x => decide (e = x)) hl (fun fu i => Zbg l fu (l.length : Int) i e) (fun i => i) (fun fu i hi => by
      simp only [Zbg,cond_decide']
      rw [if_pos (by omega),Zay ⟨by omega,by omega⟩]
      simp) (fun fu =>by
      simp only [Zbg,cond_decide']
      rw [if_neg (by omega)]) ((((l.length:Nat):Int) - (0:Int)).toNat + 2) 0 (by omega) (by omega)
  simp only [Int.natCast_zero,List.drop_zero] at this
  rw [this]
  simp only [Option.bind_some,Option.some.injEq]
  rw [Bool.eq_iff_iff,decide_eq_true_eq,List.contains_iff_mem]
  have hn:=ZoU (fun x =>decide (e = x)) l 0
  constructor
  · intro h
    obtain ⟨k,h1,_,⟨x,h3,h4⟩,_⟩:=ZnE _ l 0 h
    rw [of_decide_eq_true h4]
    exact List.mem_of_getElem? h3
  · intro h
    apply Int.not_lt.1
    intro h1
    have:=hn.1 h1 e h
    simp at this
theorem ZCz (l:List Zaf) (e:Zaf) (hl:l.length≤maxLen):Zgi l e = some (l.contains e):=by
  simp only [Zgi]
  have := ZlX l Zaf.d (fun x => decide (x = e)) hl (fun fu i => ZcD l fu i e) (fun i => decide (0 ≤ i)) (fun fu i hi => by
      simp only [ZcD,cond_decide']
      rw [if_pos (by omega),Zay ⟨by omega,by omega⟩]
      simp) (fun fu =>by
      simp only [ZcD,cond_decide']
      rw [if_neg (by omega)]
      rfl) ((((l.length:Nat):Int) - (0:Int)).toNat + 2) 0 (by omega) (by omega)
  simp only [Int.natCast_zero,List.drop_zero] at this
  rw [this]
  congr 1
  rw [Bool.eq_iff_iff,decide_eq_true_eq,List.contains_iff_mem]
  have hn:=ZoU (fun x =>decide (x = e)) l 0
  constructor
  · intro h
    obtain ⟨k,h1,_,⟨x,h3,h4⟩,_⟩:=ZnE _ l 0 h
    rw [← of_decide_eq_true h4]
    exact List.mem_of_getElem? h3
  · intro h
    apply Int.not_lt.1
    intro h1
    have:=hn.1 h1 e h
    simp at this
def Zvn (ends:List Zaf) (x:Zac):Zac:=if x.fState = 3 then (if ends.contains x.fEnd then ⟨x.fEnd,1,x.fFails,x.fNext⟩ else x) else x
theorem Zqs {α:Type} (l:List α) (d:α) (i:Nat) (h:i < l.length):l.set i (l.getD i d) = l:=by
  apply List.ext_getElem?
  intro k
  rw [List.getElem?_set]
  split
  · rename_i e; subst e; rw [ZjH l d i h,List.getElem?_eq_getElem h]
  · rfl
theorem ZAl (l:List Zac) (ends:List Zaf) (h:l.length≤10000) (hm:ends.length≤maxLen):Zjh l ends = some (l.map (Zvn ends)):=by
  simp only [Zjh,ZBi l h,Option.bind_some]
  have := Zxu (Zvn ends) Zac.d l.length (ZoD (by omega)) (fun fu i w => ZdN ends fu (l.length : Int) i w) some (fun fu i w hw hi => by
      simp only [ZdN,cond_decide',Zoz ends _ hm,ZkQ,Option.bind_some]
      rw [if_pos (by omega),Zay ⟨by omega,by omega⟩]
      simp only [Int.toNat_natCast,Zvn,Bool.cond_eq_ite,beq_iff_eq]
      split
      · split
        · rfl
        · rw [Zqs w _ i (by omega)]
      · rw [Zqs w _ i (by omega)]) (fun fu w hw =>by
      simp only [ZdN,cond_decide']
      rw [if_neg (by omega)]) ((((l.length:Nat):Int) - (0:Int)).toNat + 2) 0 l rfl (by omega) (by omega)
  simpa using this
theorem Ztt (l:List Zac) (ends:List Zaf) (h:l.length≤10000) (hm:ends.length≤maxLen):Zet l ends = some (l.map (Zvn ends)):=by
  simp only [Zet,List.nil_append]
  rw [Zay ⟨by omega,ZoD (by omega)⟩]
  have := Zxu (Zvn ends) Zac.d l.length (ZoD (by omega)) (fun fu i w => ZbI ends fu i w) some (fun fu i w hw hi => by
      simp only [ZbI,cond_decide',ZCz ends _ hm,Option.bind_some]
      rw [if_pos (by omega),Zay ⟨by omega,by omega⟩]
      simp only [Int.toNat_natCast,Zvn,Bool.cond_eq_ite,beq_iff_eq]
      split
      · split
        · rfl
        · rw [Zqs w _ i (by omega)]
      · rw [Zqs w _ i (by omega)]) (fun fu w hw =>by
      simp only [ZbI,cond_decide']
      rw [if_neg (by omega)]) ((((l.length:Nat):Int) - (0:Int)).toNat + 2) 0 l rfl (by omega) (by omega)
  simpa using this
end Go.Proofs.YtdjfoojllbfcgaaGreat
namespace Go.Proofs.YtdjfoojllbfcgaaGreat
set_option linter.unusedVariables false
set_option linter.unusedSimpArgs false
def fitI (n:Int):Int:=if n < 0 then 0 else if n > 1099511627776 then 1099511627776 else n
theorem ZoE (n:Int):ZfY n = some (fitI n):=by
  unfold ZfY fitI
  congr 1
  repeat' split
  all_goals omega
theorem ZoJ (n:Int):Zbw n = some (fitI n):=by
  unfold Zbw fitI
  simp only [cond_decide']
  repeat' split
  all_goals first | rfl | omega
theorem Zky (n:Int):0≤fitI n∧fitI n≤1099511627776:=by
  unfold fitI
  repeat' split
  all_goals omega
theorem ZyO (p:Zaa) (n:Int) : ∃ q,ZgN p n = some q∧ZbT p n = some q:=by
  unfold ZgN ZbT
  simp only [ZoE,ZoJ,Option.bind_some,cond_decide']
  refine ⟨_,rfl,?_⟩
  split
  · rfl
  · rfl
theorem ZCe (p:Zaa) (n:Int) : ∃ q,Zij p n = some q∧Zcq p n = some q:=by
  unfold Zij Zcq
  simp only [cond_decide']
  by_cases h1:n < 1
  · rw [if_neg (by omega),if_pos h1]; exact ⟨_,rfl,rfl⟩
  · rw [if_pos (by omega),if_neg h1]
    by_cases h2:n > 1048576
    · rw [if_neg (by omega),if_pos h2]; exact ⟨_,rfl,rfl⟩
    · rw [if_pos (by omega),if_neg h2]
      by_cases h3:p.fPing = 0
      · have e1:(p.fPing == 0) = true:=by simp [h3]
        have e2:(p.fPing != 0) = false:=by simp [h3]
        rw [e1,e2]; exact ⟨_,rfl,rfl⟩
      · have e1:(p.fPing == 0) = false:=by simp [h3]
        have e2:(p.fPing != 0) = true:=by simp [h3]
        rw [e1,e2]
        simp only [cond_false,cond_true]
        by_cases h4:n < p.fPing
        · rw [if_pos h4,if_neg (by omega)]; exact ⟨_,rfl,rfl⟩
        · rw [if_neg h4,if_pos (by omega)]; exact ⟨_,rfl,rfl⟩
theorem Zyh (k:Int) : ∃ q,Zfy k = some q∧Zdu k = some q∧0≤q∧q≤100:=by
  unfold Zfy Zdu
  simp only [cond_decide']
  by_cases h1:k < 0
  · rw [if_pos h1]
    have e1:(k == 1) = false:=by simp; omega
    have e2:(k == 2) = false:=by simp; omega
    have e3:(k == 3) = false:=by simp; omega
    have e4:(k == 4) = false:=by simp; omega
    have e5:(k == 5) = false:=by simp; omega
    rw [e1,e2,e3,e4,e5]
    exact ⟨0,rfl,rfl,by omega,by omega⟩
  · rw [if_neg h1]
    by_cases h2:k ≥ 6
    · rw [if_pos h2]
      have e1:(k == 1) = false:=by simp; omega
      have e2:(k == 2) = false:=by simp; omega
      have e3:(k == 3) = false:=by simp; omega
      have e4:(k == 4) = false:=by simp; omega
      have e5:(k == 5) = false:=by simp; omega
      rw [e1,e2,e3,e4,e5]
      exact ⟨0,rfl,rfl,by omega,by omega⟩
    · rw [if_neg h2]
      obtain h | h | h | h | h | h:k = 0 ∨ k = 1 ∨ k = 2 ∨ k = 3 ∨ k = 4 ∨ k = 5:=by omega
      all_goals subst h; exact ⟨_,rfl,rfl,by decide,by decide⟩
def Zfh (l:List Zaa) (e:Zaf):Int:=ixOf (fun x =>decide (x.fEnd = e)) l 0
theorem ZxV (l:List Zaa) (e:Zaf) (hl:l.length≤maxLen):Zju l e = some (Zfh l e):=by
  simp only [Zju,Zce]
  have := ZlX l Zaa.d (fun x => decide (x.fEnd = e)) hl (fun fu i => ZaH l e fu (l.length : Int) i) (fun i => i) (fun fu i hi => by
      simp only [ZaH,Zjn,cond_decide',Option.bind_some]
      rw [if_pos (by omega),Zay ⟨by omega,by omega⟩]
      simp) (fun fu =>by
      simp only [ZaH,cond_decide']
      rw [if_neg (by omega)]) ((((l.length:Nat):Int) - (0:Int)).toNat + 2) 0 (by omega) (by omega)
  simp only [Int.natCast_zero,List.drop_zero] at this
  rw [this]
  rfl
theorem Zjr (l:List Zaa) (e:Zaf) (hl:l.length≤maxLen):ZbN l e = some (Zfh l e):=by
  simp only [ZbN]
  have := ZlX l Zaa.d (fun x => decide (x.fEnd = e)) hl (fun fu i => Zcm l fu i e) (fun i => i) (fun fu i hi => by
      simp only [Zcm,cond_decide']
      rw [if_pos (by omega),Zay ⟨by omega,by omega⟩]
      simp) (fun fu =>by
      simp only [Zcm,cond_decide']
      rw [if_neg (by omega)]) ((((l.length:Nat):Int) - (0:Int)).toNat + 2) 0 (by omega) (by omega)
  simp only [Int.natCast_zero,List.drop_zero] at this
  rw [this]
  rfl
theorem ZiP (l:List Zaa) (e:Zaf):Zfh l e < (l.length:Int):=by
  have:=Zwj (fun x:Zaa =>decide (x.fEnd = e)) l 0
  unfold Zfh
  omega
theorem ZBb {α : Type} (p : α → Bool) (d : α) (l : List α) (hl : l.length ≤ maxLen) (F : Nat → Int → Int → List α → Option (List α))
    (hs : ∀ fu (k j:Nat) w,w.length = l.length→k≤j→j < w.length→F (fu + 1) (k:Int) (j:Int) w = if p (w.getD j d) = true then F fu (k:Int) (ZaD (j:Int) 1) w else F fu (ZaD (k:Int) 1) (ZaD (j:Int) 1) (w.set k (w.getD j d)))
    (he : ∀ fu (k:Nat) w,w.length = l.length→k≤w.length→F (fu + 1) (k:Int) (w.length:Int) w = some (w.take k)) :
    ∀ fu (k j:Nat) w,w.length = l.length→k≤j→j≤l.length→l.length - j < fu→w.take k = (l.take j).filter (fun x =>!p x)→w.drop j = l.drop j→F fu (k:Int) (j:Int) w = some (l.filter fun x =>!p x):=by
  intro fu
  induction fu with
  | zero =>intro k j w _ _ _ h; omega
  | succ fu ih =>
    intro k j w hw hkj hj hf ht hd
    by_cases h:j < l.length
    · rw [hs fu k j w hw hkj (by omega),add1 h hl]
      have hx:w.getD j d = l.getD j d:=by
        have:=congrArg (fun q:List α =>q.getD 0 d) hd
        simpa [List.getD_eq_getElem?_getD] using this
      have htk:l.take (j + 1) = l.take j ++ [l.getD j d]:=by
        rw [List.take_succ_eq_append_getElem h,ZjH l d j h]
      have hd1:w.drop (j + 1) = l.drop (j + 1):=by
        have:=congrArg (List.drop 1) hd
        simpa [List.drop_drop,Nat.add_comm] using this
      by_cases hp:p (w.getD j d) = true
      · rw [if_pos hp]
        refine ih k (j + 1) w hw (by omega) (by omega) (by omega) ?_ hd1
        have hf1:[w.getD j d].filter (fun x =>!p x) = []:=by rw [List.filter_cons_of_neg (by rw [hp]; decide)]; rfl
        rw [htk,List.filter_append,ht,← hx,hf1,List.append_nil]
      · rw [if_neg hp,add1 (n:=l.length) (by omega) hl]
        refine ih (k + 1) (j + 1) _ (by simp [hw]) (by omega) (by omega) (by omega) ?_ ?_
        · rw [htk,List.filter_append,← hx]
          have hf1:[w.getD j d].filter (fun x =>!p x) = [w.getD j d]:=by rw [List.filter_cons_of_pos (by simpa using hp)]; rfl
          rw [List.take_succ_eq_append_getElem (by simp; omega),List.take_set_of_le (by omega),ht,hf1]
          simp
        · rw [List.drop_set_of_lt (by omega)]
          exact hd1
    · obtain rfl:j = l.length:=by omega
      have e:(l.length:Int) = (w.length:Int):=by rw [hw]
      rw [e,he fu k w hw (by omega),ht,List.take_length]
def ZoF (l:List Zaa) (ends:List Zaf):List Zaa:=l.filter fun x =>!ends.contains x.fEnd
theorem ZwL (l:List Zaa) (ends:List Zaf) (hl:l.length≤1000000) (hm:ends.length≤maxLen):Zbu l ends = some (ZoF l ends):=by
  have hL:l.length≤maxLen:=by unfold maxLen; omega
  have hx:ZbB l ends = some (ixOf (fun x =>ends.contains x.fEnd) l 0):=by
    simp only [ZbB]
    have := ZlX l Zaa.d (fun x => ends.contains x.fEnd) hL (fun fu i => ZaG l ends fu (l.length : Int) i) (fun i => i) (fun fu i hi => by
        simp only [ZaG,Zha,Zoz ends _ hm,cond_decide',Option.bind_some]
        rw [if_pos (by omega),Zay ⟨by omega,by omega⟩]
        simp only [Int.toNat_natCast]
        generalize ends.contains (l.getD i Zaa.d).fEnd = q
        cases q <;> rfl) (fun fu =>by
        simp only [ZaG,cond_decide']
        rw [if_neg (by omega)]) ((((l.length:Nat):Int) - (0:Int)).toNat + 2) 0 (by omega) (by omega)
    simp only [Int.natCast_zero,List.drop_zero] at this
    rw [this]
  simp only [Zbu,hx,Option.bind_some]
  by_cases h:ixOf (fun x:Zaa =>ends.contains x.fEnd) l 0 < 0
  · have hn:=(ZoU _ l 0).1 h
    have e:(ixOf (fun x:Zaa =>ends.contains x.fEnd) l 0 == -1) = true:=by
      have:=ZCk (fun x:Zaa =>ends.contains x.fEnd) l 0
      rw [beq_iff_eq]; omega
    rw [e,cond_true]
    congr 1
    unfold ZoF
    rw [List.filter_eq_self.2]
    intro x hx
    rw [hn x hx]
    rfl
  · obtain ⟨k,h1,h2,⟨x,h3,h4⟩,h5⟩:=ZnE (fun x:Zaa =>ends.contains x.fEnd) l 0 (by omega)
    have e:(ixOf (fun x:Zaa =>ends.contains x.fEnd) l 0 == -1) = false:=by
      rw [beq_eq_false_iff_ne]; omega
    rw [e,cond_false,h2,Nat.zero_add,add1 h1 hL]
    refine ZBb (fun x:Zaa =>ends.contains x.fEnd) Zaa.d l hL (fun fu a b w =>ZaE ends fu a b w) ?_ ?_ _ k (k + 1) l rfl (by omega) (by omega) (by omega) ?_ rfl
    · intro fu a b w hw hab hb
      simp only [ZaE,Zha,Zoz ends _ hm,cond_decide',Option.bind_some]
      rw [if_pos (by omega),Zay ⟨by omega,by omega⟩]
      simp only [Int.toNat_natCast]
      cases hq:ends.contains (w.getD b Zaa.d).fEnd
      · simp only [Bool.not_false,cond_true]
        rw [Zay ⟨by omega,by omega⟩,if_neg (by simp)]
      · simp only [Bool.not_true,cond_false]
        rw [if_pos trivial]
    · intro fu a w hw ha
      simp only [ZaE,cond_decide']
      rw [if_neg (by omega),Zay ⟨by omega,by omega,by omega⟩]
      simp only [Int.toNat_natCast]
      rw [Zay (by omega),Zay ⟨by omega,by omega,by omega⟩,Zay (by rw [Zvo _ _ _ _ (by omega)]; exact ha)]
      congr 1
      simp only [ZiS,List.append_assoc]
      rw [List.take_append_of_le_length (by simp; omega),List.take_take,Nat.min_self]
    · rw [List.take_succ_eq_append_getElem h1,List.filter_append]
      have e1:(l.take k).filter (fun x =>!ends.contains x.fEnd) = l.take k:=by
        rw [List.filter_eq_self]
        intro y hy
        obtain ⟨j,hj,rfl⟩:=List.getElem_of_mem hy
        have hjk:j < k:=by simp at hj; omega
        obtain ⟨z,hz1,hz2⟩:=h5 j hjk
        have:(l.take k)[j] = z:=by
          rw [List.getElem_take]
          rw [List.getElem?_eq_getElem (by omega)] at hz1
          exact Option.some.inj hz1
        rw [this,hz2]
        rfl
      have e2:[l[k]].filter (fun x =>!ends.contains x.fEnd) = []:=by
        rw [List.getElem?_eq_getElem h1] at h3
        rw [Option.some.inj h3]
        rw [List.filter_cons_of_neg (by rw [h4]; decide)]
        rfl
      rw [e1,e2,List.append_nil]
theorem ZxZ (l:List Zaa) (ends:List Zaf) (hl:l.length≤1000000) (hm:ends.length≤maxLen):Ziq l ends = some (ZoF l ends):=by
  unfold Ziq Zci
  rw [Zay ⟨by omega,by unfold maxLen; omega⟩]
  simp only [Option.bind_some,ZwL l ends hl hm]
theorem ZBe (l:List Zaf) (e:Zaf) (hl:l.length≤maxLen):Zgh l e = some (l.contains e):=by
  simp only [Zgh]
  have := ZlX l Zaf.d (fun x => decide (x = e)) hl (fun fu i => ZcC l fu i e) (fun i => decide (0 ≤ i)) (fun fu i hi => by
      simp only [ZcC,cond_decide']
      rw [if_pos (by omega),Zay ⟨by omega,by omega⟩]
      simp) (fun fu =>by
      simp only [ZcC,cond_decide']
      rw [if_neg (by omega)]
      rfl) ((((l.length:Nat):Int) - (0:Int)).toNat + 2) 0 (by omega) (by omega)
  simp only [Int.natCast_zero,List.drop_zero] at this
  rw [this]
  congr 1
  rw [Bool.eq_iff_iff,decide_eq_true_eq,List.contains_iff_mem]
  have hn:=ZoU (fun x =>decide (x = e)) l 0
  constructor
  · intro h
    obtain ⟨k,h1,_,⟨x,h3,h4⟩,_⟩:=ZnE _ l 0 h
    rw [← of_decide_eq_true h4]
    exact List.mem_of_getElem? h3
  · intro h
    apply Int.not_lt.1
    intro h1
    have:=hn.1 h1 e h
    simp at this
theorem ZmN (l:List Zaa) (ends:List Zaf):(ZoF l ends).length≤l.length:=List.length_filter_le _ _
theorem Zqu (l:List Zaa) (ends:List Zaf) (hl:l.length≤1000000) (hm:ends.length≤maxLen):ZbX l ends = some (ZoF l ends):=by
  have hL:l.length≤maxLen:=by unfold maxLen; omega
  have main : ∀ fu (i:Nat) w,i≤l.length→l.length - i < fu→w = ZoF (l.take i) ends→Zcu l ends fu (i:Int) w = some (ZoF l ends):=by
    intro fu
    induction fu with
    | zero =>intro i w _ h; omega
    | succ fu ih =>
      intro i w hi hf hw
      simp only [Zcu,ZBe ends _ hm,cond_decide',Option.bind_some]
      by_cases h:i < l.length
      · rw [if_pos (by omega),Zay ⟨by omega,by omega⟩,add1 h hL]
        simp only [Int.toNat_natCast]
        have hst:ZoF (l.take (i + 1)) ends = w ++ [l.getD i Zaa.d].filter (fun x =>!ends.contains x.fEnd):=by
          rw [hw]
          unfold ZoF
          rw [List.take_succ_eq_append_getElem h,List.filter_append,ZjH l _ i h]
        have hwl:w.length≤1000000:=by
          rw [hw]
          have:=ZmN (l.take i) ends
          simp at this
          omega
        cases hq:ends.contains (l.getD i Zaa.d).fEnd
        · rw [List.filter_cons_of_pos (by rw [hq]; rfl)] at hst
          simp only [Bool.not_false,cond_true]
          rw [Zay ⟨by simp; omega,by simp [maxLen]; omega⟩]
          exact ih (i + 1) _ (by omega) (by omega) hst.symm
        · rw [List.filter_cons_of_neg (by rw [hq]; decide)] at hst
          simp only [Bool.not_true,cond_false]
          refine ih (i + 1) _ (by omega) (by omega) ?_
          rw [hst]
          simp
      · rw [if_neg (by omega),hw]
        have:i = l.length:=by omega
        rw [this,List.take_length]
  unfold ZbX
  exact main _ 0 [] (by omega) (by omega) rfl
end Go.Proofs.YtdjfoojllbfcgaaGreat
namespace Go.Proofs.YtdjfoojllbfcgaaGreat
set_option linter.unusedSimpArgs false
set_option linter.unusedVariables false
def wid (a:Zag):Nat:=if a.fV6 then 128 else 32
def num (a:Zag):Nat:=if a.fV6 then 2 ^ 64 * a.fHi.toNat + a.fLo.toNat else a.fLo.toNat
def bitN (a:Zag) (i:Nat):Bool:=(num a).testBit (wid a - 1 - i)
structure Fits (a:Zag):Prop where
  hi0:0≤a.fHi
  hi1:a.fHi≤18446744073709551615
  lo0:0≤a.fLo
  lo1:a.fLo≤18446744073709551615
  v4:a.fV6 = false→a.fHi = 0∧a.fLo < 4294967296
theorem Zoq {a:Zag} (h:a.ok) (hr:ZfN a = true):Fits a:=by
  have h1:=ZpC h.2.1
  have h2:=ZpC h.2.2.1
  refine ⟨h1.1,h1.2,h2.1,h2.2,fun hv =>?_⟩
  unfold ZfN at hr
  rw [hv] at hr
  simpa using hr
theorem Fits.ok {a:Zag} (h:Fits a):a.ok:=by
  refine ⟨trivial,?_,?_,trivial⟩
  · have:=h.hi0; have:=h.hi1
    simp only [okI,Lit.wf,IntKind.min,IntKind.max,IntKind.bits,IntKind.signed]
    simp; omega
  · have:=h.lo0; have:=h.lo1
    simp only [okI,Lit.wf,IntKind.min,IntKind.max,IntKind.bits,IntKind.signed]
    simp; omega
theorem ZBJ {a:Zag} (h:Fits a):num a < 2 ^ wid a:=by
  have:=h.hi0; have:=h.hi1; have:=h.lo0; have:=h.lo1
  unfold num wid
  cases hv:a.fV6
  · have:=h.v4 hv
    simp only [Bool.false_eq_true,if_false]
    omega
  · simp only [if_true]
    omega
theorem Zuf {a b:Zag} (ha:Fits a) (hb:Fits b) (hv:a.fV6 = b.fV6) (h : ∀ i,i < wid a→bitN a i = bitN b i):a = b:=by
  have hn:num a = num b:=by
    apply Nat.eq_of_testBit_eq
    intro j
    have hw:wid a = wid b:=by unfold wid; rw [hv]
    by_cases hj:j < wid a
    · have:=h (wid a - 1 - j) (by omega)
      unfold bitN at this
      rw [← hw] at this
      rw [show wid a - 1 - (wid a - 1 - j) = j by omega] at this
      exact this
    · rw [Nat.testBit_lt_two_pow (Nat.lt_of_lt_of_le (ZBJ ha) (Nat.pow_le_pow_right (by omega) (by omega))),Nat.testBit_lt_two_pow (Nat.lt_of_lt_of_le (ZBJ hb) (Nat.pow_le_pow_right (by omega) (by omega)))]
  have:=ha.hi0; have:=ha.hi1; have:=ha.lo0; have:=ha.lo1
  have:=hb.hi0; have:=hb.hi1; have:=hb.lo0; have:=hb.lo1
  obtain ⟨v,hi,lo⟩:=a
  obtain ⟨v',hi',lo'⟩:=b
  simp only at hv
  subst hv
  simp only [num] at hn
  simp only [Zag.mk.injEq,true_and]
  cases v
  · have:=ha.v4 rfl; have:=hb.v4 rfl
    simp only [Bool.false_eq_true,if_false] at *
    omega
  · simp only [if_true] at *
    omega
theorem Zud (n k T:Nat) (hk:k≤T) (h:n < 2 ^ T):n &&& (2 ^ T - 2 ^ k) = n - n % 2 ^ k:=by
  have h1:n - n % 2 ^ k = 2 ^ k * (n / 2 ^ k):=by have:=Nat.div_add_mod n (2 ^ k); omega
  rw [h1]
  apply Nat.eq_of_testBit_eq
  intro i
  have h2:2 ^ T - 2 ^ k = 2 ^ k * (2 ^ (T - k) - 1):=by
    rw [Nat.mul_sub,← Nat.pow_add,Nat.mul_one]
    congr 2; omega
  rw [Nat.testBit_and,h2,Nat.testBit_two_pow_mul,Nat.testBit_two_pow_mul,Nat.testBit_two_pow_sub_one,Nat.testBit_div_two_pow]
  by_cases hi:k≤i
  · by_cases h3:i < T
    · simp [hi,show i - k < T - k by omega,show i - k + k = i by omega]
    · have:n.testBit i = false:=Nat.testBit_lt_two_pow (Nat.lt_of_lt_of_le h (Nat.pow_le_pow_right (by omega) (by omega)))
      simp [hi,this,show i - k + k = i by omega]
  · simp [hi]
theorem ZwM (n k j:Nat):(n - n % 2 ^ k).testBit j = (decide (k≤j) && n.testBit j):=by
  have h1:n - n % 2 ^ k = 2 ^ k * (n / 2 ^ k):=by have:=Nat.div_add_mod n (2 ^ k); omega
  rw [h1,Nat.testBit_two_pow_mul,Nat.testBit_div_two_pow]
  by_cases h:k≤j
  · simp [h,show j - k + k = j by omega]
  · simp [h]
theorem and_int' (a b:Nat) (ha:a < 2 ^ 64) (hb:b < 2 ^ 64):IntKind.u64.wrap (((BitVec.ofInt (IntKind.bits .u64) (a:Int)) &&& (BitVec.ofInt (IntKind.bits .u64) (b:Int))).toNat:Int) = ((a &&& b:Nat):Int):=by
  rw [ZAt a b ha hb]
  have:a &&& b < 2 ^ 64:=Nat.and_lt_two_pow _ hb
  exact Zjj (by omega) (by omega)
theorem ZCG : ∀ n:Fin 65,ZfU ((n.val:Nat):Int) = some (((2 ^ 64 - 2 ^ (64 - n.val):Nat)):Int):=by decide +kernel
theorem Zuk (n:Nat) (h:n≤64):ZfU ((n:Nat):Int) = some (((2 ^ 64 - 2 ^ (64 - n):Nat)):Int):=ZCG ⟨n,by omega⟩
theorem Zul (n:Int):ZfU n = ZfU (if (64:Int) < (if (0:Int) > n then (0:Int) else n) then (64:Int) else (if (0:Int) > n then (0:Int) else n)):=by
  unfold ZfU
  have e : ∀ m:Int,0≤m→m≤64→(if (64:Int) < (if (0:Int) > m then (0:Int) else m) then (64:Int) else (if (0:Int) > m then (0:Int) else m)) = m:=fun m h1 h2 =>by
    repeat' split
    all_goals omega
  rw [e (if (64:Int) < (if (0:Int) > n then (0:Int) else n) then (64:Int) else (if (0:Int) > n then (0:Int) else n)) (by repeat' split <;> omega) (by repeat' split <;> omega)]
theorem ZBV (n:Int) (h:n≤0):ZfU n = some 0:=by
  rw [Zul,show (if (64:Int) < (if (0:Int) > n then (0:Int) else n) then (64:Int) else (if (0:Int) > n then (0:Int) else n)) = ((0:Nat):Int) by repeat' split <;> omega,Zuk 0 (by omega)]
  rfl
theorem ZAF (n:Int) (h:64≤n):ZfU n = some 18446744073709551615:=by
  rw [Zul,show (if (64:Int) < (if (0:Int) > n then (0:Int) else n) then (64:Int) else (if (0:Int) > n then (0:Int) else n)) = ((64:Nat):Int) by repeat' split <;> omega,Zuk 64 (by omega)]
  rfl
def ZnO (a:Zag) (n:Nat):Zag :=
  if a.fV6 then (if n≤64 then ⟨true,((a.fHi.toNat - a.fHi.toNat % 2 ^ (64 - n):Nat):Int),0⟩ else ⟨true,a.fHi,((a.fLo.toNat - a.fLo.toNat % 2 ^ (128 - n):Nat):Int)⟩)
  else ⟨false,a.fHi,((a.fLo.toNat - a.fLo.toNat % 2 ^ (32 - n):Nat):Int)⟩
theorem Zzv {a:Zag} (h:a.ok) (hr:ZfN a = true) (n:Nat) (hn:n≤wid a):Zil a (n:Int) = some (ZnO a n):=by
  have hf:=Zoq h hr
  have hright:=ZlM a h
  have hA:=hf.hi0; have hB:=hf.hi1; have hC:=hf.lo0; have hD:=hf.lo1
  obtain ⟨v,hi,lo⟩:=a
  obtain ⟨p,hp⟩:=ZuL hf.hi0
  obtain ⟨q,hq⟩:=ZuL hf.lo0
  simp only at hp hq hA hB hC hD
  subst hp hq
  cases v with
  | false =>
    have hv:=hf.v4 rfl
    simp only at hv
    have hn:n≤32:=hn
    have hmin:(if (32:Int) < (if (0:Int) > (n:Int) then (0:Int) else (n:Int)) then (32:Int) else (if (0:Int) > (n:Int) then (0:Int) else (n:Int))) = (n:Int):=by repeat' split <;> omega
    simp only [Zil,hright,hr,Option.bind_some,Bool.not_true,cond_false,ZgT,Bool.not_false,cond_true,hmin,Zuk n (by omega)]
    have hp:(2:Nat) ^ (64 - n) = 2 ^ 32 * 2 ^ (32 - n):=by rw [← Nat.pow_add]; congr 1; omega
    have hp1:(2:Nat) ^ (32 - n)≤2 ^ 32:=Nat.pow_le_pow_right (by omega) (by omega)
    have hp0:0 < (2:Nat) ^ (32 - n):=Nat.pow_pos (by omega)
    have hd:(2 ^ 64 - 2 ^ (64 - n):Nat) / 4294967296 = 2 ^ 32 - 2 ^ (32 - n):=by
      rw [hp]
      generalize (2:Nat) ^ (32 - n) = z at *
      omega
    have e3:Int.fdiv ((2 ^ 64 - 2 ^ (64 - n):Nat):Int) (2 ^ (min (32:Int).toNat (IntKind.bits .u64))) = ((2 ^ 32 - 2 ^ (32 - n):Nat):Int):=by
      rw [show (2:Int) ^ (min (32:Int).toNat (IntKind.bits .u64)) = 4294967296 from rfl,Int.fdiv_eq_ediv_of_nonneg _ (by omega),← hd]
      rfl
    rw [e3,and_int' q _ (by omega) (by generalize (2:Nat) ^ (32 - n) = z at *; omega),Zud q (32 - n) 32 (by omega) (by omega)]
    simp [ZnO]
  | true =>
    have hn:n≤128:=hn
    have hmin:(if (128:Int) < (if (0:Int) > (n:Int) then (0:Int) else (n:Int)) then (128:Int) else (if (0:Int) > (n:Int) then (0:Int) else (n:Int))) = (n:Int):=by repeat' split <;> omega
    simp only [Zil,hright,hr,Option.bind_some,Bool.not_true,cond_false,ZgT,cond_true,hmin,ZjU]
    have hs:Zja (n:Int) 64 = (n:Int) - 64:=ZlO (by omega) (by omega)
    rw [hs]
    by_cases h64:n≤64
    · rw [Zuk n h64,ZBV _ (by omega)]
      simp only [Option.bind_some]
      rw [and_int' p _ (by omega) (by have:=Nat.pow_pos (a:=2) (n:=64 - n) (by omega); omega),Zud p (64 - n) 64 (by omega) (by omega)]
      have:=and_int' q 0 (by omega) (by omega)
      rw [Nat.and_zero] at this
      rw [show (0:Int) = ((0:Nat):Int) from rfl,this]
      simp [ZnO,h64]
    · rw [ZAF _ (by omega),show (n:Int) - 64 = ((n - 64:Nat):Int) by omega,Zuk (n - 64) (by omega)]
      simp only [Option.bind_some]
      have e1:=and_int' p 18446744073709551615 (by omega) (by omega)
      have e2:=Zud p 0 64 (by omega) (by omega)
      rw [show (2:Nat) ^ 64 - 2 ^ 0 = 18446744073709551615 from rfl,Nat.pow_zero,Nat.mod_one,Nat.sub_zero] at e2
      rw [e2] at e1
      rw [show (18446744073709551615:Int) = ((18446744073709551615:Nat):Int) from rfl,e1]
      rw [show 64 - (n - 64) = 128 - n by omega,and_int' q _ (by omega) (by have:=Nat.pow_pos (a:=2) (n:=128 - n) (by omega); omega),Zud q (128 - n) 64 (by omega) (by omega)]
      simp [ZnO,h64]
theorem ZlW (a:Zag) (n:Nat):(ZnO a n).fV6 = a.fV6:=by
  unfold ZnO
  cases h:a.fV6
  · rfl
  · simp only [if_true]; split <;> rfl
theorem ZpD {a:Zag} (h:Fits a) (n:Nat):Fits (ZnO a n):=by
  have:=h.hi0; have:=h.hi1; have:=h.lo0; have:=h.lo1
  have l : ∀ x y:Nat,x - x % y≤x:=fun x y =>Nat.sub_le _ _
  have l1:=l a.fHi.toNat (2 ^ (64 - n)); have l2:=l a.fLo.toNat (2 ^ (128 - n)); have l3:=l a.fLo.toNat (2 ^ (32 - n))
  unfold ZnO
  cases hv:a.fV6
  · have:=h.v4 hv
    simp only [Bool.false_eq_true,if_false]
    exact ⟨by simp only; omega,by simp only; omega,by simp only; omega,by simp only; omega,fun _ =>⟨this.1,by simp only; omega⟩⟩
  · simp only [if_true]
    split
    · exact ⟨by simp only; omega,by simp only; omega,by simp only; omega,by simp only; omega,fun h =>by simp at h⟩
    · exact ⟨by simp only; omega,by simp only; omega,by simp only; omega,by simp only; omega,fun h =>by simp at h⟩
theorem ZoQ {hi lo j:Nat} (hl:lo < 2 ^ 64):(2 ^ 64 * hi + lo).testBit j = if j < 64 then lo.testBit j else hi.testBit (j - 64):=Nat.testBit_two_pow_mul_add hi hl j
theorem ZnM {a:Zag} (h:Fits a) (n i:Nat) (hn:n≤wid a) (hi:i < wid a):bitN (ZnO a n) i = (decide (i < n) && bitN a i):=by
  have h1:=h.hi0; have h2:=h.hi1; have h3:=h.lo0; have h4:=h.lo1
  unfold bitN
  have hw:wid (ZnO a n) = wid a:=by unfold wid; rw [ZlW]
  rw [hw]
  unfold wid at hn hi ⊢
  unfold num ZnO
  cases hv:a.fV6
  · simp only [hv,Bool.false_eq_true,if_false] at *
    rw [Int.toNat_natCast,ZwM]
    congr 1
    rw [decide_eq_decide]; omega
  · simp only [hv,if_true] at *
    have hlo:a.fLo.toNat < 2 ^ 64:=by omega
    by_cases h64:n≤64
    · simp only [h64,if_true,Int.toNat_natCast]
      rw [ZoQ (by simp),ZoQ hlo]
      by_cases hj:128 - 1 - i < 64
      · simp only [hj,if_true]
        rw [show (decide (i < n)) = false by rw [decide_eq_false_iff_not]; omega]
        simp
      · simp only [hj,if_false]
        rw [ZwM]
        congr 1
        rw [decide_eq_decide]; omega
    · simp only [h64,if_false,if_true,Int.toNat_natCast]
      rw [ZoQ (Nat.lt_of_le_of_lt (Nat.sub_le _ _) hlo),ZoQ hlo]
      by_cases hj:128 - 1 - i < 64
      · simp only [hj,if_true]
        rw [ZwM]
        congr 1
        rw [decide_eq_decide]; omega
      · simp only [hj,if_false]
        rw [show (decide (i < n)) = true by rw [decide_eq_true_eq]; omega]
        simp
def Ziy (p:Zap):Bool:=ZfN p.fAddr && decide (0≤p.fBits) && decide (p.fBits≤(wid p.fAddr:Int)) && decide (ZnO p.fAddr p.fBits.toNat = p.fAddr)
structure RN (p:Zap):Prop where
  ok:p.fAddr.ok
  right:ZfN p.fAddr = true
  nn:0≤p.fBits
  le:p.fBits≤(wid p.fAddr:Int)
  cut:ZnO p.fAddr p.fBits.toNat = p.fAddr
theorem RN.fits {p:Zap} (h:RN p):Fits p.fAddr:=Zoq h.ok h.right
theorem ZyY {p:Zap} (h:p.fAddr.ok):Ziy p = true ↔ RN p:=by
  unfold Ziy
  simp only [Bool.and_eq_true,decide_eq_true_eq]
  exact ⟨fun ⟨⟨⟨a,b⟩,c⟩,d⟩ =>⟨h,a,b,c,d⟩,fun ⟨_,a,b,c,d⟩ =>⟨⟨⟨a,b⟩,c⟩,d⟩⟩
theorem ZAn (a:Zag):ZgT a = some (wid a:Int):=by
  unfold ZgT wid
  cases a.fV6 <;> rfl
theorem Zzw (a:Zag) (h:a.ok) (n:Int):Zje a n = some (if ZfN a = true∧0≤n∧n≤(wid a:Int) then (⟨ZnO a n.toNat,n⟩,true) else (⟨⟨false,0,0⟩,0⟩,false)):=by
  simp only [Zje,ZlM a h,ZAn,Option.bind_some,cond_decide']
  cases hr:ZfN a
  · simp
  · simp only [Bool.not_true,cond_false,true_and]
    by_cases h0:n < 0
    · rw [if_pos h0,if_neg (by omega)]
    · rw [if_neg h0]
      by_cases h1:n > (wid a:Int)
      · rw [if_pos h1,if_neg (by omega)]
      · rw [if_neg h1,if_pos (by omega)]
        have:=Zzv h hr n.toNat (by omega)
        rw [Int.toNat_of_nonneg (by omega)] at this
        rw [this]
        rfl
theorem ZnL (p:Zap) (h:p.fAddr.ok):Zhx p = some (Ziy p):=by
  simp only [Zhx,Zzw _ h,Option.bind_some]
  unfold Ziy
  split
  · rename_i hh
    simp only [cond_true,hh.1,hh.2.1,hh.2.2,decide_true,Bool.true_and,Option.some.injEq]
    rw [decide_eq_decide]
    obtain ⟨x,n⟩:=p
    simp
  · rename_i hh
    simp only [cond_false,Option.some.injEq]
    rw [eq_comm,Bool.eq_false_iff]
    intro hq
    simp only [Bool.and_eq_true,decide_eq_true_eq] at hq
    exact hh ⟨hq.1.1.1,hq.1.1.2,hq.1.2⟩
def bs (p:Zap):List Bool:=(List.range p.fBits.toNat).map (bitN p.fAddr)
theorem ZCK {p:Zap} (h:RN p) (i:Nat) (hi:i < wid p.fAddr) (hn:p.fBits.toNat≤i):bitN p.fAddr i = false:=by
  have h1:=ZnM h.fits p.fBits.toNat i (by have:=h.le; omega) hi
  rw [h.cut] at h1
  rw [h1]
  rw [show decide (i < p.fBits.toNat) = false by rw [decide_eq_false_iff_not]; omega]
  rfl
theorem ZCQ (p:Zap) (a:Zag) (hp:RN p) (ha:a.ok):Zjf p a = some (ZfN a && decide (p.fAddr.fV6 = a.fV6) && decide (∀ i,i < p.fBits.toNat→bitN a i = bitN p.fAddr i)):=by
  have hrc:=(ZyY hp.ok).2 hp
  simp only [Zjf,ZnL p hp.ok,hrc,ZlM a ha,Option.bind_some,cond_true]
  cases hr:ZfN a
  · rfl
  · simp only [cond_true,Bool.true_and]
    by_cases hv:p.fAddr.fV6 = a.fV6
    · have hw:wid p.fAddr = wid a:=by unfold wid; rw [hv]
      have hm:=Zzv ha hr p.fBits.toNat (by have:=hp.le; omega)
      rw [Int.toNat_of_nonneg hp.nn] at hm
      have hf:=Zoq ha hr
      rw [show (p.fAddr.fV6 == a.fV6) = true by simp [hv],cond_true,hm,decide_eq_true hv]
      simp only [Option.bind_some,Bool.true_and,Option.some.injEq]
      rw [decide_eq_decide]
      have hle:p.fBits.toNat≤wid a:=by have:=hp.le; omega
      constructor
      · intro e i hi
        have h1:=ZnM hf p.fBits.toNat i hle (by omega)
        rw [e,decide_eq_true hi] at h1
        simpa using h1.symm
      · intro h
        refine Zuf (ZpD hf _) hp.fits (by rw [ZlW]; exact hv.symm) fun i hi =>?_
        have hi:i < wid a:=by unfold wid at hi ⊢; rwa [ZlW] at hi
        rw [ZnM hf p.fBits.toNat i hle hi]
        by_cases hb:i < p.fBits.toNat
        · rw [decide_eq_true hb,h i hb]; rfl
        · rw [decide_eq_false hb,ZCK hp i (by omega) (by omega)]; rfl
    · rw [show (p.fAddr.fV6 == a.fV6) = false by simp [hv],cond_false,decide_eq_false hv]
      rfl
theorem bit_at' (n k:Nat) (hk:k < 64) (hn:n < 2 ^ 64):IntKind.i64.wrap (IntKind.u64.wrap (((BitVec.ofInt (IntKind.bits .u64) (Int.fdiv (n:Int) (2 ^ (min ((k:Nat):Int).toNat (IntKind.bits .u64))))) &&& (BitVec.ofInt (IntKind.bits .u64) (1:Int))).toNat:Int)) = if n.testBit k then 1 else 0:=by
  rw [Int.toNat_natCast,show min k (IntKind.bits .u64) = k from Nat.min_eq_left (by simp [IntKind.bits]; omega)]
  have e:Int.fdiv (n:Int) (2 ^ k) = ((n / 2 ^ k:Nat):Int):=by
    rw [Int.fdiv_eq_ediv_of_nonneg _ (by have:(0:Int) < 2 ^ k:=Int.pow_pos (by omega); omega)]
    simp
  have h1:n / 2 ^ k < 2 ^ 64:=Nat.lt_of_le_of_lt (Nat.div_le_self _ _) hn
  rw [e,show (1:Int) = ((1:Nat):Int) from rfl,and_int' _ 1 h1 (by omega),Nat.and_one_is_mod,Nat.testBit_eq_decide_div_mod_eq]
  have h2:n / 2 ^ k % 2 < 2:=Nat.mod_lt _ (by omega)
  have h3:IntKind.i64.wrap ((n / 2 ^ k % 2:Nat):Int) = ((n / 2 ^ k % 2:Nat):Int):=by
    simp only [IntKind.wrap,IntKind.bits,IntKind.signed]
    simp
    omega
  rw [h3]
  simp only [decide_eq_true_eq]
  split <;> omega
end Go.Proofs.YtdjfoojllbfcgaaGreat
namespace Go.Proofs.YtdjfoojllbfcgaaGreat
set_option linter.unusedSimpArgs false
set_option linter.unusedVariables false
end Go.Proofs.YtdjfoojllbfcgaaGreat
namespace Go.Proofs.YtdjfoojllbfcgaaGreat
set_option linter.unusedSimpArgs false
set_option linter.unusedVariables false
def ext' (p:Zap) (b:Bool):Nat→Bool:=fun i =>if i < p.fBits.toNat then bitN p.fAddr i else b
end Go.Proofs.YtdjfoojllbfcgaaGreat
namespace Go.Proofs.YtdjfoojllbfcgaaGreat
set_option linter.unusedSimpArgs false
set_option linter.unusedVariables false
theorem ZvX {a:Zag} (h:Fits a) (i:Nat) (hi:i < wid a):Zdr a (i:Int) = some (if bitN a i then 1 else 0):=by
  have h1:=h.hi0; have h2:=h.hi1; have h3:=h.lo0; have h4:=h.lo1
  obtain ⟨v,hi',lo⟩:=a
  obtain ⟨p,hp⟩:=ZuL h.hi0
  obtain ⟨q,hq⟩:=ZuL h.lo0
  simp only at hp hq h1 h2 h3 h4
  subst hp hq
  have hw : ∀ k:Nat,k < 64→(IntKind.u64.wrap ((k:Nat):Int)) = ((k:Nat):Int):=fun k hk =>Zjj (by omega) (by omega)
  cases v with
  | false =>
    have hi:i < 32:=hi
    have e:Zja (31:Int) (i:Int) = ((31 - i:Nat):Int):=by rw [ZlO (by omega) (by omega)]; omega
    simp only [Zdr,ZbL,ZcZ,cond_decide',Option.bind_some,cond_false,Bool.not_false,cond_true,e,hw (31 - i) (by omega)]
    rw [if_neg (by omega),if_neg (by omega),Zay (by omega),bit_at' q _ (by omega) (by omega)]
    rfl
  | true =>
    have hi:i < 128:=hi
    have hb:bitN ⟨true,(p:Int),(q:Int)⟩ i = if 127 - i < 64 then q.testBit (127 - i) else p.testBit (127 - i - 64):=by
      unfold bitN num wid
      simp only [if_true,Int.toNat_natCast]
      rw [ZoQ (by omega)]
    rw [hb]
    have et:Int.tmod (i:Int) 64 = ((i % 64:Nat):Int):=by rw [Int.tmod_eq_emod_of_nonneg (by omega)]; rfl
    have hm:i % 64 < 64:=Nat.mod_lt _ (by omega)
    have e:Zja (63:Int) ((i % 64:Nat):Int) = ((63 - i % 64:Nat):Int):=by rw [ZlO (by omega) (by omega)]; omega
    simp only [Zdr,ZbL,ZcZ,cond_decide',Option.bind_some,cond_false,Bool.not_true,cond_true,et,e,hw (63 - i % 64) (by omega)]
    rw [if_neg (by omega),if_neg (by omega)]
    by_cases h64:i < 64
    · rw [if_pos (by omega),Zay (by omega),bit_at' p _ (by omega) (by omega),if_neg (show ¬ 127 - i < 64 by omega),show 63 - i % 64 = 127 - i - 64 by omega]
    · rw [if_neg (by omega),Zay (by omega),bit_at' q _ (by omega) (by omega),if_pos (show 127 - i < 64 by omega),show 63 - i % 64 = 127 - i by omega]
theorem Zqv (a:Zag):ZbL a = some (wid a:Int):=by
  unfold ZbL wid
  cases a.fV6 <;> rfl
theorem Zui (a:Zag):wid a≤128:=by unfold wid; split <;> omega
theorem add1' {i:Nat} (h:i≤1000000):ZaD (i:Int) 1 = ((i + 1:Nat):Int):=by rw [ZjY (by omega) (by omega)]; omega
theorem Zzg {p:Zap} (hf:Fits p.fAddr) : ∀ fu (i:Nat),i≤wid p.fAddr→wid p.fAddr - i < fu→∃ r,ZcK fu (i:Int) p = some r∧(r = true ↔ ∀ j,i≤j→j < wid p.fAddr→bitN p.fAddr j = false):=by
  have hw:=Zui p.fAddr
  intro fu
  induction fu with
  | zero =>intro _ _ h; omega
  | succ fu ih =>
    intro i hi hfu
    simp only [ZcK,Zqv,Option.bind_some,cond_decide']
    by_cases h:i < wid p.fAddr
    · rw [if_pos (by omega),ZvX hf i h,add1' (by omega)]
      simp only [Option.bind_some]
      obtain ⟨r,h1,h2⟩:=ih (i + 1) (by omega) (by omega)
      cases hb:bitN p.fAddr i with
      | true =>
        simp only [if_true,beq_self_eq_true,cond_true]
        refine ⟨false,rfl,?_⟩
        simp only [Bool.false_eq_true,false_iff]
        intro hq
        have:=hq i (Nat.le_refl _) h
        rw [hb] at this; cases this
      | false =>
        simp only [Bool.false_eq_true,if_false]
        rw [show ((0:Int) == 1) = false from rfl,cond_false]
        refine ⟨r,h1,h2.trans ⟨fun q j h3 h4 =>?_,fun q j h3 h4 =>q j (by omega) h4⟩⟩
        by_cases h5:j = i
        · subst h5; exact hb
        · exact q j (by omega) h4
    · rw [if_neg (by omega)]
      exact ⟨true,rfl,by simp; intro j h3 h4; omega⟩
theorem Zpz (p:Zap) (h:p.fAddr.ok):Zdo p = some (Ziy p):=by
  simp only [Zdo,Zlo p.fAddr h,Zqv,Option.bind_some,cond_decide']
  unfold Ziy
  cases hr:ZfN p.fAddr
  · simp
  · have hf:=Zoq h hr
    simp only [Bool.not_true,cond_false,Bool.true_and]
    by_cases h0:p.fBits < 0
    · rw [if_pos h0,show decide (0≤p.fBits) = false by rw [decide_eq_false_iff_not]; omega]; simp
    · rw [if_neg h0]
      by_cases h1:p.fBits > (wid p.fAddr:Int)
      · rw [if_pos h1,show decide (p.fBits≤(wid p.fAddr:Int)) = false by rw [decide_eq_false_iff_not]; omega]; simp
      · rw [if_neg h1,show decide (0≤p.fBits) = true by rw [decide_eq_true_eq]; omega,show decide (p.fBits≤(wid p.fAddr:Int)) = true by rw [decide_eq_true_eq]; omega]
        have hw:=Zui p.fAddr
        obtain ⟨r,r1,r2⟩:=Zzg hf 1000000 p.fBits.toNat (by omega) (by omega)
        rw [Int.toNat_of_nonneg (by omega)] at r1
        rw [r1,Option.some.injEq,Bool.true_and,Bool.true_and,Bool.eq_iff_iff,r2,decide_eq_true_eq]
        constructor
        · intro q
          refine Zuf (ZpD hf _) hf (ZlW _ _) fun i hi =>?_
          have hi:i < wid p.fAddr:=by unfold wid at hi ⊢; rwa [ZlW] at hi
          rw [ZnM hf p.fBits.toNat i (by omega) hi]
          by_cases hb:i < p.fBits.toNat
          · rw [decide_eq_true hb]; rfl
          · rw [decide_eq_false hb,q i (by omega) hi]; rfl
        · intro q j h3 h4
          have:=ZnM hf p.fBits.toNat j (by omega) h4
          rw [q,decide_eq_false (by omega)] at this
          exact this
def hasS (p:Zap) (a:Zag):Bool:=Ziy p && (ZfN a && decide (p.fAddr.fV6 = a.fV6) && decide (∀ i,i < p.fBits.toNat→bitN a i = bitN p.fAddr i))
theorem Zux {p:Zap} {a:Zag} (hp:RN p) (ha:Fits a) (hv:p.fAddr.fV6 = a.fV6) : ∀ fu (i:Nat),i≤p.fBits.toNat→p.fBits.toNat - i < fu→∃ r,ZcE fu (i:Int) p a = some r∧(r = true ↔ ∀ j,i≤j→j < p.fBits.toNat→bitN a j = bitN p.fAddr j):=by
  have hw:=Zui p.fAddr
  have hwa:wid p.fAddr = wid a:=by unfold wid; rw [hv]
  have n1:=hp.nn; have l1:=hp.le
  intro fu
  induction fu with
  | zero =>intro _ _ h; omega
  | succ fu ih =>
    intro i hi hfu
    simp only [ZcE,cond_decide']
    by_cases h:i < p.fBits.toNat
    · rw [if_pos (by omega),ZvX hp.fits i (by omega),ZvX ha i (by omega),add1' (by omega)]
      simp only [Option.bind_some]
      obtain ⟨r,h1,h2⟩:=ih (i + 1) (by omega) (by omega)
      by_cases hb:bitN a i = bitN p.fAddr i
      · rw [hb]
        simp only [bne_self_eq_false,cond_false]
        refine ⟨r,h1,h2.trans ⟨fun q j h3 h4 =>?_,fun q j h3 h4 =>q j (by omega) h4⟩⟩
        by_cases h5:j = i
        · subst h5; exact hb
        · exact q j (by omega) h4
      · have hne:((if bitN p.fAddr i = true then (1:Int) else 0) != if bitN a i = true then 1 else 0) = true:=by
          revert hb
          cases bitN a i <;> cases bitN p.fAddr i <;> simp
        rw [hne,cond_true]
        refine ⟨false,rfl,?_⟩
        simp only [Bool.false_eq_true,false_iff]
        intro hq
        exact hb (hq i (Nat.le_refl _) h)
    · rw [if_neg (by omega)]
      exact ⟨true,rfl,by simp; intro j h3 h4; omega⟩
theorem ZAU (p:Zap) (a:Zag) (hp:p.fAddr.ok) (ha:a.ok):Zgm p a = some (hasS p a):=by
  simp only [Zgm,Zpz p hp,Zlo a ha,Option.bind_some]
  unfold hasS
  cases hc:Ziy p
  · rfl
  · have hrn:=(ZyY hp).1 hc
    simp only [Bool.not_true,cond_false,Bool.true_and]
    cases hr:ZfN a
    · rfl
    · simp only [Bool.not_true,cond_false,Bool.true_and]
      by_cases hv:p.fAddr.fV6 = a.fV6
      · rw [show (!(p.fAddr.fV6 == a.fV6)) = false by simp [hv],cond_false,decide_eq_true hv,Bool.true_and]
        have hw:=Zui p.fAddr; have n1:=hrn.nn; have l1:=hrn.le
        obtain ⟨r,r1,r2⟩:=Zux hrn (Zoq ha hr) hv 1000000 0 (by omega) (by omega)
        have r1:ZcE 1000000 0 p a = some r:=r1
        rw [r1,Option.some.injEq,Bool.eq_iff_iff,r2,decide_eq_true_eq]
        exact ⟨fun q j hj =>q j (by omega) hj,fun q j _ hj =>q j hj⟩
      · rw [show (!(p.fAddr.fV6 == a.fV6)) = true by simp [hv],cond_true,decide_eq_false hv]; rfl
end Go.Proofs.YtdjfoojllbfcgaaGreat
namespace Go.Proofs.YtdjfoojllbfcgaaGreat
set_option linter.unusedSimpArgs false
set_option linter.unusedVariables false
end Go.Proofs.YtdjfoojllbfcgaaGreat
namespace Go.Proofs.YtdjfoojllbfcgaaGreat
set_option linter.unusedSimpArgs false
set_option linter.unusedVariables false
theorem ZqP {n:Nat} (h:n≤100000):n * 40≤140737488355328∧n≤maxLen:=⟨by omega,by unfold maxLen; omega⟩
end Go.Proofs.YtdjfoojllbfcgaaGreat
namespace Go.Proofs.YtdjfoojllbfcgaaGreat
set_option linter.unusedSimpArgs false
set_option linter.unusedVariables false
def ZlP (b:Zab):Bool:=Ziy b.fNet && decide (1≤b.fUntil) && decide (b.fUntil≤1099511627776)
theorem ZAp (b:Zab) (h:b.ok):Zkx b = some (ZlP b):=by
  simp only [Zkx,ZnL _ h.1.1,ZlP,Option.bind_some,cond_decide']
  cases Ziy b.fNet
  · rfl
  · simp only [cond_true,Bool.true_and]
    by_cases h1:1≤b.fUntil
    · rw [if_pos h1,decide_eq_true h1]; rfl
    · rw [if_neg h1,decide_eq_false h1]; rfl
theorem ZvW (b:Zab) (h:b.ok):Zfa b = some (ZlP b):=by
  simp only [Zfa,Zpz _ h.1.1,ZlP,Option.bind_some,cond_decide']
  cases Ziy b.fNet
  · rfl
  · simp only [cond_true,Bool.true_and]
    by_cases h1:1≤b.fUntil
    · rw [if_pos (by omega),decide_eq_true h1]; rfl
    · rw [if_neg (by omega),decide_eq_false h1]; rfl
def ZnS (l:List Zab) (n:Zap):Int:=ixOf (fun x =>decide (x.fNet = n)) l 0
def Zti (l:List Zab) (n:Zap):Int:=ixOf (fun x =>decide (0 < cmpN x.fNet n)) l 0
theorem ZAo (l:List Zab) (n:Zap) (hl:l.length≤maxLen):Zkw l n = some (ZnS l n):=by
  simp only [Zkw,Zcr]
  rw [show ((0:Int)) = ((0:Nat):Int) from rfl]
  rw [ZlX l Zab.d (fun x =>decide (x.fNet = n)) hl (fun fu i =>ZaJ l n fu (l.length:Int) i) (fun i =>i) ?_ ?_ _ 0 (by omega) (by omega)]
  · rfl
  · intro fu i hi
    simp only [ZaJ,ZjV,cond_decide',Option.bind_some]
    rw [if_pos (by omega),Zay ⟨by omega,by omega⟩]
    simp
  · intro fu
    simp only [ZaJ,cond_decide']
    rw [if_neg (by omega)]
theorem Zyc (l:List Zab) (n:Zap) (hl:l.length≤maxLen):ZeZ l n = some (ZnS l n):=by
  simp only [ZeZ]
  rw [show ((0:Int)) = ((0:Nat):Int) from rfl]
  rw [ZlX l Zab.d (fun x =>decide (x.fNet = n)) hl (fun fu i =>Zco l fu i n) (fun i =>i) ?_ ?_ _ 0 (by omega) (by omega)]
  · rfl
  · intro fu i hi
    simp only [Zco,cond_decide']
    rw [if_pos (by omega),Zay ⟨by omega,by omega⟩]
    simp
  · intro fu
    simp only [Zco,cond_decide']
    rw [if_neg (by omega)]
theorem ZyG (l:List Zab) (b:Zab) (hl:l.length≤maxLen):ZbF l b = some (Zti l b.fNet):=by
  simp only [ZbF]
  rw [show ((0:Int)) = ((0:Nat):Int) from rfl]
  rw [ZlX l Zab.d (fun x =>decide (0 < cmpN x.fNet b.fNet)) hl (fun fu i =>ZaK l b fu (l.length:Int) i) (fun i =>i) ?_ ?_ _ 0 (by omega) (by omega)]
  · rfl
  · intro fu i hi
    simp only [ZaK,ZkU,ZBj,cond_decide',Option.bind_some]
    rw [if_pos (by omega),Zay ⟨by omega,by omega⟩]
    simp
  · intro fu
    simp only [ZaK,cond_decide']
    rw [if_neg (by omega)]
def putB (l:List Zab) (b:Zab):List Zab:=l.takeWhile (fun x =>!decide (0 < cmpN x.fNet b.fNet)) ++ [b] ++ l.dropWhile (fun x =>!decide (0 < cmpN x.fNet b.fNet))
def ZCj (x b:Zab):Zab:=⟨x.fNet,if b.fUntil > x.fUntil then b.fUntil else x.fUntil⟩
def addB (l:List Zab) (b:Zab) (most:Int):List Zab × Int :=
  if ZlP b then if 0≤ZnS l b.fNet then (l.set (ZnS l b.fNet).toNat (ZCj (l.getD (ZnS l b.fNet).toNat Zab.d) b),0) else if (l.length:Int) ≥ most then ([],5) else (putB l b,0) else ([],1)
theorem ZzK (l:List Zab) (n:Zap) (h:0≤ZnS l n):(ZnS l n).toNat < l.length∧(l.getD (ZnS l n).toNat Zab.d).fNet = n:=by
  obtain ⟨k,h1,h2,⟨x,h3,h4⟩,_⟩:=ZnE _ l 0 h
  have e:(ZnS l n).toNat = k:=by unfold ZnS; rw [h2]; omega
  rw [e]
  refine ⟨h1,?_⟩
  rw [List.getD_eq_getElem?_getD,h3]
  simpa using h4
theorem ZAe (l:List Zab) (h:l.length≤10000):ZbE l = some l:=by
  unfold ZbE
  rw [Zay (ZqP (by omega))]
theorem ZsY (l:List Zab) (i:Int) (e:Zab) (h:l.length≤10000) (h0:0≤i) (h1:i.toNat≤l.length):Zbj l i [e] = some (l.take i.toNat ++ [e] ++ l.drop i.toNat):=by
  unfold Zbj
  rw [Zay ⟨h0,h1,by simp,by simp only [List.length_cons,List.length_nil]; omega,by unfold maxLen; simp only [List.length_cons,List.length_nil]; omega⟩]
theorem ZBp (l:List Zab) (b:Zab) (most:Int) (h:l.length≤10000) (hb:b.ok):ZlJ l b most = some (addB l b most):=by
  have hm:l.length≤maxLen:=by unfold maxLen; omega
  have hs:=ZsX (fun x:Zab =>decide (0 < cmpN x.fNet b.fNet)) l 0
  have hle:=Zwj (fun x:Zab =>decide (0 < cmpN x.fNet b.fNet)) l 0
  simp only [ZlJ,ZAp b hb,ZAo l _ hm,ZyG l b hm,ZAe l h,Option.bind_some,addB]
  cases ZlP b
  · rfl
  · simp only [Bool.not_true,cond_false,if_true,cond_decide',ge_iff_le]
    by_cases h1:0≤ZnS l b.fNet
    · obtain ⟨f1,f2⟩:=ZzK l b.fNet h1
      simp only [h1,if_true]
      rw [Zay ⟨trivial,by omega⟩]
      simp only [ZnI,f2,decide_true,cond_true,Option.bind_some]
      rw [Zay ⟨trivial,by omega⟩]
      simp only [ZCj,f2]
    · simp only [h1,if_false]
      by_cases h2:most≤(l.length:Int)
      · simp only [h2,if_true]
      · simp only [h2,if_false]
        by_cases h3:Zti l b.fNet < 0
        · rw [if_pos h3,ZsY l _ b h (by omega) (by simp)]
          simp only [Option.bind_some]
          obtain ⟨h4,h5⟩:=hs.1 h3
          unfold putB
          rw [h4,h5]
          simp
        · rw [if_neg h3]
          have h3' : 0≤Zti l b.fNet:=by omega
          unfold Zti at h3'
          rw [ZsY l _ b h (by omega) (by unfold Zti; omega)]
          simp only [Option.bind_some]
          obtain ⟨_,h4,h5⟩:=hs.2 h3'
          unfold putB Zti
          rw [h4,h5]
          rfl
theorem ZAT (l : List Zab) (e : Zab) (h : l.length ≤ 10000) : ∀ fu (i : Nat), i ≤ l.length → l.length - i < fu →
    ZcX l fu (i:Int) e = some (l.take i ++ putB (l.drop i) e,0):=by
  have hm:l.length≤maxLen:=by unfold maxLen; omega
  have hfin : ∀ i : Nat, i ≤ l.length → (need (0 ≤ (i : Int) ∧ (i : Int) ≤ ((l.length : Nat) : Int)) <|
      need ((([]:List Zab) ++ (l.take (i:Int).toNat)).length * 40≤140737488355328∧(([]:List Zab) ++ (l.take (i:Int).toNat)).length≤maxLen) <|
      need (((([]:List Zab) ++ (l.take (i:Int).toNat)) ++ ([e]:List Zab)).length * 40≤140737488355328∧((([]:List Zab) ++ (l.take (i:Int).toNat)) ++ ([e]:List Zab)).length≤maxLen) <|
      need ((((([]:List Zab) ++ (l.take (i:Int).toNat)) ++ ([e]:List Zab)) ++ (l.drop (i:Int).toNat)).length * 40≤140737488355328∧(((([]:List Zab) ++ (l.take (i:Int).toNat)) ++ ([e]:List Zab)) ++ (l.drop (i:Int).toNat)).length≤maxLen) <|
      some ((((([]:List Zab) ++ (l.take (i:Int).toNat)) ++ ([e]:List Zab)) ++ (l.drop (i:Int).toNat)),(0:Int))) = some (l.take i ++ [e] ++ l.drop i,0):=by
    intro i hi
    rw [Zay ⟨by omega,by omega⟩,Zay (ZqP (by simp; omega)),Zay (ZqP (by simp; omega)),Zay (ZqP (by simp; omega))]
    simp
  intro fu
  induction fu with
  | zero =>intro i _ h; omega
  | succ fu ih =>
    intro i hi hf
    simp only [ZcX,ZAR,Option.bind_some,cond_decide']
    by_cases hlt:i < l.length
    · rw [if_pos (by omega),Zay ⟨by omega,by omega⟩]
      have hd:=ZjD l Zab.d i hlt
      by_cases hc:cmpN (l.getD i Zab.d).fNet e.fNet≤0
      · rw [if_pos (by simpa using hc),add1 hlt hm,ih (i + 1) (by omega) (by omega)]
        congr 2
        unfold putB
        rw [hd,List.takeWhile_cons,List.dropWhile_cons,if_pos (by simp; simpa using hc),if_pos (by simp; simpa using hc),List.take_succ_eq_append_getElem hlt]
        rw [ZjH l Zab.d i hlt]
        simp only [List.append_assoc,List.cons_append,List.nil_append]
      · rw [if_neg (by simpa using hc),hfin i hi]
        congr 2
        unfold putB
        rw [hd,List.takeWhile_cons,List.dropWhile_cons,if_neg (by simp; simpa using hc),if_neg (by simp; simpa using hc)]
        simp
    · rw [if_neg (by omega),hfin i hi]
      have:l.drop i = []:=List.drop_eq_nil_of_le (by omega)
      rw [this]
      simp [putB]
theorem Zxh (l:List Zab) (b:Zab) (most:Int) (h:l.length≤10000) (hb:b.ok):Zgk l b most = some (addB l b most):=by
  have hm:l.length≤maxLen:=by unfold maxLen; omega
  simp only [Zgk,ZvW b hb,Zyc l _ hm,Option.bind_some,addB]
  cases ZlP b
  · rfl
  · simp only [Bool.not_true,cond_false,if_true,cond_decide',ge_iff_le,List.nil_append]
    by_cases h1:0≤ZnS l b.fNet
    · obtain ⟨f1,f2⟩:=ZzK l b.fNet h1
      simp only [h1,if_true]
      rw [Zay (ZqP (by omega)),Zay ⟨trivial,by omega⟩]
      unfold ZCj
      by_cases hg:b.fUntil > (l.getD (ZnS l b.fNet).toNat Zab.d).fUntil
      · simp only [hg,if_true]
      · simp only [hg,if_false]
        congr 2
        have e:(⟨(l.getD (ZnS l b.fNet).toNat Zab.d).fNet,(l.getD (ZnS l b.fNet).toNat Zab.d).fUntil⟩ : Zab) = l[(ZnS l b.fNet).toNat]:=by rw [ZjH l _ _ f1]
        rw [e,List.set_getElem_self]
    · simp only [h1,if_false]
      by_cases h2:most≤(l.length:Int)
      · simp only [h2,if_true]
      · simp only [h2,if_false]
        have:=ZAT l b h ((((l.length:Nat):Int) - (0:Int)).toNat + 2) 0 (by omega) (by omega)
        simpa using this
theorem ZAX (l:List Zab) (e:Zab):(putB l e).length = l.length + 1:=by
  unfold putB
  have:=congrArg List.length (List.takeWhile_append_dropWhile (p:=fun x:Zab =>!decide (0 < cmpN x.fNet e.fNet)) (l:=l))
  simp only [List.length_append,List.length_cons,List.length_nil] at this ⊢
  omega
theorem ZBv (l:List Zab) (e:Zab) (most:Int):(addB l e most).1.length≤l.length + 1:=by
  unfold addB
  repeat' split
  all_goals simp [ZAX]
end Go.Proofs.YtdjfoojllbfcgaaGreat
namespace Go.Proofs.YtdjfoojllbfcgaaGreat
set_option linter.unusedVariables false
set_option linter.unusedSimpArgs false
def u64r (x:Int):Prop:=0≤x∧x≤18446744073709551615
theorem ZlN (a:Int):u64r (IntKind.wrap .u64 a):=by
  unfold u64r
  simp only [IntKind.wrap,IntKind.bits,IntKind.signed]
  simp
  omega
theorem ZBE {a:Int} (h:u64r a):IntKind.wrap .u64 a = a:=Zjj h.1 h.2
theorem ZpY {a:Int} (h:u64r a) (k:Int) (hk:0 < k):IntKind.wrap .u64 (Int.tdiv a k) = Int.fdiv a k:=by
  obtain ⟨n,rfl⟩ : ∃ n:Nat,a = n:=⟨a.toNat,by have:=h.1; omega⟩
  obtain ⟨m,rfl⟩ : ∃ m:Nat,k = m:=⟨k.toNat,by omega⟩
  have h1:=h.2
  rw [Int.fdiv_eq_tdiv_of_nonneg (by omega) (by omega)]
  refine ZBE ⟨Int.tdiv_nonneg (by omega) (by omega),?_⟩
  have:Int.tdiv (n:Int) (m:Int)≤(n:Int):=by
    rw [← Int.ofNat_tdiv]
    have:=Nat.div_le_self n m
    omega
  omega
theorem pw30:(2:Int) ^ (min (30:Int).toNat (IntKind.bits .u64)) = 1073741824:=by decide
theorem pw27:(2:Int) ^ (min (27:Int).toNat (IntKind.bits .u64)) = 134217728:=by decide
theorem pw31:(2:Int) ^ (min (31:Int).toNat (IntKind.bits .u64)) = 2147483648:=by decide
theorem pw32:(2:Int) ^ (min (32:Int).toNat (IntKind.bits .u64)) = 4294967296:=by decide
theorem pw57:(2:Int) ^ (min (57:Int).toNat (IntKind.bits .u64)) = 144115188075855872:=by decide
theorem pw7:(2:Int) ^ (min (7:Int).toNat (IntKind.bits .u64)) = 128:=by decide
theorem Zwh (x:Int) (h:u64r x) : ∃ y,Zkm x = some y∧ZdY x = some y∧u64r y:=by
  unfold Zkm ZdY
  simp only [pw30,pw27,pw31,ZpY h 1073741824 (by omega),ZpY (ZlN _) 134217728 (by omega),ZpY (ZlN _) 2147483648 (by omega)]
  exact ⟨_,rfl,rfl,ZlN _⟩
theorem ZCM (a b:Nat) (ha:a < 2 ^ 64) (hb:b < 2 ^ 64):IntKind.u64.wrap (((BitVec.ofInt (IntKind.bits .u64) (a:Int)) ||| (BitVec.ofInt (IntKind.bits .u64) (b:Int))).toNat:Int) = ((a ||| b:Nat):Int):=by
  have h1 : ∀ c:Nat,c < 2 ^ 64→(BitVec.ofInt 64 (c:Int)).toNat = c:=fun c hc =>by
    rw [BitVec.ofInt_natCast,BitVec.toNat_ofNat]
    exact Nat.mod_eq_of_lt hc
  have h2:((BitVec.ofInt (IntKind.bits .u64) (a:Int)) ||| (BitVec.ofInt (IntKind.bits .u64) (b:Int))).toNat = a ||| b:=by
    show (BitVec.ofInt 64 (a:Int) ||| BitVec.ofInt 64 (b:Int)).toNat = a ||| b
    rw [BitVec.toNat_or,h1 a ha,h1 b hb]
  rw [h2]
  have:=Nat.or_lt_two_pow ha hb
  exact Zjj (by omega) (by omega)
theorem rot7 (x:Int) (h:u64r x):ZdH x 7 = some (IntKind.wrap .u64 (IntKind.wrap .u64 (x * 128) + IntKind.wrap .u64 (Int.tdiv x 144115188075855872))):=by
  unfold ZdH
  have e7:IntKind.wrap .u64 (((BitVec.ofInt (IntKind.bits .u64) (IntKind.wrap .u64 (7:Int))) &&& (BitVec.ofInt (IntKind.bits .u64) (63:Int))).toNat:Int) = 7:=by decide
  have e57:IntKind.wrap .u64 ((64:Int) - 7) = 57:=by decide
  simp only [e7,e57,pw57,pw7]
  rw [Zay (by omega),Zay (by omega),ZpY h 144115188075855872 (by omega)]
  obtain ⟨n,rfl⟩ : ∃ n:Nat,x = n:=⟨x.toNat,by have:=h.1; omega⟩
  have h1:=h.2
  have e1:IntKind.wrap .u64 ((n:Int) * 128) = ((n % 2 ^ 57 * 128:Nat):Int):=by
    simp only [IntKind.wrap,IntKind.bits,IntKind.signed]
    simp
    omega
  have e2:Int.fdiv (n:Int) 144115188075855872 = ((n / 2 ^ 57:Nat):Int):=by
    rw [Int.fdiv_eq_tdiv_of_nonneg (by omega) (by omega)]
    exact (Int.ofNat_tdiv n 144115188075855872).symm
  have hlt:n % 2 ^ 57 * 128 < 2 ^ 64:=by omega
  have hlt2:n / 2 ^ 57 < 2 ^ 7:=by omega
  rw [e1,e2,ZCM _ _ hlt (by omega)]
  have e3:n % 2 ^ 57 * 128 ||| n / 2 ^ 57 = n % 2 ^ 57 * 128 + n / 2 ^ 57:=by
    have:=Nat.shiftLeft_add_eq_or_of_lt hlt2 (n % 2 ^ 57)
    rw [Nat.shiftLeft_eq] at this
    exact this.symm
  rw [e3]
  congr 1
  rw [Zjj (by omega) (by omega)]
  omega
theorem ZBK (k:Int) (l:List Int) (hl:l.length≤1000) : ∃ h,ZnG k l = some h∧Zft k l = some h∧u64r h:=by
  have hL:l.length≤maxLen:=by unfold maxLen; omega
  have main : ∀ fu (i:Nat) (v:Int),u64r v→i≤l.length→l.length - i < fu→∃ h,Zik fu v l (l.length:Int) (i:Int) = some h∧Zdn l fu v (i:Int) = some h∧u64r h:=by
    intro fu
    induction fu with
    | zero =>intro i v _ _ h; omega
    | succ fu ih =>
      intro i v hv hi hf
      unfold Zik Zdn
      simp only [cond_decide']
      by_cases h:i < l.length
      · rw [if_pos (by omega),if_pos (by omega),Zay ⟨by omega,by omega⟩,Zay ⟨by omega,by omega⟩,rot7 v hv]
        obtain ⟨y,h1,h2,h3⟩:=Zwh _ (ZlN ((l.getD ((i:Int)).toNat (0:Int)) + (11400714819323198485:Int)))
        simp only [h1,h2,Option.bind_some]
        obtain ⟨z,h4,h5,h6⟩:=Zwh _ (ZlN (((BitVec.ofInt (IntKind.bits .u64) (IntKind.wrap .u64 (IntKind.wrap .u64 (v * 128) + IntKind.wrap .u64 (Int.tdiv v 144115188075855872)))) ^^^ (BitVec.ofInt (IntKind.bits .u64) y)).toNat:Int))
        simp only [h4,h5,Option.bind_some,add1 h hL]
        exact ih (i + 1) z h6 (by omega) (by omega)
      · rw [if_neg (by omega),if_neg (by omega)]
        exact ⟨v,rfl,rfl,hv⟩
  unfold ZnG Zft
  obtain ⟨y,h1,h2,h3⟩:=Zwh _ (ZlN (k + (11400714819323198485:Int)))
  simp only [h1,h2,Option.bind_some]
  exact main _ 0 y h3 (by omega) (by omega)
theorem ZCh (k:Int) (n:Zap) : ∃ h,Znb k n = some h∧Zgl k n = some h∧u64r h:=by
  unfold Znb Zgl
  cases n.fAddr.fV6
  · obtain ⟨h,h1,h2,h3⟩:=ZBK k [(4:Int),n.fAddr.fHi,n.fAddr.fLo,(IntKind.wrap .u64 n.fBits)] (by simp)
    simp only [cond_false,h1,h2,Option.bind_some]
    exact ⟨h,rfl,rfl,h3⟩
  · obtain ⟨h,h1,h2,h3⟩:=ZBK k [(6:Int),n.fAddr.fHi,n.fAddr.fLo,(IntKind.wrap .u64 n.fBits)] (by simp)
    simp only [cond_true,h1,h2,Option.bind_some]
    exact ⟨h,rfl,rfl,h3⟩
theorem ZBo (h n:Int) (hh:u64r h) (h1:1≤n) (h8:n≤8) : ∃ r,Zkn h n = some r∧Zfb h n = some r∧0≤r∧r < n:=by
  unfold Zkn Zfb
  simp only [cond_decide',pw32]
  rw [if_neg (by omega),if_neg (by omega),if_neg (by omega),if_neg (by omega),ZpY hh 4294967296 (by omega),ZpY (ZlN _) 4294967296 (by omega)]
  refine ⟨_,rfl,rfl,?_⟩
  obtain ⟨a,rfl⟩ : ∃ a:Nat,h = a:=⟨h.toNat,by have:=hh.1; omega⟩
  have h2:=hh.2
  have e1:Int.fdiv (a:Int) 4294967296 = ((a / 4294967296:Nat):Int):=by
    rw [Int.fdiv_eq_tdiv_of_nonneg (by omega) (by omega)]
    exact (Int.ofNat_tdiv a 4294967296).symm
  rw [e1,ZBE (a:=n) ⟨by omega,by omega⟩]
  have hb : ∀ m:Nat,1≤m→m≤8→a / 4294967296 * m < 4294967296 * m:=fun m h1 h2 =>by
    have:a / 4294967296 < 4294967296:=by omega
    exact Nat.mul_lt_mul_of_pos_right this (by omega)
  obtain ⟨m,rfl⟩ : ∃ m:Nat,n = m:=⟨n.toNat,by omega⟩
  have hb:=hb m (by omega) (by omega)
  generalize hq:a / 4294967296 * m = q at hb
  have e2:((a / 4294967296:Nat):Int) * (m:Int) = (q:Int):=by rw [← hq]; simp
  rw [e2,Zjj (a:=(q:Int)) (by omega) (by omega)]
  have e3:Int.fdiv (q:Int) 4294967296 = ((q / 4294967296:Nat):Int):=by
    rw [Int.fdiv_eq_tdiv_of_nonneg (by omega) (by omega)]
    exact (Int.ofNat_tdiv q 4294967296).symm
  rw [e3,ZfS (by omega) (by omega)]
  omega
theorem Zyo {a:Zag} (h:Fits a):ZnO a (wid a) = a:=by
  refine Zuf (ZpD h _) h (ZlW a _) fun i hi =>?_
  have hw:wid (ZnO a (wid a)) = wid a:=by unfold wid; rw [ZlW]
  rw [hw] at hi
  rw [ZnM h (wid a) i (Nat.le_refl _) hi,decide_eq_true hi,Bool.true_and]
def ZuZ (a:Zag):Zap:=if ZfN a = true then ⟨a,(wid a:Int)⟩ else ⟨⟨false,0,0⟩,0⟩
theorem Zvq (a:Zag) (h:a.ok):Zim a = some (ZuZ a):=by
  unfold Zim ZuZ
  simp only [ZAn,Option.bind_some,Zzw a h]
  by_cases hr:ZfN a = true
  · rw [if_pos ⟨hr,by omega,by omega⟩,if_pos hr]
    simp only [Int.toNat_natCast,Zyo (Zoq h hr)]
  · rw [if_neg (fun x =>hr x.1),if_neg hr]
theorem ZBh (hi lo : Nat) (h1 : hi < 2 ^ 64) (h2 : lo < 2 ^ 64) : ∀ fu (i : Nat) (z : Int), i ≤ 64 → 64 - i < fu → (i < 64 → z = ((2 ^ (63 - i) : Nat) : Int)) →
    Zbo (hi:Int) (lo:Int) 128 fu ((hi - hi % 2 ^ (64 - i):Nat):Int) ((lo - lo % 2 ^ (64 - i):Nat):Int) z (i:Int) = some ((hi:Int),(lo:Int)):=by
  intro fu
  induction fu with
  | zero =>intro i z _ h; omega
  | succ fu ih =>
    intro i z hi64 hf hz
    unfold Zbo
    simp only [cond_decide']
    by_cases h:i < 64
    · have e1:ZaD (i:Int) 64 = ((i + 64:Nat):Int):=by rw [ZjY (by omega) (by omega)]; omega
      have e2:ZaD (i:Int) 1 = ((i + 1:Nat):Int):=by rw [ZjY (by omega) (by omega)]; omega
      have hz:=hz h
      obtain ⟨p,hp⟩ : ∃ p:Nat,p = 2 ^ (63 - i):=⟨_,rfl⟩
      have hp0:0 < p:=by rw [hp]; exact Nat.two_pow_pos _
      have hp1:2 ^ (64 - i) = 2 * p:=by rw [hp,show 64 - i = (63 - i) + 1 by omega,Nat.pow_succ]; omega
      have hp3:p≤2 ^ 63:=by rw [hp]; exact Nat.pow_le_pow_right (by omega) (by omega)
      have hp2:p < 2 ^ 64:=by omega
      rw [← hp] at hz
      subst hz
      have hnext:IntKind.wrap .u64 (Int.tdiv (p:Int) 2) = ((p / 2:Nat):Int):=by
        rw [ZpY ⟨by omega,by omega⟩ 2 (by omega),Int.fdiv_eq_tdiv_of_nonneg (by omega) (by omega)]
        exact (Int.ofNat_tdiv p 2).symm
      have hz2:i + 1 < 64→((p / 2:Nat):Int) = ((2 ^ (63 - (i + 1)):Nat):Int):=fun hh =>by
        have:p = 2 * 2 ^ (63 - (i + 1)):=by rw [hp,show 63 - i = (63 - (i + 1)) + 1 by omega,Nat.pow_succ]; omega
        rw [this]; congr 1; omega
      have bit : ∀ n:Nat,n < 2 ^ 64→IntKind.wrap .u64 (Int.tdiv (n:Int) (p:Int)) = ((n / p:Nat):Int):=fun n hn =>by
        rw [ZpY ⟨by omega,by omega⟩ _ (by omega),Int.fdiv_eq_tdiv_of_nonneg (by omega) (by omega)]
        exact (Int.ofNat_tdiv n p).symm
      have step : ∀ n:Nat,n < 2 ^ 64→(n / p % 2 = 1→IntKind.wrap .u64 (((n - n % 2 ^ (64 - i):Nat):Int) + (p:Int)) = ((n - n % 2 ^ (64 - (i + 1)):Nat):Int))∧(n / p % 2 ≠ 1→((n - n % 2 ^ (64 - i):Nat):Int) = ((n - n % 2 ^ (64 - (i + 1)):Nat):Int)):=fun n hn =>by
        have e:2 ^ (64 - (i + 1)) = p:=by rw [hp]; congr 1; omega
        rw [e,hp1]
        have hm:n % (2 * p) = n % p + p * (n / p % 2):=by rw [Nat.mul_comm 2 p]; exact Nat.mod_mul
        have hm2:n % p < p:=Nat.mod_lt _ hp0
        have hm3:n % (2 * p)≤n:=Nat.mod_le _ _
        refine ⟨fun hb =>?_,fun hb =>?_⟩
        · rw [hb,Nat.mul_one] at hm
          rw [Zjj (by omega) (by omega)]
          omega
        · have hb0:n / p % 2 = 0:=by omega
          rw [hb0,Nat.mul_zero] at hm
          rw [hm]; congr 1
      have tm : ∀ n:Nat,((Int.tmod ((n:Nat):Int) 2) == (1:Int)) = decide (n % 2 = 1):=fun n =>by
        have:Int.tmod ((n:Nat):Int) 2 = ((n % 2:Nat):Int):=(Int.ofNat_tmod n 2).symm
        rw [this]
        by_cases hh:n % 2 = 1
        · rw [hh]; rfl
        · rw [decide_eq_false hh]; exact beq_false_of_ne (by omega)
      have second : ∀ v8:Int,v8 = ((hi - hi % 2 ^ (64 - (i + 1)):Nat):Int)→ZcY (hi:Int) (lo:Int) 128 ((lo - lo % 2 ^ (64 - i):Nat):Int) (p:Int) (i:Int) (Zbo (hi:Int) (lo:Int) 128 fu) v8 = some ((hi:Int),(lo:Int)):=by
        rintro v8 rfl
        unfold ZcY
        simp only [cond_decide',e1,e2,hnext,bit lo h2,tm]
        rw [if_pos (by omega),Zay (by omega)]
        by_cases hb:lo / p % 2 = 1
        · rw [if_pos hb,(step lo h2).1 hb]
          exact ih (i + 1) _ (by omega) (by omega) hz2
        · rw [if_neg hb,(step lo h2).2 hb]
          exact ih (i + 1) _ (by omega) (by omega) hz2
      rw [if_pos (by omega),if_pos (by omega),Zay (by omega)]
      simp only [bit hi h1,tm,cond_decide']
      by_cases hb:hi / p % 2 = 1
      · rw [if_pos hb]
        exact second _ ((step hi h1).1 hb)
      · rw [if_neg hb]
        exact second _ ((step hi h1).2 hb)
    · have:i = 64:=by omega
      subst this
      rw [if_neg (by omega)]
      simp [Nat.mod_one]
theorem Zzf (hi lo:Nat) (h1:hi < 2 ^ 64) (h2:lo < 2 ^ 64):Zdq (hi:Int) (lo:Int) 128 = some ((hi:Int),(lo:Int)):=by
  unfold Zdq
  have:=ZBh hi lo h1 h2 66 0 9223372036854775808 (by omega) (by omega) (fun _ =>by decide)
  have e1:hi - hi % 2 ^ (64 - 0) = 0:=by rw [Nat.sub_zero,Nat.mod_eq_of_lt h1]; omega
  have e2:lo - lo % 2 ^ (64 - 0) = 0:=by rw [Nat.sub_zero,Nat.mod_eq_of_lt h2]; omega
  rw [e1,e2] at this
  exact this
theorem Zxg (a:Zag) (h:a.ok):ZdF a = some (ZuZ a):=by
  unfold ZdF ZgR ZuZ
  simp only [Zqv,Option.bind_some,Zlo a h,cond_decide']
  by_cases hr:ZfN a = true
  · rw [hr,Bool.not_true,cond_false,if_neg (by omega),if_neg (by omega),if_pos rfl]
    unfold ZgQ Zeo Zen
    simp only [Zlo a h,hr,Bool.not_true,cond_false,Option.bind_some,cond_decide',Zqv]
    rw [if_neg (by omega),if_neg (by omega)]
    have hf:=Zoq h hr
    obtain ⟨v6,hi,lo⟩:=a
    have a1:=hf.hi0; have a2:=hf.hi1; have a3:=hf.lo0; have a4:=hf.lo1
    simp only at a1 a2 a3 a4
    obtain ⟨x,rfl⟩ : ∃ x:Nat,hi = x:=⟨hi.toNat,by omega⟩
    obtain ⟨y,rfl⟩ : ∃ y:Nat,lo = y:=⟨lo.toNat,by omega⟩
    cases v6
    · have hv:=hf.v4 rfl
      have e:wid ⟨false,(x:Int),(y:Int)⟩ = 32:=rfl
      have e1:ZaD (96:Int) ((32:Nat):Int) = 128:=by decide
      simp only [e,e1,cond_false]
      have:=Zzf 0 y (by omega) (by omega)
      have e0:Zdq (0:Int) (y:Int) 128 = some (((0:Nat):Int),(y:Int)):=this
      rw [e0,Option.bind_some]
      simp only at hv
      simp [hv.1]
    · have e:wid ⟨true,(x:Int),(y:Int)⟩ = 128:=rfl
      simp only [e,cond_true]
      have:=Zzf x y (by omega) (by omega)
      have e0:Zdq (x:Int) (y:Int) ((128:Nat):Int) = some ((x:Int),(y:Int)):=this
      rw [e0,Option.bind_some]
      rfl
  · simp [hr]
def Zwa (a:Zag) (s n:Int):Int:=(Zjc a s n).getD 0
def ZmR (p:Int):Int:=if p < 1 then 1 else if p > 8 then 8 else p
theorem Ztm (a:Zag) (h:a.ok) (s n:Int):Zjc a s n = some (Zwa a s n)∧Zfs a s n = some (Zwa a s n)∧0≤Zwa a s n∧Zwa a s n < ZmR n:=by
  have e1:ZiB n = some (ZmR n):=by
    unfold ZiB ZmR
    congr 1
    repeat' split
    all_goals omega
  have e2:ZeW n = some (ZmR n):=by
    unfold ZeW ZmR
    simp only [cond_decide']
    repeat' split
    all_goals rfl
  have e3:1≤ZmR n∧ZmR n≤8:=by
    unfold ZmR
    repeat' split
    all_goals omega
  obtain ⟨m,h1,h2,h3⟩:=ZCh s (ZuZ a)
  obtain ⟨r,h4,h5,h6,h7⟩:=ZBo m (ZmR n) h3 e3.1 e3.2
  have q1:Zjc a s n = some r:=by
    unfold Zjc
    simp only [Zvq a h,h1,e1,h4,Option.bind_some]
  have q2:Zfs a s n = some r:=by
    unfold Zfs
    simp only [Zxg a h,h2,e2,h5,Option.bind_some]
  have q3:Zwa a s n = r:=by unfold Zwa; rw [q1]; rfl
  rw [q3]
  exact ⟨q1,q2,h6,h7⟩
end Go.Proofs.YtdjfoojllbfcgaaGreat
namespace Go.Proofs.YtdjfoojllbfcgaaGreat
set_option linter.unusedVariables false
set_option linter.unusedSimpArgs false
def Zmx (h:Int):Int:=if h < 1 then 1 else if h > 1073741824 then 1073741824 else h
def Zrp (s:Zah) (h now:Int):Nat:=(fitI now - fitI s.fAt).toNat / (Zmx h).toNat
def decS (s:Zah) (h now:Int):Zah:=⟨(((fitI s.fPoints).toNat / 2 ^ Zrp s h now:Nat):Int),fitI s.fAt + ((Zrp s h now * (Zmx h).toNat:Nat):Int)⟩
theorem Zxa (h:Int):1≤Zmx h∧Zmx h≤1073741824:=by
  unfold Zmx
  repeat' split
  all_goals omega
theorem ZCr (x:Int) (h:x≤1099511627776):fitI x = ((x.toNat:Nat):Int):=by
  unfold fitI
  split
  · omega
  · rw [if_neg (by omega)]; omega
theorem ZyC (h : Nat) (h0 : 1 ≤ h) (h1 : h ≤ 1073741824) (t : Int) (ht : 0 ≤ t ∧ t ≤ 1099511627776) (b6 : Zah) : ∀ (m fu : Nat) (p a : Nat), p < 2 ^ m → m + 1 ≤ fu → a ≤ 2199023255552 → p ≤ 1099511627776 →
    Zcn (h:Int) b6 fu t ⟨(p:Int),(a:Int)⟩ = some ⟨((p / 2 ^ ((t - (a:Int)).toNat / h):Nat):Int),(a:Int) + (((t - (a:Int)).toNat / h * h:Nat):Int)⟩:=by
  intro m
  have sub : ∀ a:Nat,a≤2199023255552→Zja t (a:Int) = t - (a:Int):=fun a ha =>by
    exact ZlO (by omega) (by omega)
  have last : ∀ (a:Nat),a≤2199023255552→t - (a:Int) ≥ (h:Int)→Zja t (Int.tmod (t - (a:Int)) (h:Int)) = (a:Int) + (((t - (a:Int)).toNat / h * h:Nat):Int):=fun a ha hd =>by
    obtain ⟨d,hd2⟩ : ∃ d:Nat,t - (a:Int) = (d:Int):=⟨(t - (a:Int)).toNat,by omega⟩
    have hd4:t = (d:Int) + (a:Int):=by omega
    rw [hd2,Int.toNat_natCast,← Int.ofNat_tmod]
    have hm:d % h≤d:=Nat.mod_le _ _
    have hdm:=Nat.div_add_mod d h
    rw [Nat.mul_comm] at hdm
    have e:Zja t ((d % h:Nat):Int) = t - ((d % h:Nat):Int):=by
      exact ZlO (by omega) (by omega)
    rw [e]
    generalize d / h * h = q at *
    omega
  induction m with
  | zero =>
    intro fu p a hp hf ha hp2
    obtain ⟨fu,rfl⟩ : ∃ x,fu = x + 1:=⟨fu - 1,by omega⟩
    have hp0:p = 0:=by simpa using hp
    subst hp0
    unfold Zcn
    simp only [cond_decide',sub a ha]
    rw [if_neg (by omega),Nat.zero_div]
    by_cases hd:t - (a:Int) ≥ (h:Int)
    · rw [if_pos hd,Zay (by omega),last a ha hd]
    · have h0:(t - (a:Int)).toNat / h = 0:=Nat.div_eq_of_lt (by omega)
      rw [if_neg hd,h0]
      simp
  | succ m ih =>
    intro fu p a hp hf ha hp2
    obtain ⟨fu,rfl⟩ : ∃ x,fu = x + 1:=⟨fu - 1,by omega⟩
    unfold Zcn
    simp only [cond_decide',sub a ha]
    by_cases hp0:(p:Int) > 0
    · rw [if_pos hp0]
      by_cases hd:t - (a:Int) ≥ (h:Int)
      · rw [if_pos hd]
        have e1:IntKind.wrap .i64 (Int.tdiv (p:Int) 2) = ((p / 2:Nat):Int):=by
          have:Int.tdiv (p:Int) 2 = ((p / 2:Nat):Int):=(Int.ofNat_tdiv p 2).symm
          rw [this]
          exact ZfS (by omega) (by omega)
        have e2:ZaD (a:Int) (h:Int) = ((a + h:Nat):Int):=by rw [ZjY (by omega) (by omega)]; omega
        rw [e1,e2,ih fu (p / 2) (a + h) (by rw [Nat.pow_succ] at hp; omega) (by omega) (by omega) (by omega)]
        obtain ⟨d,hd2⟩ : ∃ d:Nat,t - (a:Int) = ((d + h:Nat):Int):=⟨(t - (a:Int)).toNat - h,by omega⟩
        have hd3:t - ((a + h:Nat):Int) = (d:Int):=by omega
        have e3:(d + h) / h = d / h + 1:=Nat.add_div_right d (by omega)
        rw [hd2,hd3,Int.toNat_natCast,Int.toNat_natCast,e3,Nat.pow_succ,Nat.mul_comm (2 ^ (d / h)) 2,← Nat.div_div_eq_div_mul,Nat.add_mul,Nat.one_mul]
        congr 2
        generalize d / h * h = q
        omega
      · have h0:(t - (a:Int)).toNat / h = 0:=Nat.div_eq_of_lt (by omega)
        rw [if_neg hd,if_neg hd,h0]
        simp
    · have hp0:p = 0:=by omega
      subst hp0
      rw [if_neg hp0,Nat.zero_div]
      by_cases hd:t - (a:Int) ≥ (h:Int)
      · rw [if_pos hd,Zay (by omega),last a ha hd]
      · rw [if_neg hd,Nat.div_eq_of_lt (by omega)]
        simp
theorem Zze (s:Zah) (h now:Int):ZeY s h now = some (decS s h now):=by
  have hs:=Zxa h
  have hf:=Zky s.fAt
  have hp:=Zky s.fPoints
  have hn:=Zky now
  obtain ⟨k,hk⟩ : ∃ k:Nat,Zmx h = k:=⟨(Zmx h).toNat,by omega⟩
  obtain ⟨a,ha⟩ : ∃ k:Nat,fitI s.fAt = k:=⟨(fitI s.fAt).toNat,by omega⟩
  obtain ⟨p,hp'⟩ : ∃ k:Nat,fitI s.fPoints = k:=⟨(fitI s.fPoints).toNat,by omega⟩
  have main : ∀ b:Zah,Zdh now s b (Zmx h) = some (decS s h now):=fun b =>by
    unfold Zdh decS Zrp
    simp only [ZoJ,Option.bind_some,hk,ha,hp',Int.toNat_natCast]
    rw [ZyC k (by omega) (by omega) (fitI now) hn b 41 1000000 p a (by omega) (by omega) (by omega) (by omega)]
  unfold ZeY ZdX
  simp only [cond_decide']
  by_cases h1:h < 1
  · rw [if_pos h1,if_neg (by omega)]
    have:=main ⟨0,0⟩
    rwa [show Zmx h = 1 by unfold Zmx; rw [if_pos h1]] at this
  · rw [if_neg h1]
    by_cases h2:h > 1073741824
    · rw [if_pos h2]
      have:=main ⟨0,0⟩
      rwa [show Zmx h = 1073741824 by unfold Zmx; rw [if_neg h1,if_pos h2]] at this
    · rw [if_neg h2]
      have:=main ⟨0,0⟩
      rwa [show Zmx h = h by unfold Zmx; rw [if_neg h1,if_neg h2]] at this
theorem Zys (s:Zah) (h now:Int):Zjx s h now = some (decS s h now):=by
  have hs:=Zxa h
  have hf:=Zky s.fAt
  have hp:=Zky s.fPoints
  have hn:=Zky now
  unfold Zjx ZnH Zpb
  have e1:(if (1073741824:Int) < (if (1:Int) > h then (1:Int) else h) then (1073741824:Int) else (if (1:Int) > h then (1:Int) else h)) = Zmx h:=by
    unfold Zmx
    repeat' split
    all_goals omega
  have e2:(if (1099511627776:Int) < (if (0:Int) > s.fPoints then (0:Int) else s.fPoints) then (1099511627776:Int) else (if (0:Int) > s.fPoints then (0:Int) else s.fPoints)) = fitI s.fPoints:=by
    unfold fitI
    repeat' split
    all_goals omega
  have e0 : ∀ n,0≤n→n≤1099511627776→fitI n = n:=fun n h1 h2 =>by unfold fitI; rw [if_neg (by omega),if_neg (by omega)]
  have e3:Zja (fitI now) (fitI s.fAt) = fitI now - fitI s.fAt:=ZlO (by omega) (by omega)
  simp only [ZoE,Option.bind_some,e1,e2,e0 (fitI s.fAt) hf.1 hf.2,e3]
  obtain ⟨k,hk⟩ : ∃ k:Nat,Zmx h = k:=⟨(Zmx h).toNat,by omega⟩
  obtain ⟨a,ha⟩ : ∃ k:Nat,fitI s.fAt = k:=⟨(fitI s.fAt).toNat,by omega⟩
  obtain ⟨p,hp'⟩ : ∃ k:Nat,fitI s.fPoints = k:=⟨(fitI s.fPoints).toNat,by omega⟩
  obtain ⟨d,hd⟩ : ∃ d:Nat,(fitI now - fitI s.fAt).toNat = d:=⟨_,rfl⟩
  have hd2:fitI (fitI now - fitI s.fAt) = (d:Int):=by rw [ZCr _ (by omega),hd]
  have hdk:d / k≤d:=Nat.div_le_self _ _
  have e4:IntKind.wrap .i64 (Int.tdiv (d:Int) (k:Int)) = ((d / k:Nat):Int):=by
    rw [← Int.ofNat_tdiv]
    exact ZfS (Int.natCast_nonneg _) (by omega)
  have hnn:(0:Int)≤((d / k:Nat):Int):=Int.natCast_nonneg _
  rw [hd2,hk,e4,Zay (by omega),Zay (by split <;> omega),hp',ha]
  have hl:Zrp s h now = d / k:=by unfold Zrp; rw [hd,hk,Int.toNat_natCast]
  unfold decS
  rw [hl,hp',ha,hk,Int.toNat_natCast,Int.toNat_natCast]
  have hdm:d / k * k≤d:=Nat.div_mul_le_self d k
  have e5:Zqe ((d / k:Nat):Int) (k:Int) = ((d / k * k:Nat):Int):=by
    unfold Zqe
    rw [← Int.natCast_mul]
    exact ZfS (by omega) (by omega)
  have e6:ZaD (a:Int) ((d / k * k:Nat):Int) = (a:Int) + ((d / k * k:Nat):Int):=ZjY (by omega) (by omega)
  rw [e5,e6]
  congr 2
  -- the points
  have e7 : ∀ c:Nat,c≤41→Int.fdiv (p:Int) (2 ^ (min ((c:Nat):Int).toNat (IntKind.bits .i64))) = ((p / 2 ^ c:Nat):Int):=fun c hc =>by
    have:min ((c:Nat):Int).toNat (IntKind.bits .i64) = c:=by
      rw [Int.toNat_natCast]
      show min c 64 = c
      omega
    rw [this]
    have h2:((2:Int) ^ c) = ((2 ^ c:Nat):Int):=by simp
    rw [h2,Int.fdiv_eq_tdiv_of_nonneg (by omega) (Int.natCast_nonneg _)]
    exact (Int.ofNat_tdiv p (2 ^ c)).symm
  by_cases hc:(41:Int) < ((d / k:Nat):Int)
  · rw [if_pos hc]
    have:=e7 41 (by omega)
    rw [show (((41:Nat):Int)) = (41:Int) from rfl] at this
    rw [this]
    have h1:p / 2 ^ 41 = 0:=Nat.div_eq_of_lt (by omega)
    have h2:p / 2 ^ (d / k) = 0:=Nat.div_eq_of_lt (Nat.lt_of_lt_of_le (show p < 2 ^ 41 by omega) (Nat.pow_le_pow_right (by omega) (by omega)))
    rw [h1,h2]
  · rw [if_neg hc,e7 (d / k) (by omega)]
theorem ZCw (s:Zah) (h now:Int):0≤(decS s h now).fPoints∧(decS s h now).fPoints≤1099511627776:=by
  have hp:=Zky s.fPoints
  unfold decS
  have:=Nat.div_le_self (fitI s.fPoints).toNat (2 ^ Zrp s h now)
  constructor
  · exact Int.natCast_nonneg _
  · show (((fitI s.fPoints).toNat / 2 ^ Zrp s h now:Nat):Int)≤_
    omega
def ZAx (s:Zah) (points h now:Int):Zah:=⟨fitI ((decS s h now).fPoints + points * 65536),(decS s h now).fAt⟩
theorem ZyT (s:Zah) (points h now:Int) (h0:0≤points) (h1:points≤100):Zii s points h now = some (ZAx s points h now)∧Zgj s points h now = some (ZAx s points h now):=by
  have hd:=ZCw s h now
  have e0 : ∀ n,0≤n→n≤1099511627776→fitI n = n:=fun n h1 h2 =>by unfold fitI; rw [if_neg (by omega),if_neg (by omega)]
  have em:Zqe points 65536 = points * 65536:=by unfold Zqe; exact ZfS (by omega) (by omega)
  have ea:ZaD (decS s h now).fPoints (points * 65536) = (decS s h now).fPoints + points * 65536:=ZjY (by omega) (by omega)
  constructor
  · unfold Zii Zpc Zkl ZAx
    simp only [Zys,ZoE,Option.bind_some,cond_decide',e0 points h0 (by omega),e0 65536 (by omega) (by omega),e0 _ hd.1 hd.2]
    have hc:(Zii s points h now = Zii s points h now):=rfl
    by_cases hp:points > 0
    · rw [if_pos hp,Zay (by omega)]
      have hq : ¬ ((65536:Int) > IntKind.wrap .i64 (Int.tdiv 1099511627776 points)):=by
        obtain ⟨n,rfl⟩ : ∃ n:Nat,points = n:=⟨points.toNat,by omega⟩
        have e:Int.tdiv (1099511627776:Int) (n:Int) = ((1099511627776 / n:Nat):Int):=(Int.ofNat_tdiv 1099511627776 n).symm
        have hle:1099511627776 / n≤1099511627776:=Nat.div_le_self _ _
        have hge:1099511627776 / 100≤1099511627776 / n:=Nat.div_le_div_left (by omega) (by omega)
        rw [e,ZfS (by omega) (by omega)]
        omega
      rw [if_neg hq]
      simp only [Option.bind_some,em,e0 (points * 65536) (by omega) (by omega),ea]
    · rw [if_neg hp]
      simp only [Option.bind_some,em,e0 (points * 65536) (by omega) (by omega),ea]
  · unfold Zgj ZAx
    simp only [Zze,ZoJ,Option.bind_some,cond_decide',e0 points h0 (by omega)]
    rw [if_neg (by omega),em,ea]
theorem ZvT (s:Zah) : ∃ r,ZfX s = some r∧ZbO s = some r:=by
  unfold ZfX ZbO
  simp only [cond_decide']
  by_cases h:s.fPoints < 0
  · rw [if_pos (by omega),if_pos h]; exact ⟨_,rfl,rfl⟩
  · rw [if_neg (by omega),if_neg h]; exact ⟨_,rfl,rfl⟩
def ZsA (s:Zah):Int:=(ZfX s).getD 0
theorem Znx (s:Zah):ZfX s = some (ZsA s)∧ZbO s = some (ZsA s):=by
  obtain ⟨r,h1,h2⟩:=ZvT s
  unfold ZsA
  rw [h1,h2]; exact ⟨rfl,rfl⟩
def Zms (s:Zah) (limit:Int):Bool:=decide (s.fPoints ≥ (if limit < 1 then 1 else if limit > 16777216 then 16777216 else limit) * 65536)
theorem ZpA (s:Zah) (limit:Int) (h0:0≤s.fPoints) (h1:s.fPoints≤1099511627776):Zhq s limit = some (Zms s limit)∧Zdt s limit = some (Zms s limit):=by
  obtain ⟨p,hp⟩ : ∃ k:Nat,s.fPoints = k:=⟨s.fPoints.toNat,by omega⟩
  have hw:ZbO s = some ((p / 65536:Nat):Int):=by
    unfold ZbO
    simp only [cond_decide']
    have e:Int.tdiv (p:Int) 65536 = ((p / 65536:Nat):Int):=(Int.ofNat_tdiv p 65536).symm
    rw [if_neg (by omega),hp,e,ZfS (by omega) (by omega)]
  have key : ∀ L:Int,1≤L→L≤16777216→decide (((p / 65536:Nat):Int) ≥ L) = decide (s.fPoints ≥ L * 65536):=fun L h1 h2 =>by
    rw [hp]
    apply decide_eq_decide.2
    omega
  have hcode:(if (16777216:Int) < (if (1:Int) > limit then (1:Int) else limit) then (16777216:Int) else (if (1:Int) > limit then (1:Int) else limit)) = (if limit < 1 then 1 else if limit > 16777216 then 16777216 else limit):=by
    repeat' split
    all_goals omega
  have hr:1≤(if limit < 1 then (1:Int) else if limit > 16777216 then 16777216 else limit)∧(if limit < 1 then (1:Int) else if limit > 16777216 then 16777216 else limit)≤16777216:=by
    repeat' split
    all_goals omega
  have em : ∀ L:Int,1≤L→L≤16777216→Zqe L 65536 = L * 65536:=fun L h1 h2 =>by unfold Zqe; exact ZfS (by omega) (by omega)
  constructor
  · unfold Zhq Zms
    rw [hcode,em _ hr.1 hr.2]
  · unfold Zdt Zdx Zms
    simp only [cond_decide',hw,Option.bind_some]
    by_cases c1:limit < 1
    · rw [if_pos c1,if_pos c1,if_neg (by omega),key 1 (by omega) (by omega)]
    · rw [if_neg c1,if_neg c1]
      by_cases c2:limit > 16777216
      · rw [if_pos c2,if_pos c2,key 16777216 (by omega) (by omega)]
      · rw [if_neg c2,if_neg c2,key limit (by omega) (by omega)]
def penI (k:Int):Int:=(Zfy k).getD 0
theorem Zzn (k:Int):Zfy k = some (penI k)∧Zdu k = some (penI k)∧0≤penI k∧penI k≤100:=by
  obtain ⟨q,h1,h2,h3,h4⟩:=Zyh k
  unfold penI
  rw [h1,h2]; exact ⟨rfl,rfl,h3,h4⟩
def Zio (c:Zaz) (x:Zaw) (p:Zaa):Zaa:=⟨p.fEnd,p.fIn,p.fSince,ZAx p.fScore (penI x.fNum) c.fHalf x.fNow,p.fPing,p.fWork⟩
theorem Zvx (c:Zaz) (x:Zaw) (p:Zaa):ZiC p (penI x.fNum) c.fHalf x.fNow = some (Zio c x p)∧ZeE p (penI x.fNum) c.fHalf x.fNow = some (Zio c x p):=by
  obtain ⟨_,_,h3,h4⟩:=Zzn x.fNum
  obtain ⟨h1,h2⟩:=ZyT p.fScore (penI x.fNum) c.fHalf x.fNow h3 h4
  unfold ZiC ZeE
  rw [h1,h2]
  exact ⟨rfl,rfl⟩
theorem Ztl (c:Zaz) (x:Zaw) (p:Zaa):0≤(Zio c x p).fScore.fPoints∧(Zio c x p).fScore.fPoints≤1099511627776:=Zky _
def ofP (l:List Zaa) (n:Zap) (b:Bool):List Zaa:=l.filter fun p =>hasS n p.fEnd.fAddr == b
theorem ZAh (p:Zap) (a:Zag) (hp:p.fAddr.ok) (ha:a.ok):Zjf p a = some (hasS p a):=by
  unfold hasS
  cases hr:Ziy p with
  | true =>
    have hrn:=(ZyY hp).1 hr
    rw [ZCQ p a hrn ha,Bool.true_and]
  | false =>
    unfold Zjf
    simp only [ZnL p hp,hr,Option.bind_some,cond_false,Bool.false_and]
theorem ZvO (l:List Zaa) (n:Zap) (hn:n.fAddr.ok) (hl:l.length≤1000000) (hok : ∀ p ∈ l,p.fEnd.fAddr.ok):ZjT l n = some (ofP l n true,ofP l n false):=by
  have hL:l.length≤maxLen:=by unfold maxLen; omega
  have main : ∀ fu (i:Nat) w u,i≤l.length→l.length - i < fu→w = ofP (l.take i) n true→u = ofP (l.take i) n false→Zeg fu l (l.length:Int) (i:Int) w u n = some (ofP l n true,ofP l n false):=by
    intro fu
    induction fu with
    | zero =>intro i w u _ h; omega
    | succ fu ih =>
      intro i w u hi hf hw hu
      unfold Zeg
      simp only [cond_decide']
      by_cases h:i < l.length
      · have hm:=ZlZ l Zaa.d i h
        rw [if_pos (by omega),Zay ⟨by omega,by omega⟩,add1 h hL]
        simp only [Int.toNat_natCast,ZAh n _ hn (hok _ hm),Option.bind_some]
        have hst : ∀ b,ofP (l.take (i + 1)) n b = ofP (l.take i) n b ++ [l.getD i Zaa.d].filter (fun p =>hasS n p.fEnd.fAddr == b):=fun b =>by
          unfold ofP
          rw [List.take_succ_eq_append_getElem h,List.filter_append,ZjH l _ i h]
        have hlen : ∀ b,(ofP (l.take i) n b).length≤1000000:=fun b =>by
          have:=List.length_filter_le (fun p:Zaa =>hasS n p.fEnd.fAddr == b) (l.take i)
          simp only [List.length_take] at this
          unfold ofP; omega
        have hlw:=hlen true
        have hlu:=hlen false
        cases hq:hasS n (l.getD i Zaa.d).fEnd.fAddr with
        | true =>
          simp only [cond_true]
          rw [Zay ⟨by rw [hw]; simp; omega,by rw [hw]; simp [maxLen]; omega⟩]
          refine ih (i + 1) _ _ (by omega) (by omega) ?_ ?_
          · rw [hst true,List.filter_cons_of_pos (by rw [hq]; rfl),hw]; rfl
          · rw [hst false,List.filter_cons_of_neg (by rw [hq]; decide),hu]; simp
        | false =>
          simp only [cond_false]
          rw [Zay ⟨by rw [hu]; simp; omega,by rw [hu]; simp [maxLen]; omega⟩]
          refine ih (i + 1) _ _ (by omega) (by omega) ?_ ?_
          · rw [hst true,List.filter_cons_of_neg (by rw [hq]; decide),hw]; simp
          · rw [hst false,List.filter_cons_of_pos (by rw [hq]; rfl),hu]; rfl
      · rw [if_neg (by omega),hw,hu]
        have:i = l.length:=by omega
        rw [this,List.take_length]
  exact main _ 0 [] [] (by omega) (by omega) rfl rfl
theorem Zxi (l:List Zaa) (n:Zap) (b:Bool) (hn:n.fAddr.ok) (hl:l.length≤1000000) (hok : ∀ p ∈ l,p.fEnd.fAddr.ok):ZdK l n b = some (ofP l n b):=by
  have hL:l.length≤maxLen:=by unfold maxLen; omega
  have main : ∀ fu (i:Nat) w,i≤l.length→l.length - i < fu→w = ofP (l.take i) n b→ZcO l b fu (i:Int) w n = some (ofP l n b):=by
    intro fu
    induction fu with
    | zero =>intro i w _ h; omega
    | succ fu ih =>
      intro i w hi hf hw
      unfold ZcO
      simp only [cond_decide']
      by_cases h:i < l.length
      · have hm:=ZlZ l Zaa.d i h
        rw [if_pos (by omega),Zay ⟨by omega,by omega⟩,add1 h hL]
        simp only [Int.toNat_natCast,ZAU n _ hn (hok _ hm),Option.bind_some]
        have hst:ofP (l.take (i + 1)) n b = w ++ [l.getD i Zaa.d].filter (fun p =>hasS n p.fEnd.fAddr == b):=by
          rw [hw]
          unfold ofP
          rw [List.take_succ_eq_append_getElem h,List.filter_append,ZjH l _ i h]
        have hwl:w.length≤1000000:=by
          rw [hw]
          have:=List.length_filter_le (fun p:Zaa =>hasS n p.fEnd.fAddr == b) (l.take i)
          simp only [List.length_take] at this
          unfold ofP; omega
        cases hq:hasS n (l.getD i Zaa.d).fEnd.fAddr == b with
        | true =>
          rw [List.filter_cons_of_pos (by rw [hq])] at hst
          simp only [cond_true]
          rw [Zay ⟨by simp; omega,by simp [maxLen]; omega⟩]
          exact ih (i + 1) _ (by omega) (by omega) hst.symm
        | false =>
          rw [List.filter_cons_of_neg (by rw [hq]; decide)] at hst
          simp only [cond_false]
          refine ih (i + 1) _ (by omega) (by omega) ?_
          rw [hst]; simp
      · rw [if_neg (by omega),hw]
        have:i = l.length:=by omega
        rw [this,List.take_length]
  exact main _ 0 [] (by omega) (by omega) rfl
theorem Zzt (l:List Zaa) (n:Zap) (b:Bool):(ofP l n b).length≤l.length:=List.length_filter_le _ _
def cntP (l:List Zaa) (b:Bool):Int:=((l.countP fun p =>p.fIn == b:Nat):Int)
theorem ZqO (l:List Zaa) (b:Bool) (hl:l.length≤maxLen):ZhB l b = some (cntP l b):=by
  simp only [ZhB]
  have := ZsR l Zaa.d (fun p => p.fIn == b) hl (fun fu n i => ZdB b fu n l (l.length : Int) i) (fun fu i n hi => by
      simp only [ZdB,cond_decide']
      rw [if_pos (by omega),Zay ⟨by omega,by omega⟩]
      simp only [Int.toNat_natCast]
      cases ((l.getD i Zaa.d).fIn == b) <;> rfl) (fun fu n =>by
      simp only [ZdB,cond_decide']
      rw [if_neg (by omega)]) ((((l.length:Nat):Int) - (0:Int)).toNat + 2) 0 0 (by omega) (by omega) (by omega)
  simp only [Int.natCast_zero,List.drop_zero] at this
  rw [this]
  unfold cntP
  congr 2
  omega
theorem ZlR (l:List Zaa) (b:Bool) (hl:l.length≤maxLen):Zed l b = some (cntP l b):=by
  simp only [Zed]
  have := ZsR l Zaa.d (fun p => p.fIn == b) hl (fun fu n i => ZbQ l b fu n i) (fun fu i n hi => by
      simp only [ZbQ,cond_decide']
      rw [if_pos (by omega),Zay ⟨by omega,by omega⟩]
      simp only [Int.toNat_natCast]
      cases ((l.getD i Zaa.d).fIn == b) <;> rfl) (fun fu n =>by
      simp only [ZbQ,cond_decide']
      rw [if_neg (by omega)]) ((((l.length:Nat):Int) - (0:Int)).toNat + 2) 0 0 (by omega) (by omega) (by omega)
  simp only [Int.natCast_zero,List.drop_zero] at this
  rw [this]
  unfold cntP
  congr 2
  omega
theorem Zua (l:List Zaa) (b:Bool):0≤cntP l b∧cntP l b≤(l.length:Int):=by
  unfold cntP
  have:=List.countP_le_length (p:=fun p:Zaa =>p.fIn == b) (l:=l)
  omega
def Zoy (l:List Zaa):List Zaf:=l.map (·.fEnd)
theorem ZsV (l:List Zaa) (hl:l.length≤1000000):Zir l = some (Zoy l):=by
  have hL:l.length≤maxLen:=by unfold maxLen; omega
  have main : ∀ fu (i:Nat) w,i≤l.length→l.length - i < fu→w = Zoy (l.take i)→ZfA fu l (l.length:Int) (i:Int) w = some (Zoy l):=by
    intro fu
    induction fu with
    | zero =>intro i w _ h; omega
    | succ fu ih =>
      intro i w hi hf hw
      unfold ZfA
      simp only [cond_decide']
      by_cases h:i < l.length
      · have hwl:w.length≤1000000:=by rw [hw]; unfold Zoy; simp; omega
        rw [if_pos (by omega),Zay ⟨by omega,by omega⟩,add1 h hL,Zay ⟨by simp; omega,by simp [maxLen]; omega⟩]
        refine ih (i + 1) _ (by omega) (by omega) ?_
        rw [hw]
        unfold Zoy
        rw [List.take_succ_eq_append_getElem h,List.map_append,Int.toNat_natCast,ZjH l _ i h]
        rfl
      · rw [if_neg (by omega),hw]
        have:i = l.length:=by omega
        rw [this,List.take_length]
  exact main _ 0 [] (by omega) (by omega) rfl
theorem ZnC (l:List Zaa) (hl:l.length≤1000000):ZcG l = some (Zoy l):=by
  have hL:l.length≤maxLen:=by unfold maxLen; omega
  have main : ∀ fu (i:Nat) w,i≤l.length→l.length - i < fu→w = Zoy (l.take i)→ZcQ l fu (i:Int) w = some (Zoy l):=by
    intro fu
    induction fu with
    | zero =>intro i w _ h; omega
    | succ fu ih =>
      intro i w hi hf hw
      unfold ZcQ
      simp only [cond_decide']
      by_cases h:i < l.length
      · have hwl:w.length≤1000000:=by rw [hw]; unfold Zoy; simp; omega
        rw [if_pos (by omega),Zay ⟨by omega,by omega⟩,add1 h hL,Zay ⟨by simp; omega,by simp [maxLen]; omega⟩]
        refine ih (i + 1) _ (by omega) (by omega) ?_
        rw [hw]
        unfold Zoy
        rw [List.take_succ_eq_append_getElem h,List.map_append,Int.toNat_natCast,ZjH l _ i h]
        rfl
      · rw [if_neg (by omega),hw]
        have:i = l.length:=by omega
        rw [this,List.take_length]
  exact main _ 0 [] (by omega) (by omega) rfl
def addT (a b:Int):Int:=fitI (fitI a + fitI b)
theorem ZyU (a b:Int):Zkl a b = some (addT a b)∧ZeL a b = some (addT a b):=by
  have h1:=Zky a
  have h2:=Zky b
  have e:ZaD (fitI a) (fitI b) = fitI a + fitI b:=ZjY (by omega) (by omega)
  constructor
  · unfold Zkl addT
    simp only [ZoE,Option.bind_some,e]
  · unfold ZeL addT
    simp only [ZoJ,Option.bind_some,e]
end Go.Proofs.YtdjfoojllbfcgaaGreat
namespace Go.Proofs.YtdjfoojllbfcgaaGreat
set_option linter.unusedVariables false
set_option linter.unusedSimpArgs false
def Zom:Zaa:=⟨⟨⟨false,0,0⟩,0⟩,false,0,⟨0,0⟩,0,0⟩
def valZ:Zae:=⟨0,Zom,[],[]⟩
def locZ:Zan:=⟨0,0,0⟩
def opZ:Zao:=⟨0,0,locZ,0,0,valZ,false⟩
def endZ:Zaf:=⟨⟨false,0,0⟩,0⟩
def repZ:Zam:=⟨0,endZ,0,0,[]⟩
def locN (l:Zan):Zan:=if l.fKind = 1 ∨ l.fKind = 2 ∨ l.fKind = 3 ∨ l.fKind = 4 then ⟨l.fKind,0,0⟩ else if l.fKind = 5 then ⟨l.fKind,l.fShard,0⟩ else if l.fKind = 6 then l else locZ
def valN (k:Int) (v:Zae):Zae:=if k = 1 ∨ k = 2 ∨ k = 5 then ⟨v.fN,Zom,[],[]⟩ else if k = 3 then ⟨0,Zom,v.fBans,[]⟩ else if k = 4 then ⟨0,Zom,[],v.fBook⟩ else if k = 6 then ⟨0,v.fPeer,[],[]⟩ else valZ
def opN (o:Zao):Zao:=if o.fKind = 1 ∨ o.fKind = 2 ∨ o.fKind = 3 ∨ o.fKind = 4 then ⟨o.fKind,o.fLock,locZ,0,0,valZ,o.fMark⟩ else if o.fKind = 5 then ⟨o.fKind,0,locN o.fLoc,0,0,valZ,o.fMark⟩
  else if o.fKind = 6 then ⟨o.fKind,0,locN o.fLoc,0,0,valN o.fLoc.fKind o.fVal,o.fMark⟩ else if o.fKind = 7 then ⟨o.fKind,0,locN o.fLoc,o.fOld,o.fNew,valZ,o.fMark⟩ else if o.fKind = 8 then ⟨o.fKind,0,locZ,0,0,valZ,o.fMark⟩ else opZ
theorem ZgU (a b:Int) {α:Type} (x y:α):(bif a == b then x else y) = if a = b then x else y:=by
  by_cases h:a = b
  · subst h; simp
  · rw [if_neg h,beq_false_of_ne h]; rfl
theorem Zyf (l:Zan):Zjd l = some (locN l):=by
  obtain ⟨k,s,t⟩:=l
  unfold Zjd ZgO locN
  simp only [ZgU]
  repeat' split
  all_goals first | rfl | (simp_all [locZ]; done) | (exfalso; omega)
theorem ZxT (k:Int) (v:Zae):Zlv k v = some (valN k v):=by
  unfold Zlv ZhC valN
  simp only [ZgU]
  repeat' split
  all_goals first | rfl | (simp_all [valZ,Zom]; done) | (exfalso; omega)
theorem ZyD (o:Zao):Zlw o = some (opN o):=by
  unfold Zlw ZgP opN
  simp only [ZgU,Zyf,ZxT,Option.bind_some]
  repeat' split
  all_goals first | rfl | (simp_all [opZ,locZ,valZ,Zom]; done) | (exfalso; omega)
theorem ZvU (l:Zan):Zgg l = some (locN l):=by
  obtain ⟨k,s,t⟩:=l
  unfold Zgg ZeC locN
  simp only [cond_decide']
  repeat' split
  all_goals first | rfl | (simp_all [locZ]; done) | (exfalso; omega) | (simp only [Option.some.injEq,Zan.mk.injEq,locZ]; omega)
theorem Ztu (k:Int) (v:Zae):ZeS k v = some (valN k v):=by
  unfold ZeS ZcH ZdU ZdT valN
  simp only [ZgU]
  repeat' split
  all_goals first | rfl | (simp_all [valZ,Zom]; done) | (exfalso; omega)
theorem Ztv (o:Zao):ZeT o = some (opN o):=by
  unfold ZeT ZdW Zdf ZdV opN
  simp only [cond_decide',ZgU,ZvU,Ztu,Option.bind_some]
  repeat' split
  all_goals first | rfl | (exfalso; omega)
def okV (v:Zae):Prop:=v.fBans.length≤1000000∧v.fBook.length≤1000000
theorem Zwg:okV valZ:=⟨by simp [valZ],by simp [valZ]⟩
theorem okV_N {k:Int} {v:Zae} (h:okV v):okV (valN k v):=by
  unfold valN
  repeat' split
  all_goals first | exact Zwg | exact ⟨Nat.zero_le _,Nat.zero_le _⟩ | exact ⟨h.1,Nat.zero_le _⟩ | exact ⟨Nat.zero_le _,h.2⟩
theorem Zxs {o:Zao} (h:okV o.fVal):okV (opN o).fVal:=by
  unfold opN
  repeat' split
  all_goals first | exact Zwg | exact okV_N h
theorem ZaF {α β:Type} (x:α) (f:α→Option β):(some x).bind f = f x:=by simp
def wk (got:List Zae) (a:Nat):Zad:=⟨got,(a:Int),opZ,false⟩
def wt (got:List Zae) (o:Zao):Zad:=⟨got,(got.length:Int),o,true⟩
theorem ZAr (o:Zao):Zch ⟨[]⟩ o = some (.pan (opN o)):=by
  simp [Zch,ZyD]
theorem ZxN (v:Zae) (r:List Zae) (o:Zao):Zch ⟨v :: r⟩ o = some (.ret v ⟨r⟩):=by
  have h:(((v :: r).length:Nat):Int) ≠ 0:=by simp only [List.length_cons]; omega
  unfold Zch
  simp only [ZgU,if_neg h]
  rw [Zay (by simp only [List.length_cons]; omega),Zay (by simp only [List.length_cons]; omega)]
  rfl
theorem ZAs (got:List Zae) (a:Nat) (o:Zao):Zch ⟨got.drop a⟩ o = some (if a < got.length then .ret (got.getD a Zae.d) ⟨got.drop (a + 1)⟩ else .pan (opN o)):=by
  split
  · rename_i h
    rw [ZjD got Zae.d a h,ZxN]
  · rename_i h
    rw [List.drop_eq_nil_of_le (by omega),ZAr]
theorem ZmO (got:List Zae) (a:Nat) (o:Zao) (hL:got.length≤1000000) (ha:a≤got.length):Zck (wk got a) o = some (if a < got.length then (wk got (a + 1),got.getD a Zae.d) else (wt got (opN o),valZ)):=by
  unfold Zck wk
  simp only [cond_false,cond_decide',Ztv,Option.bind_some]
  by_cases h:a < got.length
  · rw [if_pos (by omega),if_pos h]
    have e1:ZaD (a:Int) 1 = ((a + 1:Nat):Int):=add1 (n:=got.length) h (by simp only [maxLen]; omega)
    have e2:Zja ((a + 1:Nat):Int) 1 = (a:Int):=by
      unfold Zja
      have:IntKind.i64.wrap (((a + 1:Nat):Int) - 1) = ((a + 1:Nat):Int) - 1:=ZfS (by omega) (by omega)
      exact this.trans (by omega)
    rw [e1,e2,Zay (by omega)]
    rfl
  · rw [if_neg (by omega),if_neg h]
    have:a = got.length:=by omega
    subst this
    rfl
theorem ZlQ (got:List Zae) (q o:Zao):Zck (wt got q) o = some (wt got q,valZ):=by
  unfold Zck wt
  simp only [cond_true]
  rfl
def Lka {α β:Type} (got:List Zae) (a0:Nat) (P:α→β→Prop) (W:β→Prop) (t:Option (Tout α)) (r:Option (Zad × β)):Prop :=
  (∃ v b a,t = some (.ret v ⟨got.drop a⟩)∧r = some (wk got a,b)∧a0≤a∧a≤got.length∧P v b) ∨ ∃ q b,t = some (.pan q)∧r = some (wt got q,b)∧okV q.fVal∧W b
def eqP {α:Type}:α→α→Prop:=fun x y =>x = y
def anyP {α β:Type}:α→β→Prop:=fun _ _ =>True
def anyW {β:Type}:β→Prop:=fun _ =>True
theorem Lka.weak {α β:Type} {got:List Zae} {a0 a1:Nat} {P:α→β→Prop} {W:β→Prop} {t:Option (Tout α)} {r:Option (Zad × β)} (h:Lka got a1 P W t r) (ha:a0≤a1):Lka got a0 P W t r:=by
  rcases h with ⟨v,b,a,h1,h2,h3,h4,h5⟩ | h
  · exact .inl ⟨v,b,a,h1,h2,by omega,h4,h5⟩
  · exact .inr h
section
variable {got:List Zae} (hL:got.length≤1000000) {a:Nat} (ha:a≤got.length)
include hL ha
theorem ZwX (l:Zan) (hl:True):Lka got (a + 1) eqP anyW (Zdb ⟨got.drop a⟩ l false) (Zbq (wk got a) l):=by
  unfold Zdb Zbq
  rw [ZAs,ZmO _ _ _ hL ha]
  by_cases h:a < got.length
  · simp only [if_pos h,Option.bind_some]
    exact .inl ⟨_,_,a + 1,rfl,rfl,Nat.le_refl _,h,rfl⟩
  · simp only [if_neg h,Option.bind_some]
    exact .inr ⟨_,_,rfl,rfl,Zxs Zwg,trivial⟩
theorem ZCB (k old now:Int) (mark:Bool):Lka got (a + 1) eqP anyW (ZfT ⟨got.drop a⟩ ⟨k,0,0⟩ old now mark) (ZdE (wk got a) k old now mark):=by
  unfold ZfT ZdE
  rw [ZAs,ZmO _ _ _ hL ha]
  by_cases h:a < got.length
  · simp only [if_pos h,Option.bind_some]
    exact .inl ⟨_,_,a + 1,rfl,rfl,Nat.le_refl _,h,rfl⟩
  · simp only [if_neg h,Option.bind_some]
    exact .inr ⟨_,_,rfl,rfl,Zxs Zwg,trivial⟩
theorem ZxP (l:Zan) (v:Zae) (mark:Bool) (hv:okV v):Lka got (a + 1) anyP anyW (Zcf ⟨got.drop a⟩ l v mark) ((ZaB (wk got a) l v mark).map fun w =>(w,())):=by
  unfold Zcf ZaB
  rw [ZAs,ZmO _ _ _ hL ha]
  by_cases h:a < got.length
  · simp only [if_pos h,Option.bind_some,Option.map_some]
    exact .inl ⟨_,_,a + 1,rfl,rfl,Nat.le_refl _,h,trivial⟩
  · simp only [if_neg h,Option.bind_some,Option.map_some]
    exact .inr ⟨_,_,rfl,rfl,Zxs hv,trivial⟩
end
theorem ZvI (got:List Zae) (q:Zao) (l:Zan):Zbq (wt got q) l = some (wt got q,valZ):=by
  unfold Zbq; rw [ZlQ]; rfl
theorem ZAy (got:List Zae) (q:Zao) (k old now:Int) (mark:Bool):ZdE (wt got q) k old now mark = some (wt got q,false):=by
  unfold ZdE; rw [ZlQ]; rfl
theorem Zji (got:List Zae) (q:Zao) (l:Zan) (v:Zae) (mark:Bool):ZaB (wt got q) l v mark = some (wt got q):=by
  unfold ZaB; rw [ZlQ]; rfl
theorem ZcM (got:List Zae) (q:Zao) (k l:Int) (mark:Bool):Zar (wt got q) k l mark = some (wt got q):=by
  unfold Zar; rw [ZlQ]; rfl
theorem Zqz {r:Option Zad} {w:Zad} {b:Unit} (h:r.map (fun w =>(w,())) = some (w,b)):r = some w:=by
  cases r with
  | none =>cases h
  | some x =>simp at h; rw [h]
theorem Ztk (got:List Zae) (q:Zao):(wt got q).fWait = true:=rfl
theorem Zkf (got:List Zae) (a:Nat):(wk got a).fWait = false:=rfl
theorem ZAz {got : List Zae} (hL : got.length ≤ 1000000) (part n : Int) (b4 : Zad) (b7 : Zae) (hn : ∀ i : Nat, (i : Int) < n ↔ (i : Int) < b7.fN) : ∀ (k a i : Nat) (w : List Zaa) (fu F : Nat), got.length - a = k → a ≤ got.length → i ≤ a → w.length = i →
    (n - (i:Int)).toNat + 1≤fu→k + 3≤F→Lka got a (fun x y =>x = y∧x.length≤got.length) (fun b =>b.length≤got.length + 1) (ZdM part fu n i w ⟨got.drop a⟩) (ZbH part F i w b4 (wk got a) b7):=by
  intro k
  induction k using Nat.strongRecOn with
  | ind k ih =>
    intro a i w fu F hk ha hi hw hfu hF
    obtain ⟨fu,rfl⟩ : ∃ x,fu = x + 1:=⟨fu - 1,by omega⟩
    obtain ⟨F,rfl⟩ : ∃ x,F = x + 1:=⟨F - 1,by omega⟩
    unfold ZdM ZbH
    simp only [cond_decide',Zkf,Bool.not_false,cond_true]
    by_cases h:(i:Int) < n
    · rw [if_pos h,if_pos ((hn i).1 h)]
      have e:Zhn part i = some ⟨6,part,i⟩:=rfl
      simp only [e,Option.bind_some]
      have hlen : ∀ p:Zaa,(w ++ [p]).length * 80≤140737488355328∧(w ++ [p]).length≤maxLen:=fun p =>by simp only [List.length_append,List.length_singleton,maxLen]; omega
      have e1:ZaD (i:Int) 1 = ((i + 1:Nat):Int):=add1 (n:=i + 1) (by omega) (by simp only [maxLen]; omega)
      rcases ZwX hL ha ⟨6,part,i⟩ trivial with ⟨v,b,a',h1,h2,h3,h4,rfl⟩ | ⟨q,b,h1,h2,hq,hW⟩
      · simp only [h1,h2,Option.bind_some]
        rw [Zay (hlen _),Zay (hlen _),e1]
        rcases ih (got.length - a') (by omega) a' (i + 1) (w ++ [v.fPeer]) fu F rfl h4 (by omega) (by simp [hw]) (by omega) (by omega) with ⟨x,y,a2,q1,q2,q3,q4,q5⟩ | hq
        · exact .inl ⟨x,y,a2,q1,q2,by omega,q4,q5⟩
        · exact .inr hq
      · simp only [h1,h2,Option.bind_some]
        rw [Zay (hlen _),e1]
        obtain ⟨F,rfl⟩ : ∃ x,F = x + 1:=⟨F - 1,by omega⟩
        unfold ZbH
        simp only [cond_decide',Ztk,Bool.not_true,cond_false]
        refine .inr ⟨q,w ++ [b.fPeer],rfl,?_,hq,by simp only [List.length_append,List.length_singleton]; omega⟩
        split <;> rfl
    · rw [if_neg h,if_neg (fun h' =>h ((hn i).2 h'))]
      exact .inl ⟨w,w,a,rfl,rfl,Nat.le_refl _,ha,rfl,by omega⟩
theorem Zqb (got:List Zae) (q:Zao) (part i:Int) (w:List Zaa) (b4:Zad) (b7:Zae) (F:Nat) (hF:1≤F):ZbH part F i w b4 (wt got q) b7 = some (wt got q,w):=by
  obtain ⟨F,rfl⟩ : ∃ x,F = x + 1:=⟨F - 1,by omega⟩
  unfold ZbH
  simp only [cond_decide',Ztk,Bool.not_true,cond_false]
  split <;> rfl
theorem ZCC {got:List Zae} (hL:got.length≤900000) {a:Nat} (ha:a≤got.length) (part:Int):Lka got a (fun x y =>x = y∧x.length≤got.length) (fun b =>b.length≤got.length + 1) (Zih ⟨got.drop a⟩ part) (ZcW (wk got a) part):=by
  unfold Zih ZcW
  have e:Zho part = some ⟨5,part,0⟩:=rfl
  simp only [e,ZaF]
  rcases ZwX (by omega) ha ⟨5,part,0⟩ trivial with ⟨v,b,a',h1,h2,h3,h4,rfl⟩ | ⟨q,b,h1,h2,hq,hW⟩
  · simp only [h1,h2,ZaF]
    rcases ZAz (by omega) part (if (0:Int) > v.fN then 0 else v.fN) ⟨[],0,⟨0,0,⟨0,0,0⟩,0,0,⟨0,⟨⟨⟨false,0,0⟩,0⟩,false,0,⟨0,0⟩,0,0⟩,[],[]⟩,false⟩,false⟩ v (fun i =>by split <;> omega) (got.length - a') a' 0 [] _ 1000000 rfl h4 (by omega) rfl (Nat.le_succ _) (by omega) with ⟨x,y,a2,q1,q2,q3,q4,q5⟩ | hq
    · exact .inl ⟨x,y,a2,q1,q2,by omega,q4,q5⟩
    · exact .inr hq
  · simp only [h1,h2,ZaF]
    have hb:b = valZ:=by
      unfold Zbq at h2
      rw [ZmO _ _ _ (by omega) ha] at h2
      by_cases h:a < got.length
      · simp only [if_pos h,ZaF,Option.some.injEq,Prod.mk.injEq] at h2
        exact absurd h2.1 (by simp [wk,wt])
      · simp only [if_neg h,ZaF,Option.some.injEq,Prod.mk.injEq] at h2
        exact h2.2.symm
    subst hb
    exact .inr ⟨q,[],rfl,Zqb got q part 0 [] _ valZ 1000000 (by omega),hq,Nat.zero_le _⟩
theorem ZvG (got:List Zae) (q:Zao) (part:Int):ZcW (wt got q) part = some (wt got q,[]):=by
  unfold ZcW
  simp only [ZvI,ZaF]
  exact Zqb got q part 0 [] _ valZ 1000000 (by omega)
theorem ZwR (was now : List Zaa) (hn : now.length ≤ 1000000) : ∀ (k i : Nat) (w : List Int) (f g : Nat), now.length - i = k → i ≤ now.length → w.length ≤ i → (∀ x ∈ w, 0 ≤ x ∧ x < (now.length : Int)) → k + 1 ≤ f → k + 1 ≤ g →
    ∃ l:List Int,ZbV was f now (now.length:Int) i w = some l∧Zbt was now g i w = some l∧l.length≤now.length∧∀ x ∈ l,0≤x∧x < (now.length:Int):=by
  intro k
  induction k with
  | zero =>
    intro i w f g hk hi hw hx hf hg
    obtain ⟨f,rfl⟩ : ∃ x,f = x + 1:=⟨f - 1,by omega⟩
    obtain ⟨g,rfl⟩ : ∃ x,g = x + 1:=⟨g - 1,by omega⟩
    unfold ZbV Zbt
    simp only [cond_decide']
    rw [if_neg (by omega),if_neg (by omega)]
    exact ⟨w,rfl,rfl,by omega,hx⟩
  | succ k ih =>
    intro i w f g hk hi hw hx hf hg
    obtain ⟨f,rfl⟩ : ∃ x,f = x + 1:=⟨f - 1,by omega⟩
    obtain ⟨g,rfl⟩ : ∃ x,g = x + 1:=⟨g - 1,by omega⟩
    unfold ZbV Zbt
    simp only [cond_decide']
    have c1:(i:Int) < (now.length:Int):=by omega
    rw [if_pos c1,if_pos c1,Zay (by omega)]
    have e1:ZaD (i:Int) 1 = ((i + 1:Nat):Int):=add1 (n:=i + 1) (by omega) (by simp only [maxLen]; omega)
    have hlen:(w ++ [(i:Int)]).length * 8≤140737488355328∧(w ++ [(i:Int)]).length≤maxLen:=by simp only [List.length_append,List.length_singleton,maxLen]; omega
    have hx2 : ∀ x ∈ w ++ [(i:Int)],0≤x∧x < (now.length:Int):=fun x hm =>by
      rcases List.mem_append.1 hm with hm | hm
      · exact hx x hm
      · simp only [List.mem_singleton] at hm; omega
    have hadd:=ih (i + 1) (w ++ [(i:Int)]) f g (by omega) (by omega) (by simp only [List.length_append,List.length_singleton]; omega) hx2 (by omega) (by omega)
    have hsame:=ih (i + 1) w f g (by omega) (by omega) (by omega) hx (by omega) (by omega)
    by_cases h:(i:Int) ≥ (was.length:Int)
    · rw [if_pos h,if_pos h,Zay hlen,e1,Zay hlen]
      exact hadd
    · rw [if_neg h,if_neg h,Zay (show 0≤(i:Int)∧(i:Int) < (was.length:Int) by omega),Zay (show 0≤(i:Int)∧(i:Int) < (was.length:Int) by omega),Zay (show 0≤(i:Int)∧(i:Int) < (now.length:Int) by omega)]
      by_cases h2:was.getD ((i:Int)).toNat Zaa.d = now.getD ((i:Int)).toNat Zaa.d
      · simp only [h2,decide_true,Bool.not_true,cond_false,e1]
        exact hsame
      · simp only [h2,decide_false,Bool.not_false,cond_true]
        rw [Zay hlen,Zay hlen,e1]
        exact hadd
theorem ZvE (was now:List Zaa) (hn:now.length≤1000000) : ∃ l:List Int,ZgZ was now = some l∧ZeD was now = some l∧l.length≤now.length∧∀ x ∈ l,0≤x∧x < (now.length:Int) :=
  ZwR was now hn now.length 0 [] _ _ (by omega) (by omega) (by simp) (by simp) (by omega) (by omega)
theorem ZyI (got:List Zae) (q:Zao) (part:Int) (was now:List Zaa) (hn:now.length≤1000000):Zbr (wt got q) part was now = some (wt got q):=by
  obtain ⟨l,-,h2,h3,h4⟩:=ZvE was now hn
  unfold Zbr
  rw [h2]
  simp only [Option.bind_some]
  generalize hb:(Zad.mk _ _ _ _) = b8
  have main : ∀ (k i f:Nat),l.length - i = k→i≤l.length→k + 1≤f→ZaO part was now f l i (wt got q) b8 = some (wt got q):=by
    intro k
    induction k with
    | zero =>
      intro i f hk hi hf
      obtain ⟨f,rfl⟩ : ∃ x,f = x + 1:=⟨f - 1,by omega⟩
      unfold ZaO
      simp only [cond_decide',Zji,Option.bind_some]
      rw [if_neg (by omega)]
      simp
    | succ k ih =>
      intro i f hk hi hf
      obtain ⟨f,rfl⟩ : ∃ x,f = x + 1:=⟨f - 1,by omega⟩
      unfold ZaO
      simp only [cond_decide',Zji,Option.bind_some]
      have e1:ZaD (i:Int) 1 = ((i + 1:Nat):Int):=add1 (n:=i + 1) (by omega) (by simp only [maxLen]; omega)
      have hm:=h4 _ (ZlZ l (0:Int) i (by omega))
      rw [if_pos (by omega),Zay (by omega),Zay (by simpa using hm),e1]
      exact ih (i + 1) f (by omega) (by omega) (by omega)
  exact main l.length 0 _ (by omega) (by omega) (by omega)
theorem ZBw {got : List Zae} (hL : got.length ≤ 1000000) {a : Nat} (ha : a ≤ got.length) (part : Int) (was now : List Zaa) (hn : now.length ≤ 1000000) :
    Lka got a anyP anyW (Zhp ⟨got.drop a⟩ part was now) ((Zbr (wk got a) part was now).map fun w =>(w,())):=by
  obtain ⟨l,h1,h2,h3,h4⟩:=ZvE was now hn
  unfold Zhp Zbr
  rw [h1,h2]
  simp only [Option.bind_some]
  generalize hb:(Zad.mk _ _ _ _) = b8
  have main : ∀ (k i f g a : Nat), a ≤ got.length → l.length - i = k → i ≤ l.length → k + 1 ≤ f → k + 1 ≤ g →
      Lka got a anyP anyW (ZcT part was now f l (l.length:Int) i ⟨got.drop a⟩) ((ZaO part was now g l i (wk got a) b8).map fun w =>(w,())):=by
    intro k
    induction k with
    | zero =>
      intro i f g a ha hk hi hf hg
      obtain ⟨f,rfl⟩ : ∃ x,f = x + 1:=⟨f - 1,by omega⟩
      obtain ⟨g,rfl⟩ : ∃ x,g = x + 1:=⟨g - 1,by omega⟩
      unfold ZcT ZaO
      simp only [cond_decide']
      rw [if_neg (by omega),if_neg (by omega)]
      have e:Zho part = some ⟨5,part,0⟩:=rfl
      simp only [e,Option.bind_some]
      cases hc:(((was.length:Nat):Int) != ((now.length:Nat):Int)) with
      | false =>
        simp only [cond_false]
        exact .inl ⟨(),(),a,rfl,rfl,Nat.le_refl _,ha,trivial⟩
      | true =>
        simp only [cond_true]
        rcases ZxP hL ha ⟨5,part,0⟩ ⟨(now.length:Int),Zom,[],[]⟩ false ⟨Nat.zero_le _,Nat.zero_le _⟩ with ⟨v,b,a',q1,q2,q3,q4,-⟩ | ⟨q,b,q1,q2,hq,hW⟩
        · have q2:=Zqz q2
          have q1' : Zcf ⟨got.drop a⟩ ⟨5,part,0⟩ ⟨(now.length:Int),⟨⟨⟨false,0,0⟩,0⟩,false,0,⟨0,0⟩,0,0⟩,[],[]⟩ false = _:=q1
          have q2' : ZaB (wk got a) ⟨5,part,0⟩ ⟨(now.length:Int),⟨⟨⟨false,0,0⟩,0⟩,false,0,⟨0,0⟩,0,0⟩,[],[]⟩ false = _:=q2
          simp only [q1',q2',Option.bind_some,Option.map_some]
          exact .inl ⟨(),(),a',rfl,rfl,by omega,q4,trivial⟩
        · have q2:=Zqz q2
          have q1' : Zcf ⟨got.drop a⟩ ⟨5,part,0⟩ ⟨(now.length:Int),⟨⟨⟨false,0,0⟩,0⟩,false,0,⟨0,0⟩,0,0⟩,[],[]⟩ false = _:=q1
          have q2' : ZaB (wk got a) ⟨5,part,0⟩ ⟨(now.length:Int),⟨⟨⟨false,0,0⟩,0⟩,false,0,⟨0,0⟩,0,0⟩,[],[]⟩ false = _:=q2
          simp only [q1',q2',Option.bind_some,Option.map_some]
          exact .inr ⟨q,(),rfl,rfl,hq,trivial⟩
    | succ k ih =>
      intro i f g a ha hk hi hf hg
      obtain ⟨f,rfl⟩ : ∃ x,f = x + 1:=⟨f - 1,by omega⟩
      obtain ⟨g,rfl⟩ : ∃ x,g = x + 1:=⟨g - 1,by omega⟩
      unfold ZcT ZaO
      simp only [cond_decide']
      have e1:ZaD (i:Int) 1 = ((i + 1:Nat):Int):=add1 (n:=i + 1) (by omega) (by simp only [maxLen]; omega)
      have hm:=h4 _ (ZlZ l (0:Int) i (by omega))
      have hm' : 0≤l.getD ((i:Int)).toNat (0:Int)∧l.getD ((i:Int)).toNat (0:Int) < (now.length:Int):=by simpa using hm
      have e : ∀ x,Zhn part x = some ⟨6,part,x⟩:=fun _ =>rfl
      rw [if_pos (by omega),if_pos (by omega),Zay (by omega),Zay (by omega)]
      simp only [e,Option.bind_some]
      rw [Zay hm',Zay hm']
      rcases ZxP hL ha ⟨6,part,l.getD ((i:Int)).toNat (0:Int)⟩ ⟨0,now.getD (l.getD ((i:Int)).toNat (0:Int)).toNat Zaa.d,[],[]⟩ false ⟨Nat.zero_le _,Nat.zero_le _⟩ with ⟨v,b,a',q1,q2,q3,q4,-⟩ | ⟨q,b,q1,q2,hq,hW⟩
      · have q2:=Zqz q2
        simp only [q1,q2,Option.bind_some,e1]
        rcases ih (i + 1) f g a' q4 (by omega) (by omega) (by omega) (by omega) with ⟨x,y,a2,r1,r2,r3,r4,r5⟩ | hq
        · exact .inl ⟨x,y,a2,r1,r2,by omega,r4,r5⟩
        · exact .inr hq
      · have q2:=Zqz q2
        simp only [q1,q2,Option.bind_some,e1]
        have hw : ∀ (k i f:Nat),l.length - i = k→i≤l.length→k + 1≤f→ZaO part was now f l i (wt got q) b8 = some (wt got q):=by
          intro k
          induction k with
          | zero =>
            intro i f hk hi hf
            obtain ⟨f,rfl⟩ : ∃ x,f = x + 1:=⟨f - 1,by omega⟩
            unfold ZaO
            simp only [cond_decide',Zji,Option.bind_some]
            rw [if_neg (by omega)]
            simp
          | succ k ih =>
            intro i f hk hi hf
            obtain ⟨f,rfl⟩ : ∃ x,f = x + 1:=⟨f - 1,by omega⟩
            unfold ZaO
            simp only [cond_decide',Zji,Option.bind_some]
            have e1:ZaD (i:Int) 1 = ((i + 1:Nat):Int):=add1 (n:=i + 1) (by omega) (by simp only [maxLen]; omega)
            have hm:=h4 _ (ZlZ l (0:Int) i (by omega))
            rw [if_pos (by omega),Zay (by omega),Zay (by simpa using hm),e1]
            exact ih (i + 1) f (by omega) (by omega) (by omega)
        rw [hw k (i + 1) g (by omega) (by omega) (by omega)]
        exact .inr ⟨q,(),rfl,rfl,hq,trivial⟩
  exact main l.length 0 _ _ a ha (by omega) (by omega) (by omega) (by omega)
end Go.Proofs.YtdjfoojllbfcgaaGreat
namespace Go.Proofs.YtdjfoojllbfcgaaGreat
set_option linter.unusedVariables false
set_option linter.unusedSimpArgs false
def inI (n a b:Int):Bool:=decide (a≤n) && decide (n≤b)
def nowB (x:Zaw):Bool:=inI x.fNow 0 1099511627776
def ZjF (x:Zaw):Bool :=
  if x.fKind = 1 ∨ x.fKind = 12 ∨ x.fKind = 13 then ZkL x.fEnd && nowB x
  else if x.fKind = 2 then ZkL x.fEnd
  else if x.fKind = 3 ∨ x.fKind = 9 then nowB x
  else if x.fKind = 4 then ZkL x.fEnd && (nowB x && inI x.fNum 0 1073741824)
  else if x.fKind = 5 then ZkL x.fEnd && (inI x.fNum 1 5 && nowB x)
  else if x.fKind = 6 then Ziy x.fNet && (inI x.fNum 1 1099511627776 && nowB x)
  else if x.fKind = 7 then Ziy x.fNet
  else if x.fKind = 8 then ZfN x.fEnd.fAddr && nowB x
  else if x.fKind = 10 then true
  else if x.fKind = 11 then ZkL x.fEnd && inI x.fNum 1 1048576
  else false
def Zwb (x:Zaw) (s:Int × Int) (p:Int):Bool:=if p = 0 then ZkL x.fEnd else if p = 1 then Ziy x.fNet else if p = 2 then ZfN x.fEnd.fAddr else if p = 3 then nowB x else if p = 4 then inI x.fNum s.1 s.2 else true
theorem ZwN (x:Zaw) (hx:x.ok) (s:Int × Int) (hs:Zjg x.fKind = some s) (p:Int):ZjB x p = some (Zwb x s p):=by
  have he:x.fEnd.ok:=hx.2.1
  have hn:x.fNet.ok:=hx.2.2.1
  unfold ZjB Zwb
  simp only [ZgU,ZyB _ he,ZnL _ hn.1,ZlM _ he.1,hs,Option.bind_some,nowB,inI,cond_decide']
  repeat' split
  all_goals first | rfl | (simp_all; done) | (simp_all; omega)
theorem ZwO (x:Zaw) (hx:x.ok) (s:Int × Int) (hs:Zjg x.fKind = some s) (l:List Int) (hl:l.length≤100):Zea ((((l.length:Nat):Int) - (0:Int)).toNat + 2) l (l.length:Int) 0 x = some (l.all (Zwb x s)):=by
  have hL:l.length≤maxLen:=by unfold maxLen; omega
  have main : ∀ fu (i:Nat),i≤l.length→l.length - i < fu→Zea fu l (l.length:Int) (i:Int) x = some ((l.drop i).all (Zwb x s)):=by
    intro fu
    induction fu with
    | zero =>intro i _ h; omega
    | succ fu ih =>
      intro i hi hf
      unfold Zea
      simp only [cond_decide']
      by_cases h:i < l.length
      · rw [if_pos (by omega),Zay ⟨by omega,by omega⟩,ZwN x hx s hs,Option.bind_some,add1 h hL,ZjD l (0:Int) i h,List.all_cons,Int.toNat_natCast]
        cases Zwb x s (l.getD i 0) with
        | true =>simp only [Bool.not_true,cond_false,Bool.true_and]; exact ih (i + 1) (by omega) (by omega)
        | false =>rfl
      · rw [if_neg (by omega),List.drop_of_length_le (by omega)]; rfl
  exact main _ 0 (by omega) (by omega)
theorem ZAc (k:Int) : ∃ t,Zku k = some t∧((t.toList == (⟨#[]⟩ : ByteArray).toList) = !(decide (1≤k) && decide (k≤13))):=by
  unfold Zku ZkR Zpe
  simp only [Option.bind_some,cond_decide']
  by_cases h0:k < 0
  · rw [if_pos h0]
    refine ⟨_,rfl,?_⟩
    rw [decide_eq_false (show ¬ 1≤k by omega)]; simp
  · rw [if_neg h0]
    by_cases h1:k ≥ 14
    · have h2:k ≥ (([(⟨#[]⟩ : ByteArray),(⟨#[97,99,99,101,112,116]⟩ : ByteArray),(⟨#[108,101,97,118,101]⟩ : ByteArray),(⟨#[100,105,97,108]⟩ : ByteArray),(⟨#[114,101,115,117,108,116]⟩ : ByteArray),(⟨#[98,108,97,109,101]⟩ : ByteArray),(⟨#[98,97,110]⟩ : ByteArray),(⟨#[117,110,98,97,110]⟩ : ByteArray),(⟨#[98,97,110,110,101,100]⟩ : ByteArray),(⟨#[116,105,99,107]⟩ : ByteArray),(⟨#[108,105,115,116]⟩ : ByteArray),(⟨#[112,111,110,103]⟩ : ByteArray),(⟨#[119,111,114,107]⟩ : ByteArray),(⟨#[108,101,97,114,110]⟩ : ByteArray)]:List ByteArray).length:Int):=h1
      rw [if_pos h2]
      refine ⟨_,rfl,?_⟩
      rw [decide_eq_true (show 1≤k by omega),decide_eq_false (show ¬ k≤13 by omega)]; simp
    · obtain h | h | h | h | h | h | h | h | h | h | h | h | h | h:k = 0 ∨ k = 1 ∨ k = 2 ∨ k = 3 ∨ k = 4 ∨ k = 5 ∨ k = 6 ∨ k = 7 ∨ k = 8 ∨ k = 9 ∨ k = 10 ∨ k = 11 ∨ k = 12 ∨ k = 13:=by omega
      all_goals subst h; exact ⟨_,rfl,by decide +kernel⟩
theorem ZyE (x:Zaw) (hx:x.ok):ZjC x = some (ZjF x):=by
  obtain ⟨t,h1,h2⟩:=ZAc x.fKind
  unfold ZjC
  rw [h1,Option.bind_some,h2]
  by_cases hk:1≤x.fKind∧x.fKind≤13
  · rw [decide_eq_true hk.1,decide_eq_true hk.2]
    simp only [Bool.and_self,Bool.not_true,cond_false]
    have key : ∀ (k:Int) (l:List Int) (s:Int × Int),x.fKind = k→Zit k = some l→Zjg k = some s→l.length≤100→l.all (Zwb x s) = ZjF x→((Zit x.fKind).bind fun x2 =>Zea ((((x2.length:Nat):Int) - (0:Int)).toNat + 2) x2 ((x2.length:Nat):Int) (0:Int) x) = some (ZjF x):=by
      intro k l s e h3 h4 h5 h6
      rw [e,h3,Option.bind_some,ZwO x hx s (by rw [e]; exact h4) l h5,h6]
    obtain h | h | h | h | h | h | h | h | h | h | h | h | h:x.fKind = 1 ∨ x.fKind = 2 ∨ x.fKind = 3 ∨ x.fKind = 4 ∨ x.fKind = 5 ∨ x.fKind = 6 ∨ x.fKind = 7 ∨ x.fKind = 8 ∨ x.fKind = 9 ∨ x.fKind = 10 ∨ x.fKind = 11 ∨ x.fKind = 12 ∨ x.fKind = 13:=by omega
    all_goals exact key _ _ _ h rfl rfl (by simp) (by simp [ZjF,h,Zwb])
  · have hf:(decide (1≤x.fKind) && decide (x.fKind≤13)) = false:=by
      rw [Bool.and_eq_false_iff,decide_eq_false_iff_not,decide_eq_false_iff_not]
      omega
    rw [hf]
    simp only [Bool.not_false,cond_true]
    unfold ZjF
    repeat' rw [if_neg (by omega)]
theorem Zyd (x : Zaw) (hx : x.ok) (a b : Int) (s : ByteArray) (L : List Int) (hL : L.length = s.size) (h : ∀ i : Nat, i < s.size → ((Zpr s i : Nat) : Int) = L.getD i 0) (hs : s.size ≤ 100) :
    ZaQ a b x ((((s.size:Nat):Int) - (0:Int)).toNat + 2) s 0 = some (L.all fun c =>if c = 101 then ZkL x.fEnd else if c = 110 then Ziy x.fNet else if c = 97 then ZfN x.fEnd.fAddr else if c = 116 then nowB x else if c = 107 then inI x.fNum a b else true):=by
  have he:x.fEnd.ok:=hx.2.1
  have hn:x.fNet.ok:=hx.2.2.1
  have main : ∀ fu (i:Nat),i≤s.size→s.size - i < fu→ZaQ a b x fu s (i:Int) = some ((L.drop i).all fun c =>if c = 101 then ZkL x.fEnd else if c = 110 then Ziy x.fNet else if c = 97 then ZfN x.fEnd.fAddr else if c = 116 then nowB x else if c = 107 then inI x.fNum a b else true):=by
    intro fu
    induction fu with
    | zero =>intro i _ h; omega
    | succ fu ih =>
      intro i hi hf
      unfold ZaQ
      simp only [cond_decide',ZgU,Zuw _ he,Zpz _ hn.1,Zlo _ he.1,Option.bind_some]
      by_cases hlt:i < s.size
      · rw [if_pos (by omega),Zay ⟨by omega,by omega⟩,add1 (n:=s.size) hlt (by unfold maxLen; omega),ZjD L (0:Int) i (by omega),List.all_cons,Int.toNat_natCast,h i hlt,ih (i + 1) (by omega) (by omega)]
        generalize hR:((L.drop (i + 1)).all fun c =>if c = 101 then ZkL x.fEnd else if c = 110 then Ziy x.fNet else if c = 97 then ZfN x.fEnd.fAddr else if c = 116 then nowB x else if c = 107 then inI x.fNum a b else true) = R
        have two : ∀ q:Bool,(bif !q then some false else some R) = some (q && R):=fun q =>by cases q <;> rfl
        simp only [two]
        have rng : ∀ n lo hi:Int,(if n < lo then some false else if n > hi then some false else some R) = some (inI n lo hi && R):=fun n lo hi =>by
          unfold inI
          by_cases h1:n < lo
          · rw [if_pos h1,decide_eq_false (by omega)]; rfl
          · rw [if_neg h1,decide_eq_true (show lo≤n by omega)]
            by_cases h2:n > hi
            · rw [if_pos h2,decide_eq_false (by omega)]; rfl
            · rw [if_neg h2,decide_eq_true (show n≤hi by omega)]; rfl
        simp only [rng]
        unfold nowB
        repeat' split
        all_goals first | rfl | omega
      · rw [if_neg (by omega),List.drop_of_length_le (by omega)]; rfl
  exact main _ 0 (by omega) (by omega)
theorem ZvV (x:Zaw) (hx:x.ok):ZeV x = some (ZjF x):=by
  unfold ZeV ZcI
  simp only [cond_decide',ZgU]
  by_cases h1:x.fKind < 1
  · rw [if_pos h1]
    unfold ZjF
    repeat' rw [if_neg (by omega)]
  · rw [if_neg h1]
    by_cases h2:x.fKind > 13
    · rw [if_pos h2]
      unfold ZjF
      repeat' rw [if_neg (by omega)]
    · rw [if_neg h2]
      have key : ∀ (k a b : Int) (s : ByteArray) (L : List Int), x.fKind = k → ZeU k = some s → L.length = s.size → (∀ i : Nat, i < s.size → ((Zpr s i : Nat) : Int) = L.getD i 0) → s.size ≤ 100 →
          (L.all fun c =>if c = 101 then ZkL x.fEnd else if c = 110 then Ziy x.fNet else if c = 97 then ZfN x.fEnd.fAddr else if c = 116 then nowB x else if c = 107 then inI x.fNum a b else true) = ZjF x →
          ((ZeU x.fKind).bind fun x1 =>ZaQ a b x ((((x1.size:Nat):Int) - (0:Int)).toNat + 2) x1 (0:Int)) = some (ZjF x):=by
        intro k a b s L e h3 h4 h5 h6 h7
        rw [e,h3,Option.bind_some,Zyd x hx a b s L h4 h5 h6,h7]
      obtain h | h | h | h | h | h | h | h | h | h | h | h | h:x.fKind = 1 ∨ x.fKind = 2 ∨ x.fKind = 3 ∨ x.fKind = 4 ∨ x.fKind = 5 ∨ x.fKind = 6 ∨ x.fKind = 7 ∨ x.fKind = 8 ∨ x.fKind = 9 ∨ x.fKind = 10 ∨ x.fKind = 11 ∨ x.fKind = 12 ∨ x.fKind = 13:=by omega
      · rw [if_neg (by omega),if_neg (by omega),if_neg (by omega)]; exact key 1 _ _ _ [101,116] h rfl rfl (by decide) (by decide) (by simp [ZjF,h])
      · rw [if_neg (by omega),if_neg (by omega),if_neg (by omega)]; exact key 2 _ _ _ [101] h rfl rfl (by decide) (by decide) (by simp [ZjF,h])
      · rw [if_neg (by omega),if_neg (by omega),if_neg (by omega)]; exact key 3 _ _ _ [116] h rfl rfl (by decide) (by decide) (by simp [ZjF,h])
      · rw [if_neg (by omega),if_neg (by omega),if_neg (by omega)]; exact key 4 _ _ _ [101,103,116,107] h rfl rfl (by decide) (by decide) (by simp [ZjF,h])
      · rw [if_pos h]; exact key 5 _ _ _ [101,107,116] h rfl rfl (by decide) (by decide) (by simp [ZjF,h])
      · rw [if_neg (by omega),if_pos h]; exact key 6 _ _ _ [110,107,116] h rfl rfl (by decide) (by decide) (by simp [ZjF,h])
      · rw [if_neg (by omega),if_neg (by omega),if_neg (by omega)]; exact key 7 _ _ _ [110] h rfl rfl (by decide) (by decide) (by simp [ZjF,h])
      · rw [if_neg (by omega),if_neg (by omega),if_neg (by omega)]; exact key 8 _ _ _ [97,116] h rfl rfl (by decide) (by decide) (by simp [ZjF,h])
      · rw [if_neg (by omega),if_neg (by omega),if_neg (by omega)]; exact key 9 _ _ _ [116] h rfl rfl (by decide) (by decide) (by simp [ZjF,h])
      · rw [if_neg (by omega),if_neg (by omega),if_neg (by omega)]; exact key 10 _ _ _ [] h rfl rfl (by decide) (by decide) (by simp [ZjF,h])
      · rw [if_neg (by omega),if_neg (by omega),if_pos h]; exact key 11 _ _ _ [101,107] h rfl rfl (by decide) (by decide) (by simp [ZjF,h])
      · rw [if_neg (by omega),if_neg (by omega),if_neg (by omega)]; exact key 12 _ _ _ [101,116] h rfl rfl (by decide) (by decide) (by simp [ZjF,h])
      · rw [if_neg (by omega),if_neg (by omega),if_neg (by omega)]; exact key 13 _ _ _ [101,116] h rfl rfl (by decide) (by decide) (by simp [ZjF,h])
end Go.Proofs.YtdjfoojllbfcgaaGreat
namespace Go.Proofs.YtdjfoojllbfcgaaGreat
set_option linter.unusedVariables false
set_option linter.unusedSimpArgs false
theorem Znw (got:List Zae) (q:Zao) (k by_:Int) (mark:Bool) (b8:Zad) (g:Nat) (hg:1≤g):ZbZ k by_ mark g (wt got q) b8 = some (wt got q):=by
  obtain ⟨g,rfl⟩ : ∃ x,g = x + 1:=⟨g - 1,by omega⟩
  unfold ZbZ
  simp only [Ztk,Bool.not_true,cond_false]
theorem ZkD (got:List Zae) (q:Zao) (k by_:Int) (mark:Bool):ZbK (wt got q) k by_ mark = some (wt got q):=by
  unfold ZbK
  exact Znw got q k by_ mark _ 1000000 (by omega)
theorem ZAB {got : List Zae} (hL : got.length ≤ 900000) (kind by_ : Int) (mark : Bool) (b8 : Zad) : ∀ (k a f g : Nat), got.length - a = k → a ≤ got.length → k + 1 ≤ f → k + 2 ≤ g →
    Lka got a anyP anyW (Zew by_ mark f ⟨got.drop a⟩ ⟨kind,0,0⟩) ((ZbZ kind by_ mark g (wk got a) b8).map fun w =>(w,())):=by
  intro k
  induction k using Nat.strongRecOn with
  | ind k ih =>
    intro a f g hk ha hf hg
    obtain ⟨f,rfl⟩ : ∃ x,f = x + 1:=⟨f - 1,by omega⟩
    obtain ⟨g,rfl⟩ : ∃ x,g = x + 1:=⟨g - 1,by omega⟩
    unfold Zew ZbZ
    simp only [Zkf,Bool.not_false,cond_true]
    rcases ZwX (by omega) ha ⟨kind,0,0⟩ trivial with ⟨v,b,a',h1,h2,h3,h4,rfl⟩ | ⟨q,b,h1,h2,hq,hW⟩
    · simp only [h1,h2,ZaF]
      rcases ZCB (by omega) h4 kind v.fN (ZaD v.fN by_) mark with ⟨v2,b2,a2,r1,r2,r3,r4,rfl⟩ | ⟨q,b2,r1,r2,hq,hW⟩
      · simp only [r1,r2,ZaF]
        cases v2 with
        | true =>exact .inl ⟨(),(),a2,rfl,rfl,by omega,r4,trivial⟩
        | false =>
          simp only [cond_false]
          rcases ih (got.length - a2) (by omega) a2 f g rfl r4 (by omega) (by omega) with ⟨x,y,a3,s1,s2,s3,s4,s5⟩ | hq
          · exact .inl ⟨x,y,a3,s1,s2,by omega,s4,s5⟩
          · exact .inr hq
      · simp only [r1,r2,ZaF]
        cases b2 with
        | true =>exact .inr ⟨q,(),rfl,rfl,hq,trivial⟩
        | false =>
          simp only [cond_false]
          rw [Znw got q kind by_ mark b8 g (by omega)]
          exact .inr ⟨q,(),rfl,rfl,hq,trivial⟩
    · simp only [h1,h2,ZaF,ZAy,cond_false]
      rw [Znw got q kind by_ mark b8 g (by omega)]
      exact .inr ⟨q,(),rfl,rfl,hq,trivial⟩
theorem ZCD {got:List Zae} (hL:got.length≤900000) {a:Nat} (ha:a≤got.length) (kind by_:Int) (mark:Bool):Lka got a anyP anyW (Zfx ⟨got.drop a⟩ kind by_ mark) ((ZbK (wk got a) kind by_ mark).map fun w =>(w,())):=by
  unfold Zfx ZbK
  exact ZAB hL kind by_ mark _ _ a 1000000 1000000 rfl ha (by omega) (by omega)
theorem Zto (l:List Zab) (h:l.length≤1000000):Zge l l = some true:=by
  have main : ∀ (k i f:Nat),l.length - i = k→i≤l.length→k + 1≤f→ZcB l l f i = some true:=by
    intro k
    induction k with
    | zero =>
      intro i f hk hi hf
      obtain ⟨f,rfl⟩ : ∃ x,f = x + 1:=⟨f - 1,by omega⟩
      have hc : ¬ ((i:Int) < (l.length:Int)):=by omega
      unfold ZcB
      simp only [cond_decide',if_neg hc]
    | succ k ih =>
      intro i f hk hi hf
      obtain ⟨f,rfl⟩ : ∃ x,f = x + 1:=⟨f - 1,by omega⟩
      have hc:(i:Int) < (l.length:Int):=by omega
      have e1:ZaD (i:Int) 1 = ((i + 1:Nat):Int):=add1 (n:=i + 1) (by omega) (by simp only [maxLen]; omega)
      unfold ZcB
      simp only [cond_decide',if_pos hc,e1,decide_true,Bool.not_true,cond_false]
      rw [Zay (by omega),Zay (by omega)]
      exact ih (i + 1) f (by omega) (by omega) (by omega)
  unfold Zge
  simp only [bne_self_eq_false,cond_false]
  exact main l.length 0 _ (by omega) (by omega) (by omega)
theorem Ztn (l:List Zac) (h:l.length≤1000000):Zgd l l = some true:=by
  have main : ∀ (k i f:Nat),l.length - i = k→i≤l.length→k + 1≤f→ZcA l l f i = some true:=by
    intro k
    induction k with
    | zero =>
      intro i f hk hi hf
      obtain ⟨f,rfl⟩ : ∃ x,f = x + 1:=⟨f - 1,by omega⟩
      have hc : ¬ ((i:Int) < (l.length:Int)):=by omega
      unfold ZcA
      simp only [cond_decide',if_neg hc]
    | succ k ih =>
      intro i f hk hi hf
      obtain ⟨f,rfl⟩ : ∃ x,f = x + 1:=⟨f - 1,by omega⟩
      have hc:(i:Int) < (l.length:Int):=by omega
      have e1:ZaD (i:Int) 1 = ((i + 1:Nat):Int):=add1 (n:=i + 1) (by omega) (by simp only [maxLen]; omega)
      unfold ZcA
      simp only [cond_decide',if_pos hc,e1,decide_true,Bool.not_true,cond_false]
      rw [Zay (by omega),Zay (by omega)]
      exact ih (i + 1) f (by omega) (by omega) (by omega)
  unfold Zgd
  simp only [bne_self_eq_false,cond_false]
  exact main l.length 0 _ (by omega) (by omega) (by omega)
theorem Zsf (l:List Zaa) (h:l.length≤1000000):ZfC l l = some true:=by
  have main : ∀ (k i f:Nat),l.length - i = k→i≤l.length→k + 1≤f→Zcs l l f i = some true:=by
    intro k
    induction k with
    | zero =>
      intro i f hk hi hf
      obtain ⟨f,rfl⟩ : ∃ x,f = x + 1:=⟨f - 1,by omega⟩
      have hc : ¬ ((i:Int) < (l.length:Int)):=by omega
      unfold Zcs
      simp only [cond_decide',if_neg hc]
    | succ k ih =>
      intro i f hk hi hf
      obtain ⟨f,rfl⟩ : ∃ x,f = x + 1:=⟨f - 1,by omega⟩
      have hc:(i:Int) < (l.length:Int):=by omega
      have e1:ZaD (i:Int) 1 = ((i + 1:Nat):Int):=add1 (n:=i + 1) (by omega) (by simp only [maxLen]; omega)
      unfold Zcs
      simp only [cond_decide',if_pos hc,e1,decide_true,Bool.not_true,cond_false]
      rw [Zay (by omega),Zay (by omega)]
      exact ih (i + 1) f (by omega) (by omega) (by omega)
  unfold ZfC
  simp only [bne_self_eq_false,cond_false]
  exact main l.length 0 _ (by omega) (by omega) (by omega)
theorem Zse (v:Zae) (h:okV v):ZfB v v = some true:=by
  unfold ZfB
  simp only [beq_self_eq_true,decide_true,cond_true,Zto _ h.1,Ztn _ h.2,ZaF]
theorem ZqQ (o:Zao) (h:okV o.fVal):ZdC o o = some true:=by
  unfold ZdC
  simp only [beq_self_eq_true,decide_true,cond_true,Zse _ h,ZaF]
theorem ZnX (r:Zam) (h:r.fPeers.length≤1000000):ZdD r r = some true:=by
  unfold ZdD
  simp only [beq_self_eq_true,decide_true,cond_true,Zsf _ h,ZaF]
end Go.Proofs.YtdjfoojllbfcgaaGreat
namespace Go.Proofs.YtdjfoojllbfcgaaGreat
set_option linter.unusedVariables false
set_option linter.unusedSimpArgs false
inductive Pr (α:Type) where
  | ret (x:α)
  | ask (o:Zao) (k:Zae→Pr α)
  | no
def Pr.bind {α β:Type}:Pr α→(α→Pr β)→Pr β
  | .ret x,f =>f x
  | .ask o k,f =>.ask o fun v =>(k v).bind f
  | .no,_ =>.no
theorem Pr.bind_ret {α β:Type} (x:α) (f:α→Pr β):(Pr.ret x).bind f = f x:=rfl
theorem Pr.bind_ask {α β:Type} (o:Zao) (k:Zae→Pr α) (f:α→Pr β):(Pr.ask o k).bind f = .ask o fun v =>(k v).bind f:=rfl
theorem Pr.bind_assoc {α β γ:Type} (p:Pr α) (f:α→Pr β) (g:β→Pr γ):(p.bind f).bind g = p.bind fun x =>(f x).bind g:=by
  induction p with
  | ret x =>rfl
  | ask o k ih =>simp only [Pr.bind_ask,ih]
  | no =>rfl
def runT {α:Type}:Pr α→List Zae→Option (Tout α)
  | .ret x,l =>some (.ret x ⟨l⟩)
  | .ask o _,[] =>some (.pan (opN o))
  | .ask _ k,v :: l =>runT (k v) l
  | .no,_ =>none
theorem ZAI {α:Type} (p:Pr α) : ∀ (l:List Zae) (s:ByteArray),runT p l ≠ some (.bad s):=by
  induction p with
  | ret x =>intro l s h; simp [runT] at h
  | ask o k ih =>
    intro l s
    cases l with
    | nil =>simp [runT]
    | cons v l =>exact ih v l s
  | no =>intro l s h; simp [runT] at h
theorem Zbk {α β : Type} {p : Pr α} {f : α → Pr β} {l : List Zae} {F : Tout α → Option (Tout β)} (h1 : ∀ x a, a ≤ l.length → runT p l = some (.ret x ⟨l.drop a⟩) → F (.ret x ⟨l.drop a⟩) = runT (f x) (l.drop a)) (h2 : ∀ o, F (.pan o) = some (.pan o)) :
    (runT p l).bind F = runT (p.bind f) l:=by
  induction p generalizing l with
  | ret x =>
    have:=h1 x 0 (Nat.zero_le _) rfl
    simpa [runT,Pr.bind] using this
  | ask o k ih =>
    cases l with
    | nil =>simp only [runT,Pr.bind,Option.bind_some,h2]
    | cons v l =>
      simp only [runT,Pr.bind]
      refine ih v fun x a ha h =>?_
      exact h1 x (a + 1) (by simp only [List.length_cons]; omega) h
  | no =>rfl
theorem ZmM {α:Type} {p:Pr α} {l:List Zae} {F:Tout α→Option (Tout α)} (h1 : ∀ x g,F (.ret x g) = some (.ret x g)) (h2 : ∀ o,F (.pan o) = some (.pan o)):(runT p l).bind F = runT p l:=by
  cases h:runT p l with
  | none =>rfl
  | some t =>
    cases t with
    | ret x g =>exact h1 x g
    | pan o =>exact h2 o
    | bad s =>exact absurd h (ZAI p l s)
abbrev Wlk {α β:Type} (got:List Zae) (a:Nat) (P:α→β→Prop) (W:β→Prop) (p:Pr α) (r:Option (Zad × β)):Prop:=Lka got a P W (runT p (got.drop a)) r
theorem Wlk.seq {α β γ δ : Type} {got : List Zae} {a : Nat} {P : α → β → Prop} {W : β → Prop} {p : Pr α} {r : Option (Zad × β)} (h : Wlk got a P W p r) {f : α → Pr γ} {P' : γ → δ → Prop} {W' : δ → Prop} {K : Zad → β → Option (Zad × δ)}
    (h1 : ∀ x b a',a≤a'→a'≤got.length→P x b→Wlk got a' P' W' (f x) (K (wk got a') b)) (h2 : ∀ q b,W b→∃ d,K (wt got q) b = some (wt got q,d)∧W' d) :
    Wlk got a P' W' (p.bind f) (r.bind fun x =>K x.1 x.2):=by
  unfold Wlk
  rw [← Zbk (p:=p) (f:=f) (l:=got.drop a) (F:=fun t =>match t with | .ret x g =>runT (f x) g.fgot | .pan o =>some (.pan o) | .bad s =>some (.bad s)) (fun x a _ _ =>rfl) (fun o =>rfl)]
  rcases h with ⟨v,b,a',e1,e2,e3,e4,e5⟩ | ⟨q,b,e1,e2,e3,e4⟩
  · rw [e1,e2]
    exact (h1 v b a' e3 e4 e5).weak e3
  · rw [e1,e2]
    obtain ⟨d,e5,e6⟩:=h2 q b e4
    simp only [Option.bind_some,e5]
    exact .inr ⟨q,d,rfl,rfl,e3,e6⟩
def Zon (l:Zan):Pr Zae:=.ask ⟨5,0,l,0,0,valZ,false⟩ .ret
def ZmJ (l:Zan) (v:Zae) (mark:Bool):Pr Unit:=.ask ⟨6,0,l,0,0,v,mark⟩ fun _ =>.ret ()
def keyP (k lock:Int) (mark:Bool):Pr Unit:=.ask ⟨k,lock,locZ,0,0,valZ,mark⟩ fun _ =>.ret ()
def ZCI (k old now:Int) (mark:Bool):Pr Bool:=.ask ⟨7,0,⟨k,0,0⟩,old,now,valZ,mark⟩ fun v =>.ret (v.fN == 1)
theorem ZpW {α:Type} (f:Zae→α) (o:Zao) (l:List Zae):((Zch ⟨l⟩ o).bind fun x =>match x with | .ret v g =>some (Tout.ret (f v) g) | .pan q =>some (.pan q) | .bad s =>some (.bad s)) = runT (.ask o fun v =>.ret (f v)) l:=by
  cases l with
  | nil =>rw [ZAr]; rfl
  | cons v r =>rw [ZxN]; rfl
theorem Zpu (l:List Zae) (c:Zan):Zdb ⟨l⟩ c false = runT (Zon c) l:=ZpW id _ l
theorem Znv (l:List Zae) (c:Zan) (v:Zae) (mark:Bool):Zcf ⟨l⟩ c v mark = runT (ZmJ c v mark) l:=ZpW (fun _ =>()) _ l
theorem ZBx (l:List Zae) (k old now:Int) (mark:Bool):ZfT ⟨l⟩ ⟨k,0,0⟩ old now mark = runT (ZCI k old now mark) l:=ZpW (fun v =>v.fN == 1) _ l
theorem ZqI (l:List Zae) (k:Int) (mark:Bool):ZeN ⟨l⟩ k mark = runT (keyP 1 k mark) l:=ZpW (fun _ =>()) _ l
theorem ZhG (l:List Zae) (k:Int) (mark:Bool):Zbf ⟨l⟩ k mark = runT (keyP 3 k mark) l:=ZpW (fun _ =>()) _ l
theorem ZBz (l:List Zae) (mark:Bool):Zib ⟨l⟩ mark = runT (keyP 8 0 mark) l:=ZpW (fun _ =>()) _ l
end Go.Proofs.YtdjfoojllbfcgaaGreat
