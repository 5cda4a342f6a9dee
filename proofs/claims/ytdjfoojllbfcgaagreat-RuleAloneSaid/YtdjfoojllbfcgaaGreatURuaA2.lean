import Derived.Test.YtdjfoojllbfcgaaGreatURuaA1
namespace Go.Proofs.YtdjfoojllbfcgaaGreat
open Go.RowKit Go.Lib Go.Shelf
set_option linter.unusedVariables false
set_option maxRecDepth 100000
def Zbj(d:Int):Nat->Int->Int->(List Zaa)->Option (List Zaa)|0,_,_,_=>none|fu+1,a,c,b=>bif(a != c)then bif(decide (a>c))then(Zbt b (ZaV d a) d c).bind fun e=>Zbj d fu (ZaV a c) c e else(Zbt b (ZaV d a) (ZaV (Zar d c) a) a).bind fun f=>Zbj d fu a (ZaV c a) f else(Zbt b (ZaV d a) d a).bind fun g=>some g
theorem Zio(S0:Nat->Prop)(w0:Zba)(l:Int):∀(i:Nat)(e f:Int)(a r:List Zaa),Zbj l i e f a=some r->Good Tryz.prog 58 S0 w0 (bodyPost Tryz.prog Tryz.f408 (Zbk S0 w0 [(100000,.rows 44 10 r.length (Zam Zaa.c Zaa.d r))] (.tup []))) (at_ [1,1,0,0] (ZaW Tryz.f408)) ⟨[(0,.one (.osl 100000 a.length)),(2,(Yj l)),(4,.one (.lit (.func (.func 325) #[] #[]))),(10,(Yj e)),(11,(Yj f))],[(100000,.rows 44 10 a.length (Zam Zaa.c Zaa.d a))]⟩:=by
 intro i;induction i with
 |zero=>
  intro e f a r b;simp[Zbj]at b
 |succ i m=>
  intro e f a r b;unfold Zbj at b;rcases Zai b with⟨j,b⟩|⟨j,b⟩
  ·rcases Zai b with⟨k,b⟩|⟨k,b⟩
   ·obtain⟨g,p,b⟩:=Zaf b;exact Ye 15 [rz,rz,rH [] [(7,⟨[(100000,100000)],[],[(100000,.rows 44 10 g.length (Zam Zaa.c Zaa.d g))],.tup []⟩)],rz] [true,true] ⟨[],[],[],[(100000,g.length)],[],[0,2,4,10,11],[100000],[]⟩ (.c j (.c k (.c (Zdg _ _ _ _ _ p) (.c (show g.length=g.length from rfl) .n)))) (m (ZaV e f) f g r b)
   ·obtain⟨h,q,b⟩:=Zaf b;exact Ye 15 [rz,rz,rH [] [(11,⟨[(100000,100000)],[],[(100000,.rows 44 10 h.length (Zam Zaa.c Zaa.d h))],.tup []⟩)],rz] [true,false] ⟨[],[],[],[(100000,h.length)],[],[0,2,4,10,11],[100000],[]⟩ (.c j (.c k (.c (Zdg _ _ _ _ _ q) (.c (show h.length=h.length from rfl) .n)))) (m e (ZaV f e) h r b)
  ·obtain⟨o,s,b⟩:=Zaf b;apply Yc b 7 [rz,rH [] [(7,⟨[(100000,100000)],[],[(100000,.rows 44 10 o.length (Zam Zaa.c Zaa.d o))],.tup []⟩)]] [false] ⟨[],[],[],[],[],[],[100000],[]⟩ (.c j (.c (Zdg _ _ _ _ _ s) .n))
def ZbS(b:List Zaa)(c a d:Int):Option (List Zaa):=Zbj a 1000000 (ZaV a c) (ZaV d a) b
theorem Ziw(a:List Zaa)(e b f:Int)(r:List Zaa)(g:ZbS a e b f=some r):Zcu Tryz.prog 408 [(100000,.rows 44 10 a.length (Zam Zaa.c Zaa.d a))] [.one (.osl 100000 a.length),(Yj e),(Yj b),(Yj f),.one (.lit (.func (.func 325) #[] #[]))] [(100000,.rows 44 10 r.length (Zam Zaa.c Zaa.d r))] (.tup []):=by
 refine Zcu.of Tryz.func408 rfl rfl rfl rfl fun S0 w0=>?_;unfold ZbS at g;exact Ye 6 [rz,rz] [] ⟨[],[],[],[],[],[0,2,4,10,11],[100000],[]⟩ .n (Zio S0 w0 b 1000000 (ZaV b e) (ZaV f b) a r g)
def Zbf(f c e:Int)(aq:Int->Int->(List Zaa)->Option (List Zaa)):Nat->Int->(List Zaa)->Option (List Zaa)|0,_,_=>none|fu+1,b,a=>bif(decide (b<(ZaV c (1:Int))))then need (0<=(Zar b 1)/\(Zar b 1)<((a.length:Nat):Int))<|need (0<=b/\b<((a.length:Nat):Int))<|Zbf f c e aq fu (Zar b 1) ((a.set b.toNat (a.getD ((Zar b 1).toNat) Zaa.d)).set ((Zar b 1).toNat) (a.getD b.toNat Zaa.d))else some a
theorem ZhI(S0:Nat->Prop)(w0:Zba)(l f j:Int)(aq:Int->Int->(List Zaa)->Option (List Zaa))(bL:∀(fB fC:Int)(am r:List Zaa),aq fB fC am=some r->Good Tryz.prog 220 S0 w0 (bodyPost Tryz.prog Tryz.f392 (Zbk S0 w0 [(100000,.rows 44 10 r.length (Zam Zaa.c Zaa.d r))] (.tup []))) (at_ [0,1,0,1,1,0,0] (ZaW Tryz.f392)) ⟨[(0,.one (.osl 100000 am.length)),(1,(Yj l)),(4,.one (.lit (.func (.func 325) #[] #[]))),(10,(Yj fB)),(11,(Yj fC))],[(100000,.rows 44 10 am.length (Zam Zaa.c Zaa.d am))]⟩):∀(g:Nat)(b:Int)(a r:List Zaa),Zbf l f j aq g b a=some r->Good Tryz.prog 220 S0 w0 (bodyPost Tryz.prog Tryz.f392 (Zbk S0 w0 [(100000,.rows 44 10 r.length (Zam Zaa.c Zaa.d r))] (.tup []))) (at_ [0,1,0,1,1,1,0,1,0] (ZaW Tryz.f392)) ⟨[(0,.one (.osl 100000 a.length)),(10,(Yj f)),(13,(Yj b))],[(100000,.rows 44 10 a.length (Zam Zaa.c Zaa.d a))]⟩:=by
 intro g;induction g with
 |zero=>
  intro b a r e;simp[Zbf]at e
 |succ g m=>
  intro b a r e;unfold Zbf at e;rcases Zai e with⟨k,e⟩|⟨k,e⟩
  ·obtain⟨h,e⟩:=Zaq e;obtain⟨i,e⟩:=Zaq e;exact Ye 12 [rz,rA [(15,.c (a.set b.toNat (a.getD ((Zar b 1).toNat) Zaa.d)).length (Zam Zaa.c Zaa.d (a.set b.toNat (a.getD ((Zar b 1).toNat) Zaa.d)))),(17,.c ((a.set b.toNat (a.getD ((Zar b 1).toNat) Zaa.d)).set ((Zar b 1).toNat) (a.getD b.toNat Zaa.d)).length (Zam Zaa.c Zaa.d ((a.set b.toNat (a.getD ((Zar b 1).toNat) Zaa.d)).set ((Zar b 1).toNat) (a.getD b.toNat Zaa.d))))],rz] [true] ⟨[],[],[],[(100000,(((a.set b.toNat (a.getD ((Zar b 1).toNat) Zaa.d)).set ((Zar b 1).toNat) (a.getD b.toNat Zaa.d)).length))],[],[0,10,13],[100000],[]⟩ (.c k (.c h (.c (show (Zar b 1).toNat<a.length from(ltOf h)) (.c i (.c (show b.toNat<a.length from(ltOf i)) (.c i (.c (show (a.set b.toNat (a.getD ((Zar b 1).toNat) Zaa.d)).length=a.length from List.length_set) (.c (show b.toNat<a.length from(ltOf i)) (.c (show ExtU 10 a.length (Zam Zaa.c Zaa.d a) b.toNat 0 (Zaa.c (a.getD ((Zar b 1).toNat) Zaa.d)) (Zam Zaa.c Zaa.d (a.set b.toNat (a.getD ((Zar b 1).toNat) Zaa.d)))from(ZiG _ _ _ rfl)) (.c h (.c (show ((a.set b.toNat (a.getD ((Zar b 1).toNat) Zaa.d)).set ((Zar b 1).toNat) (a.getD b.toNat Zaa.d)).length=(a.set b.toNat (a.getD ((Zar b 1).toNat) Zaa.d)).length from List.length_set) (.c (show (Zar b 1).toNat<(a.set b.toNat (a.getD ((Zar b 1).toNat) Zaa.d)).length from(by have:=ltOf h;simp at this ⊢;omega)) (.c (show ExtU 10 ((a.set b.toNat (a.getD ((Zar b 1).toNat) Zaa.d)).length) (Zam Zaa.c Zaa.d (a.set b.toNat (a.getD ((Zar b 1).toNat) Zaa.d))) ((Zar b 1).toNat) 0 (Zaa.c (a.getD b.toNat Zaa.d)) (Zam Zaa.c Zaa.d ((a.set b.toNat (a.getD ((Zar b 1).toNat) Zaa.d)).set ((Zar b 1).toNat) (a.getD b.toNat Zaa.d)))from(ZiG _ _ _ rfl)) (.c (show ((a.set b.toNat (a.getD ((Zar b 1).toNat) Zaa.d)).set ((Zar b 1).toNat) (a.getD b.toNat Zaa.d)).length=((a.set b.toNat (a.getD ((Zar b 1).toNat) Zaa.d)).set ((Zar b 1).toNat) (a.getD b.toNat Zaa.d)).length from rfl) .n)))))))))))))) (m (Zar b 1) ((a.set b.toNat (a.getD ((Zar b 1).toNat) Zaa.d)).set ((Zar b 1).toNat) (a.getD b.toNat Zaa.d)) r e)
  ·apply Yc e 6 [rz] [false] ⟨[],[],[],[],[],[],[100000],[]⟩ (.c k .n)
def ZaH(e:Int):Nat->Int->Int->(List Zaa)->Option (List Zaa)|0,_,_,_=>none|fu+1,b,c,a=>bif(decide (b<c))then need (0<=(IntKind.wrap .i64 (Int.fdiv (IntKind.wrap .u64 (Zar b c)) (2 ^ (min (1:Int).toNat (IntKind.bits .u64)))))/\(IntKind.wrap .i64 (Int.fdiv (IntKind.wrap .u64 (Zar b c)) (2 ^ (min (1:Int).toNat (IntKind.bits .u64)))))<((a.length:Nat):Int))<|need (0<=e/\e<((a.length:Nat):Int))<|(ZgI (a.getD ((IntKind.wrap .i64 (Int.fdiv (IntKind.wrap .u64 (Zar b c)) (2 ^ (min (1:Int).toNat (IntKind.bits .u64))))).toNat) Zaa.d) (a.getD e.toNat Zaa.d)).bind fun f=>bif(decide (f<(0:Int)))then ZaH e fu (Zar (IntKind.wrap .i64 (Int.fdiv (IntKind.wrap .u64 (Zar b c)) (2 ^ (min (1:Int).toNat (IntKind.bits .u64))))) (1:Int)) c a else ZaH e fu b (IntKind.wrap .i64 (Int.fdiv (IntKind.wrap .u64 (Zar b c)) (2 ^ (min (1:Int).toNat (IntKind.bits .u64))))) a else Zbf e b c (ZaH e fu) 1000000 e a
theorem ZhJ(S0:Nat->Prop)(w0:Zba)(g:Int):∀(h:Nat)(b e:Int)(a r:List Zaa),ZaH g h b e a=some r->Good Tryz.prog 220 S0 w0 (bodyPost Tryz.prog Tryz.f392 (Zbk S0 w0 [(100000,.rows 44 10 r.length (Zam Zaa.c Zaa.d r))] (.tup []))) (at_ [0,1,0,1,1,0,0] (ZaW Tryz.f392)) ⟨[(0,.one (.osl 100000 a.length)),(1,(Yj g)),(4,.one (.lit (.func (.func 325) #[] #[]))),(10,(Yj b)),(11,(Yj e))],[(100000,.rows 44 10 a.length (Zam Zaa.c Zaa.d a))]⟩:=by
 intro h;induction h with
 |zero=>
  intro b e a r f;simp[ZaH]at f
 |succ h i=>
  intro b e a r f;unfold ZaH at f;rcases Zai f with⟨j,f⟩|⟨j,f⟩
  ·obtain⟨l,f⟩:=Zaq f;obtain⟨m,f⟩:=Zaq f;obtain⟨o,p,f⟩:=Zaf f;have O1:Obl _:=(.c j (.c (show 0<=(1:Int)from(by decide)) (.c l (.c (show (IntKind.wrap .i64 (Int.fdiv (IntKind.wrap .u64 (Zar b e)) (2 ^ (min (1:Int).toNat (IntKind.bits .u64))))).toNat<a.length from(ltOf l)) (.c m (.c (show g.toNat<a.length from(ltOf m)) (.c (Zjr _ _ _ p) .n)))))));rcases Zai f with⟨k,f⟩|⟨k,f⟩
   ·exact Ye 15 [rz,rz,rA [(9,aI o)],rz] [true,true] ⟨[],[],[],[],[],[0,1,4,10,11],[100000],[]⟩ (O1.app (.c k .n)) (i (Zar (IntKind.wrap .i64 (Int.fdiv (IntKind.wrap .u64 (Zar b e)) (2 ^ (min (1:Int).toNat (IntKind.bits .u64))))) (1:Int)) e a r f)
   ·exact Ye 15 [rz,rz,rA [(9,aI o)],rz] [true,false] ⟨[],[],[],[],[],[0,1,4,10,11],[100000],[]⟩ (O1.app (.c k .n)) (i b (IntKind.wrap .i64 (Int.fdiv (IntKind.wrap .u64 (Zar b e)) (2 ^ (min (1:Int).toNat (IntKind.bits .u64))))) a r f)
  ·exact Ye 10 [rz,rz] [false] ⟨[],[],[],[],[],[0,10,13],[100000],[]⟩ (.c j .n) (ZhI S0 w0 g b e (ZaH g h) i 1000000 g a r f)
def Zbe(f c e:Int)(ar:Int->Int->(List Zaa)->Option (List Zaa)):Nat->Int->(List Zaa)->Option (List Zaa)|0,_,_=>none|fu+1,b,a=>bif(decide (b>c))then need (0<=(ZaV b (1:Int))/\(ZaV b (1:Int))<((a.length:Nat):Int))<|need (0<=b/\b<((a.length:Nat):Int))<|Zbe f c e ar fu (ZaV b (1:Int)) ((a.set b.toNat (a.getD ((ZaV b (1:Int)).toNat) Zaa.d)).set ((ZaV b (1:Int)).toNat) (a.getD b.toNat Zaa.d))else some a
theorem ZhG(S0:Nat->Prop)(w0:Zba)(l g j:Int)(ar:Int->Int->(List Zaa)->Option (List Zaa))(bM:∀(kc ke:Int)(am r:List Zaa),ar kc ke am=some r->Good Tryz.prog 220 S0 w0 (bodyPost Tryz.prog Tryz.f392 (Zbk S0 w0 [(100000,.rows 44 10 r.length (Zam Zaa.c Zaa.d r))] (.tup []))) (at_ [1,0,1,0,1,1,0,0] (ZaW Tryz.f392)) ⟨[(0,.one (.osl 100000 am.length)),(2,(Yj l)),(4,.one (.lit (.func (.func 325) #[] #[]))),(14,(Yj kc)),(15,(Yj ke))],[(100000,.rows 44 10 am.length (Zam Zaa.c Zaa.d am))]⟩):∀(h:Nat)(b:Int)(a r:List Zaa),Zbe l g j ar h b a=some r->Good Tryz.prog 220 S0 w0 (bodyPost Tryz.prog Tryz.f392 (Zbk S0 w0 [(100000,.rows 44 10 r.length (Zam Zaa.c Zaa.d r))] (.tup []))) (at_ [1,0,1,0,1,1,1,0,1,0] (ZaW Tryz.f392)) ⟨[(0,.one (.osl 100000 a.length)),(14,(Yj g)),(17,(Yj b))],[(100000,.rows 44 10 a.length (Zam Zaa.c Zaa.d a))]⟩:=by
 intro h;induction h with
 |zero=>
  intro b a r e;simp[Zbe]at e
 |succ h m=>
  intro b a r e;unfold Zbe at e;rcases Zai e with⟨k,e⟩|⟨k,e⟩
  ·obtain⟨i,e⟩:=Zaq e;obtain⟨f,e⟩:=Zaq e;exact Ye 12 [rz,rA [(15,.c (a.set b.toNat (a.getD ((ZaV b (1:Int)).toNat) Zaa.d)).length (Zam Zaa.c Zaa.d (a.set b.toNat (a.getD ((ZaV b (1:Int)).toNat) Zaa.d)))),(17,.c ((a.set b.toNat (a.getD ((ZaV b (1:Int)).toNat) Zaa.d)).set ((ZaV b (1:Int)).toNat) (a.getD b.toNat Zaa.d)).length (Zam Zaa.c Zaa.d ((a.set b.toNat (a.getD ((ZaV b (1:Int)).toNat) Zaa.d)).set ((ZaV b (1:Int)).toNat) (a.getD b.toNat Zaa.d))))],rz] [true] ⟨[],[],[],[(100000,(((a.set b.toNat (a.getD ((ZaV b (1:Int)).toNat) Zaa.d)).set ((ZaV b (1:Int)).toNat) (a.getD b.toNat Zaa.d)).length))],[],[0,14,17],[100000],[]⟩ (.c k (.c i (.c (show (ZaV b (1:Int)).toNat<a.length from(ltOf i)) (.c f (.c (show b.toNat<a.length from(ltOf f)) (.c f (.c (show (a.set b.toNat (a.getD ((ZaV b (1:Int)).toNat) Zaa.d)).length=a.length from List.length_set) (.c (show b.toNat<a.length from(ltOf f)) (.c (show ExtU 10 a.length (Zam Zaa.c Zaa.d a) b.toNat 0 (Zaa.c (a.getD ((ZaV b (1:Int)).toNat) Zaa.d)) (Zam Zaa.c Zaa.d (a.set b.toNat (a.getD ((ZaV b (1:Int)).toNat) Zaa.d)))from(ZiG _ _ _ rfl)) (.c i (.c (show ((a.set b.toNat (a.getD ((ZaV b (1:Int)).toNat) Zaa.d)).set ((ZaV b (1:Int)).toNat) (a.getD b.toNat Zaa.d)).length=(a.set b.toNat (a.getD ((ZaV b (1:Int)).toNat) Zaa.d)).length from List.length_set) (.c (show (ZaV b (1:Int)).toNat<(a.set b.toNat (a.getD ((ZaV b (1:Int)).toNat) Zaa.d)).length from(by have:=ltOf i;simp at this ⊢;omega)) (.c (show ExtU 10 ((a.set b.toNat (a.getD ((ZaV b (1:Int)).toNat) Zaa.d)).length) (Zam Zaa.c Zaa.d (a.set b.toNat (a.getD ((ZaV b (1:Int)).toNat) Zaa.d))) ((ZaV b (1:Int)).toNat) 0 (Zaa.c (a.getD b.toNat Zaa.d)) (Zam Zaa.c Zaa.d ((a.set b.toNat (a.getD ((ZaV b (1:Int)).toNat) Zaa.d)).set ((ZaV b (1:Int)).toNat) (a.getD b.toNat Zaa.d)))from(ZiG _ _ _ rfl)) (.c (show ((a.set b.toNat (a.getD ((ZaV b (1:Int)).toNat) Zaa.d)).set ((ZaV b (1:Int)).toNat) (a.getD b.toNat Zaa.d)).length=((a.set b.toNat (a.getD ((ZaV b (1:Int)).toNat) Zaa.d)).set ((ZaV b (1:Int)).toNat) (a.getD b.toNat Zaa.d)).length from rfl) .n)))))))))))))) (m (ZaV b (1:Int)) ((a.set b.toNat (a.getD ((ZaV b (1:Int)).toNat) Zaa.d)).set ((ZaV b (1:Int)).toNat) (a.getD b.toNat Zaa.d)) r e)
  ·apply Yc e 6 [rz] [false] ⟨[],[],[],[],[],[],[100000],[]⟩ (.c k .n)
def ZaG(e:Int):Nat->Int->Int->(List Zaa)->Option (List Zaa)|0,_,_,_=>none|fu+1,b,c,a=>bif(decide (b<c))then need (0<=e/\e<((a.length:Nat):Int))<|need (0<=(IntKind.wrap .i64 (Int.fdiv (IntKind.wrap .u64 (Zar b c)) (2 ^ (min (1:Int).toNat (IntKind.bits .u64)))))/\(IntKind.wrap .i64 (Int.fdiv (IntKind.wrap .u64 (Zar b c)) (2 ^ (min (1:Int).toNat (IntKind.bits .u64)))))<((a.length:Nat):Int))<|(ZgI (a.getD e.toNat Zaa.d) (a.getD ((IntKind.wrap .i64 (Int.fdiv (IntKind.wrap .u64 (Zar b c)) (2 ^ (min (1:Int).toNat (IntKind.bits .u64))))).toNat) Zaa.d)).bind fun f=>bif(!(decide (f<(0:Int))))then ZaG e fu (Zar (IntKind.wrap .i64 (Int.fdiv (IntKind.wrap .u64 (Zar b c)) (2 ^ (min (1:Int).toNat (IntKind.bits .u64))))) (1:Int)) c a else ZaG e fu b (IntKind.wrap .i64 (Int.fdiv (IntKind.wrap .u64 (Zar b c)) (2 ^ (min (1:Int).toNat (IntKind.bits .u64))))) a else Zbe e b c (ZaG e fu) ((e-b).toNat+2) e a
theorem ZhH(S0:Nat->Prop)(w0:Zba)(g:Int):∀(h:Nat)(b e:Int)(a r:List Zaa),ZaG g h b e a=some r->Good Tryz.prog 220 S0 w0 (bodyPost Tryz.prog Tryz.f392 (Zbk S0 w0 [(100000,.rows 44 10 r.length (Zam Zaa.c Zaa.d r))] (.tup []))) (at_ [1,0,1,0,1,1,0,0] (ZaW Tryz.f392)) ⟨[(0,.one (.osl 100000 a.length)),(2,(Yj g)),(4,.one (.lit (.func (.func 325) #[] #[]))),(14,(Yj b)),(15,(Yj e))],[(100000,.rows 44 10 a.length (Zam Zaa.c Zaa.d a))]⟩:=by
 intro h;induction h with
 |zero=>
  intro b e a r f;simp[ZaG]at f
 |succ h i=>
  intro b e a r f;unfold ZaG at f;rcases Zai f with⟨j,f⟩|⟨j,f⟩
  ·obtain⟨l,f⟩:=Zaq f;obtain⟨m,f⟩:=Zaq f;obtain⟨o,p,f⟩:=Zaf f;have O2:Obl _:=(.c j (.c (show 0<=(1:Int)from(by decide)) (.c l (.c (show g.toNat<a.length from(ltOf l)) (.c m (.c (show (IntKind.wrap .i64 (Int.fdiv (IntKind.wrap .u64 (Zar b e)) (2 ^ (min (1:Int).toNat (IntKind.bits .u64))))).toNat<a.length from(ltOf m)) (.c (Zjr _ _ _ p) .n)))))));rcases Zai f with⟨k,f⟩|⟨k,f⟩
   ·exact Ye 15 [rz,rz,rA [(9,aI o)],rz] [true,true] ⟨[],[],[],[],[],[0,2,4,14,15],[100000],[]⟩ (O2.app (.c k .n)) (i (Zar (IntKind.wrap .i64 (Int.fdiv (IntKind.wrap .u64 (Zar b e)) (2 ^ (min (1:Int).toNat (IntKind.bits .u64))))) (1:Int)) e a r f)
   ·exact Ye 15 [rz,rz,rA [(9,aI o)],rz] [true,false] ⟨[],[],[],[],[],[0,2,4,14,15],[100000],[]⟩ (O2.app (.c k .n)) (i b (IntKind.wrap .i64 (Int.fdiv (IntKind.wrap .u64 (Zar b e)) (2 ^ (min (1:Int).toNat (IntKind.bits .u64))))) a r f)
  ·exact Ye 10 [rz,rz] [false] ⟨[],[],[],[],[],[0,14,17],[100000],[]⟩ (.c j .n) (ZhG S0 w0 g b e (ZaG g h) i ((g-b).toNat+2) g a r f)
def Zbd(j k d:Int)(gr:((List Zaa)->Int->Int->Int->Option (List Zaa)))(c e f g h b:Int)(ac:Int->Int->Int->(List Zaa)->Option (List Zaa))(a:List Zaa):Option (List Zaa):=bif(decide (c<b))then bif(decide (b<d))then(gr a c b d).bind fun i=>some i else some a else some a
theorem ZcY(S0:Nat->Prop)(w0:Zba)(i j h:Int)(gr:((List Zaa)->Int->Int->Int->Option (List Zaa)))(f k o p q l:Int)(bv:∀(m:List Zaa)(i j h:Int)(r:List Zaa),gr m i j h=some r->Zcu Tryz.prog 392 [(100000,.rows 44 10 m.length (Zam Zaa.c Zaa.d m))] [.one (.osl 100000 m.length),(Yj i),(Yj j),(Yj h),.one (.lit (.func (.func 325) #[] #[]))] [(100000,.rows 44 10 r.length (Zam Zaa.c Zaa.d r))] (.tup []))(ac:Int->Int->Int->(List Zaa)->Option (List Zaa))(au:∀(fD fE fF:Int)(am r:List Zaa),ac fD fE fF am=some r->Good Tryz.prog 220 S0 w0 (bodyPost Tryz.prog Tryz.f392 (Zbk S0 w0 [(100000,.rows 44 10 r.length (Zam Zaa.c Zaa.d r))] (.tup []))) (at_ [1,1,1,1,1,1,1,0,0] (ZaW Tryz.f392)) ⟨[(0,.one (.osl 100000 am.length)),(1,(Yj i)),(2,(Yj j)),(3,(Yj h)),(4,.one (.lit (.func (.func 325) #[] #[]))),(18,(Yj f)),(19,(Yj k)),(20,(Yj fD)),(21,(Yj fE)),(22,(Yj fF))],[(100000,.rows 44 10 am.length (Zam Zaa.c Zaa.d am))]⟩)(a r:List Zaa)(b:Zbd i j h gr f k o p q l ac a=some r):Good Tryz.prog 220 S0 w0 (bodyPost Tryz.prog Tryz.f392 (Zbk S0 w0 [(100000,.rows 44 10 r.length (Zam Zaa.c Zaa.d r))] (.tup []))) (at_ [1,1,1,1,1,1,1,1,1,1,1] (ZaW Tryz.f392)) ⟨[(0,.one (.osl 100000 a.length)),(3,(Yj h)),(4,.one (.lit (.func (.func 325) #[] #[]))),(18,(Yj f)),(24,(Yj l))],[(100000,.rows 44 10 a.length (Zam Zaa.c Zaa.d a))]⟩:=by
 unfold Zbd at b;rcases Zai b with⟨e,b⟩|⟨e,b⟩
 ·rcases Zai b with⟨g,b⟩|⟨g,b⟩
  ·obtain⟨t,s,b⟩:=Zaf b;apply Yc b 4 [rB [(3,true)],rH [] [(5,⟨[(100000,100000)],[],[(100000,.rows 44 10 t.length (Zam Zaa.c Zaa.d t))],.tup []⟩)]] [true] ⟨[],[],[],[],[],[],[100000],[]⟩ (.c e (.c g (.c (bv _ _ _ _ _ s) .n)))
  ·apply Yc b 4 [rB [(3,true)]] [false] ⟨[],[],[],[],[],[],[100000],[]⟩ (.c e (.c g .n))
 ·apply Yc b 4 [rB [(3,false)]] [false] ⟨[],[],[],[],[],[],[100000],[]⟩ (.c e (.c (show false=false from rfl) .n))
def ZaR(h i j:Int)(gr:((List Zaa)->Int->Int->Int->Option (List Zaa)))(c d b e f:Int)(ac:Int->Int->Int->(List Zaa)->Option (List Zaa))(g:Int)(a:List Zaa):Option (List Zaa):=bif(decide (h<b))then bif(decide (b<c))then(gr a h b c).bind fun k=>Zbd h i j gr c d b e f g ac k else Zbd h i j gr c d b e f g ac a else Zbd h i j gr c d b e f g ac a
theorem ZcZ(S0:Nat->Prop)(w0:Zba)(i o j:Int)(gr:((List Zaa)->Int->Int->Int->Option (List Zaa)))(b f g k l:Int)(bv:∀(s:List Zaa)(i o j:Int)(r:List Zaa),gr s i o j=some r->Zcu Tryz.prog 392 [(100000,.rows 44 10 s.length (Zam Zaa.c Zaa.d s))] [.one (.osl 100000 s.length),(Yj i),(Yj o),(Yj j),.one (.lit (.func (.func 325) #[] #[]))] [(100000,.rows 44 10 r.length (Zam Zaa.c Zaa.d r))] (.tup []))(ac:Int->Int->Int->(List Zaa)->Option (List Zaa))(au:∀(fD fE fF:Int)(am r:List Zaa),ac fD fE fF am=some r->Good Tryz.prog 220 S0 w0 (bodyPost Tryz.prog Tryz.f392 (Zbk S0 w0 [(100000,.rows 44 10 r.length (Zam Zaa.c Zaa.d r))] (.tup []))) (at_ [1,1,1,1,1,1,1,0,0] (ZaW Tryz.f392)) ⟨[(0,.one (.osl 100000 am.length)),(1,(Yj i)),(2,(Yj o)),(3,(Yj j)),(4,.one (.lit (.func (.func 325) #[] #[]))),(18,(Yj b)),(19,(Yj f)),(20,(Yj fD)),(21,(Yj fE)),(22,(Yj fF))],[(100000,.rows 44 10 am.length (Zam Zaa.c Zaa.d am))]⟩)(h:Int)(a r:List Zaa)(e:ZaR i o j gr b f g k l ac h a=some r):Good Tryz.prog 220 S0 w0 (bodyPost Tryz.prog Tryz.f392 (Zbk S0 w0 [(100000,.rows 44 10 r.length (Zam Zaa.c Zaa.d r))] (.tup []))) (at_ [1,1,1,1,1,1,1,1,1,1] (ZaW Tryz.f392)) ⟨[(0,.one (.osl 100000 a.length)),(1,(Yj i)),(3,(Yj j)),(4,.one (.lit (.func (.func 325) #[] #[]))),(18,(Yj b)),(20,(Yj g)),(24,(Yj h))],[(100000,.rows 44 10 a.length (Zam Zaa.c Zaa.d a))]⟩:=by
 unfold ZaR at e;rcases Zai e with⟨m,e⟩|⟨m,e⟩
 ·rcases Zai e with⟨p,e⟩|⟨p,e⟩
  ·obtain⟨q,t,e⟩:=Zaf e;exact Ye 5 [rB [(3,true)],rH [] [(5,⟨[(100000,100000)],[],[(100000,.rows 44 10 q.length (Zam Zaa.c Zaa.d q))],.tup []⟩)]] [true] ⟨[],[],[],[(100000,q.length)],[],[0,3,4,18,24],[100000],[]⟩ (.c m (.c p (.c (bv _ _ _ _ _ t) (.c (show q.length=q.length from rfl) .n)))) (ZcY S0 w0 i o j gr b f g k l h bv ac au q r e)
  ·exact Ye 5 [rB [(3,true)]] [false] ⟨[],[],[],[],[],[0,3,4,18,24],[100000],[]⟩ (.c m (.c p .n)) (ZcY S0 w0 i o j gr b f g k l h bv ac au a r e)
 ·exact Ye 5 [rB [(3,false)]] [false] ⟨[],[],[],[],[],[0,3,4,18,24],[100000],[]⟩ (.c m (.c (show false=false from rfl) .n)) (ZcY S0 w0 i o j gr b f g k l h bv ac au a r e)
def ZaB(i h j:Int)(gr:((List Zaa)->Int->Int->Int->Option (List Zaa)))(f c:Int):Nat->Int->Int->Int->(List Zaa)->Option (List Zaa)|0,_,_,_,_=>none|fu+1,b,e,g,a=>bif(decide (b<e))then need (0<=(ZaV g (IntKind.wrap .i64 (Int.fdiv (IntKind.wrap .u64 (Zar b e)) (2 ^ (min (1:Int).toNat (IntKind.bits .u64))))))/\(ZaV g (IntKind.wrap .i64 (Int.fdiv (IntKind.wrap .u64 (Zar b e)) (2 ^ (min (1:Int).toNat (IntKind.bits .u64))))))<((a.length:Nat):Int))<|need (0<=(IntKind.wrap .i64 (Int.fdiv (IntKind.wrap .u64 (Zar b e)) (2 ^ (min (1:Int).toNat (IntKind.bits .u64)))))/\(IntKind.wrap .i64 (Int.fdiv (IntKind.wrap .u64 (Zar b e)) (2 ^ (min (1:Int).toNat (IntKind.bits .u64)))))<((a.length:Nat):Int))<|(ZgI (a.getD ((ZaV g (IntKind.wrap .i64 (Int.fdiv (IntKind.wrap .u64 (Zar b e)) (2 ^ (min (1:Int).toNat (IntKind.bits .u64)))))).toNat) Zaa.d) (a.getD ((IntKind.wrap .i64 (Int.fdiv (IntKind.wrap .u64 (Zar b e)) (2 ^ (min (1:Int).toNat (IntKind.bits .u64))))).toNat) Zaa.d)).bind fun k=>bif(!(decide (k<(0:Int))))then ZaB i h j gr f c fu (Zar (IntKind.wrap .i64 (Int.fdiv (IntKind.wrap .u64 (Zar b e)) (2 ^ (min (1:Int).toNat (IntKind.bits .u64))))) (1:Int)) e g a else ZaB i h j gr f c fu b (IntKind.wrap .i64 (Int.fdiv (IntKind.wrap .u64 (Zar b e)) (2 ^ (min (1:Int).toNat (IntKind.bits .u64))))) g a else bif(decide (b<h))then bif(decide (h<(ZaV c b)))then(ZbS a b h (ZaV c b)).bind fun l=>ZaR i h j gr f c b e g (ZaB i h j gr f c fu) (ZaV c b) l else ZaR i h j gr f c b e g (ZaB i h j gr f c fu) (ZaV c b) a else ZaR i h j gr f c b e g (ZaB i h j gr f c fu) (ZaV c b) a
theorem ZhF(S0:Nat->Prop)(w0:Zba)(j k l:Int)(gr:((List Zaa)->Int->Int->Int->Option (List Zaa)))(i g:Int)(bv:∀(t:List Zaa)(j k l:Int)(r:List Zaa),gr t j k l=some r->Zcu Tryz.prog 392 [(100000,.rows 44 10 t.length (Zam Zaa.c Zaa.d t))] [.one (.osl 100000 t.length),(Yj j),(Yj k),(Yj l),.one (.lit (.func (.func 325) #[] #[]))] [(100000,.rows 44 10 r.length (Zam Zaa.c Zaa.d r))] (.tup [])):∀(m:Nat)(b f h:Int)(a r:List Zaa),ZaB j k l gr i g m b f h a=some r->Good Tryz.prog 220 S0 w0 (bodyPost Tryz.prog Tryz.f392 (Zbk S0 w0 [(100000,.rows 44 10 r.length (Zam Zaa.c Zaa.d r))] (.tup []))) (at_ [1,1,1,1,1,1,1,0,0] (ZaW Tryz.f392)) ⟨[(0,.one (.osl 100000 a.length)),(1,(Yj j)),(2,(Yj k)),(3,(Yj l)),(4,.one (.lit (.func (.func 325) #[] #[]))),(18,(Yj i)),(19,(Yj g)),(20,(Yj b)),(21,(Yj f)),(22,(Yj h))],[(100000,.rows 44 10 a.length (Zam Zaa.c Zaa.d a))]⟩:=by
 intro m;induction m with
 |zero=>
  intro b f h a r e;simp[ZaB]at e
 |succ m q=>
  intro b f h a r e;unfold ZaB at e;rcases Zai e with⟨s,e⟩|⟨s,e⟩
  ·obtain⟨x,e⟩:=Zaq e;obtain⟨y,e⟩:=Zaq e;obtain⟨z,A,e⟩:=Zaf e;have O3:Obl _:=(.c s (.c (show 0<=(1:Int)from(by decide)) (.c x (.c (show (ZaV h (IntKind.wrap .i64 (Int.fdiv (IntKind.wrap .u64 (Zar b f)) (2 ^ (min (1:Int).toNat (IntKind.bits .u64)))))).toNat<a.length from(ltOf x)) (.c y (.c (show (IntKind.wrap .i64 (Int.fdiv (IntKind.wrap .u64 (Zar b f)) (2 ^ (min (1:Int).toNat (IntKind.bits .u64))))).toNat<a.length from(ltOf y)) (.c (Zjr _ _ _ A) .n)))))));rcases Zai e with⟨v,e⟩|⟨v,e⟩
   ·exact Ye 15 [rz,rz,rA [(11,aI z)],rz] [true,true] ⟨[],[],[],[],[],[0,1,2,3,4,18,19,20,21,22],[100000],[]⟩ (O3.app (.c v .n)) (q (Zar (IntKind.wrap .i64 (Int.fdiv (IntKind.wrap .u64 (Zar b f)) (2 ^ (min (1:Int).toNat (IntKind.bits .u64))))) (1:Int)) f h a r e)
   ·exact Ye 15 [rz,rz,rA [(11,aI z)],rz] [true,false] ⟨[],[],[],[],[],[0,1,2,3,4,18,19,20,21,22],[100000],[]⟩ (O3.app (.c v .n)) (q b (IntKind.wrap .i64 (Int.fdiv (IntKind.wrap .u64 (Zar b f)) (2 ^ (min (1:Int).toNat (IntKind.bits .u64))))) h a r e)
  ·rcases Zai e with⟨u,e⟩|⟨u,e⟩
   ·rcases Zai e with⟨o,e⟩|⟨o,e⟩
    ·obtain⟨p,w,e⟩:=Zaf e;exact Ye 13 [rz,rz,rB [(3,true)],rH [] [(5,⟨[(100000,100000)],[],[(100000,.rows 44 10 p.length (Zam Zaa.c Zaa.d p))],.tup []⟩)]] [false,true] ⟨[],[],[],[(100000,p.length)],[],[0,1,3,4,18,20,24],[100000],[]⟩ (.c s (.c u (.c o (.c (Ziw _ _ _ _ _ w) (.c (show p.length=p.length from rfl) .n))))) (ZcZ S0 w0 j k l gr i g b f h bv (ZaB j k l gr i g m) q (ZaV g b) p r e)
    ·exact Ye 13 [rz,rz,rB [(3,true)]] [false,false] ⟨[],[],[],[],[],[0,1,3,4,18,20,24],[100000],[]⟩ (.c s (.c u (.c o .n))) (ZcZ S0 w0 j k l gr i g b f h bv (ZaB j k l gr i g m) q (ZaV g b) a r e)
   ·exact Ye 13 [rz,rz,rB [(3,false)]] [false,false] ⟨[],[],[],[],[],[0,1,3,4,18,20,24],[100000],[]⟩ (.c s (.c u (.c (show false=false from rfl) .n))) (ZcZ S0 w0 j k l gr i g b f h bv (ZaB j k l gr i g m) q (ZaV g b) a r e)
def ZbC(f g h:Int)(gr:((List Zaa)->Int->Int->Int->Option (List Zaa)))(e b c d:Int)(a:List Zaa):Option (List Zaa):=ZaB f g h gr e b ((d-c).toNat+2) c d (ZaV b (1:Int)) a
theorem Zes(S0:Nat->Prop)(w0:Zba)(h i j:Int)(gr:((List Zaa)->Int->Int->Int->Option (List Zaa)))(bv:∀(k:List Zaa)(h i j:Int)(r:List Zaa),gr k h i j=some r->Zcu Tryz.prog 392 [(100000,.rows 44 10 k.length (Zam Zaa.c Zaa.d k))] [.one (.osl 100000 k.length),(Yj h),(Yj i),(Yj j),.one (.lit (.func (.func 325) #[] #[]))] [(100000,.rows 44 10 r.length (Zam Zaa.c Zaa.d r))] (.tup []))(g b e f:Int)(a r:List Zaa)(l:ZbC h i j gr g b e f a=some r):Good Tryz.prog 220 S0 w0 (bodyPost Tryz.prog Tryz.f392 (Zbk S0 w0 [(100000,.rows 44 10 r.length (Zam Zaa.c Zaa.d r))] (.tup []))) (at_ [1,1,1,1,1,1] (ZaW Tryz.f392)) ⟨[(0,.one (.osl 100000 a.length)),(1,(Yj h)),(2,(Yj i)),(3,(Yj j)),(4,.one (.lit (.func (.func 325) #[] #[]))),(18,(Yj g)),(19,(Yj b)),(20,(Yj e)),(21,(Yj f))],[(100000,.rows 44 10 a.length (Zam Zaa.c Zaa.d a))]⟩:=by
 unfold ZbC at l;exact Ye 4 [rz] [] ⟨[],[],[],[],[],[0,1,2,3,4,18,19,20,21,22],[100000],[]⟩ .n (ZhF S0 w0 h i j gr g b bv ((f-e).toNat+2) e f (ZaV b (1:Int)) a r l)
def Zcb(gr:(List Zaa)->Int->Int->Int->Option (List Zaa))(d:List Zaa)(a b c:Int):Option (List Zaa):=bif((ZaV b a)==(1:Int))then ZaH a ((c-b).toNat+2) b c d else bif((ZaV c b)==(1:Int))then ZaG b ((b-a).toNat+2) a b d else bif(decide (b>(IntKind.wrap .i64 (Int.fdiv (IntKind.wrap .u64 (Zar a c)) (2 ^ (min (1:Int).toNat (IntKind.bits .u64)))))))then ZbC a b c gr (IntKind.wrap .i64 (Int.fdiv (IntKind.wrap .u64 (Zar a c)) (2 ^ (min (1:Int).toNat (IntKind.bits .u64))))) (Zar (IntKind.wrap .i64 (Int.fdiv (IntKind.wrap .u64 (Zar a c)) (2 ^ (min (1:Int).toNat (IntKind.bits .u64))))) b) (ZaV (Zar (IntKind.wrap .i64 (Int.fdiv (IntKind.wrap .u64 (Zar a c)) (2 ^ (min (1:Int).toNat (IntKind.bits .u64))))) b) c) (IntKind.wrap .i64 (Int.fdiv (IntKind.wrap .u64 (Zar a c)) (2 ^ (min (1:Int).toNat (IntKind.bits .u64))))) d else ZbC a b c gr (IntKind.wrap .i64 (Int.fdiv (IntKind.wrap .u64 (Zar a c)) (2 ^ (min (1:Int).toNat (IntKind.bits .u64))))) (Zar (IntKind.wrap .i64 (Int.fdiv (IntKind.wrap .u64 (Zar a c)) (2 ^ (min (1:Int).toNat (IntKind.bits .u64))))) b) a b d
theorem ZhY(gr:(List Zaa)->Int->Int->Int->Option (List Zaa))(bv:∀(g:List Zaa)(a b e:Int)(r:List Zaa),gr g a b e=some r->Zcu Tryz.prog 392 [(100000,.rows 44 10 g.length (Zam Zaa.c Zaa.d g))] [.one (.osl 100000 g.length),(Yj a),(Yj b),(Yj e),.one (.lit (.func (.func 325) #[] #[]))] [(100000,.rows 44 10 r.length (Zam Zaa.c Zaa.d r))] (.tup []))(g:List Zaa)(a b e:Int)(r:List Zaa)(f:Zcb gr g a b e=some r):Zcu Tryz.prog 392 [(100000,.rows 44 10 g.length (Zam Zaa.c Zaa.d g))] [.one (.osl 100000 g.length),(Yj a),(Yj b),(Yj e),.one (.lit (.func (.func 325) #[] #[]))] [(100000,.rows 44 10 r.length (Zam Zaa.c Zaa.d r))] (.tup []):=by
 refine Zcu.of Tryz.func392 rfl rfl rfl rfl fun S0 w0=>?_;unfold Zcb at f;rcases Zai f with⟨h,f⟩|⟨h,f⟩
 ·exact Ye 10 [rz,rz,rz] [true] ⟨[],[],[],[],[],[0,1,4,10,11],[100000],[]⟩ (.c h .n) (ZhJ S0 w0 a ((e-b).toNat+2) b e g r f)
 ·rcases Zai f with⟨i,f⟩|⟨i,f⟩
  ·exact Ye 15 [rz,rz,rz,rz] [false,true] ⟨[],[],[],[],[],[0,2,4,14,15],[100000],[]⟩ (.c h (.c i .n)) (ZhH S0 w0 b ((b-a).toNat+2) a b g r f)
  ·have O4:Obl _:=(.c h (.c i (.c (show 0<=(1:Int)from(by decide)) .n)));rcases Zai f with⟨j,f⟩|⟨j,f⟩
   ·exact Ye 23 [rz,rz,rz,rz,rz,rz,rz,rz] [false,false,true] ⟨[],[],[],[],[],[0,1,2,3,4,18,19,20,21],[100000],[]⟩ (O4.app (.c j .n)) (Zes S0 w0 a b e gr bv (IntKind.wrap .i64 (Int.fdiv (IntKind.wrap .u64 (Zar a e)) (2 ^ (min (1:Int).toNat (IntKind.bits .u64))))) (Zar (IntKind.wrap .i64 (Int.fdiv (IntKind.wrap .u64 (Zar a e)) (2 ^ (min (1:Int).toNat (IntKind.bits .u64))))) b) (ZaV (Zar (IntKind.wrap .i64 (Int.fdiv (IntKind.wrap .u64 (Zar a e)) (2 ^ (min (1:Int).toNat (IntKind.bits .u64))))) b) e) (IntKind.wrap .i64 (Int.fdiv (IntKind.wrap .u64 (Zar a e)) (2 ^ (min (1:Int).toNat (IntKind.bits .u64))))) g r f)
   ·exact Ye 23 [rz,rz,rz,rz,rz,rz,rz,rz] [false,false,false] ⟨[],[],[],[],[],[0,1,2,3,4,18,19,20,21],[100000],[]⟩ (O4.app (.c j .n)) (Zes S0 w0 a b e gr bv (IntKind.wrap .i64 (Int.fdiv (IntKind.wrap .u64 (Zar a e)) (2 ^ (min (1:Int).toNat (IntKind.bits .u64))))) (Zar (IntKind.wrap .i64 (Int.fdiv (IntKind.wrap .u64 (Zar a e)) (2 ^ (min (1:Int).toNat (IntKind.bits .u64))))) b) a b g r f)
def Zbb:Nat->(List Zaa)->Int->Int->Int->Option (List Zaa)|0,_,_,_,_=>none|fu+1,a,b,c,d=>Zcb (Zbb fu) a b c d
theorem ZeN:∀(b:Nat)(a:List Zaa)(e f g:Int)(r:List Zaa)(h:Zbb b a e f g=some r),Zcu Tryz.prog 392 [(100000,.rows 44 10 a.length (Zam Zaa.c Zaa.d a))] [.one (.osl 100000 a.length),(Yj e),(Yj f),(Yj g),.one (.lit (.func (.func 325) #[] #[]))] [(100000,.rows 44 10 r.length (Zam Zaa.c Zaa.d r))] (.tup []):=by
 intro b;induction b with
 |zero=>
  intro a e f g r h;simp[Zbb]at h
 |succ b i=>
  intro a e f g r h;unfold Zbb at h;exact ZhY (Zbb b) i a e f g r h
def ZaU(d b:Int)(ae:Int->Int->Int->(List Zaa)->Option (List Zaa))(ak:Int->(List Zaa)->Option (List Zaa)):Nat->Int->Int->(List Zaa)->Option (List Zaa)|0,_,_,_=>none|fu+1,c,e,a=>bif(decide (e<=d))then(Zbb 1000 a c (Zar c b) e).bind fun f=>ZaU d b ae ak fu e (Zar e (Zrk (2:Int) b)) f else bif(decide ((Zar c b)<d))then(Zbb 1000 a c (Zar c b) d).bind fun g=>ak (Zrk b (2:Int)) g else ak (Zrk b (2:Int)) a
theorem Zil(S0:Nat->Prop)(w0:Zba)(i h:Int)(ae:Int->Int->Int->(List Zaa)->Option (List Zaa))(ak:Int->(List Zaa)->Option (List Zaa))(aH:∀(gV gW dC:Int)(am r:List Zaa),ae gV gW dC am=some r->Good Tryz.prog 63 S0 w0 (bodyPost Tryz.prog Tryz.f365 (Zbk S0 w0 [(100000,.rows 44 10 r.length (Zam Zaa.c Zaa.d r))] (.tup []))) (at_ [1,1,0,0] (ZaW Tryz.f365)) ⟨[(0,.one (.osl 100000 am.length)),(1,(Yj i)),(2,.one (.lit (.func (.func 325) #[] #[]))),(6,(Yj gV)),(7,(Yj gW)),(8,(Yj dC))],[(100000,.rows 44 10 am.length (Zam Zaa.c Zaa.d am))]⟩)(aJ:∀(gV:Int)(am r:List Zaa),ak gV am=some r->Good Tryz.prog 63 S0 w0 (bodyPost Tryz.prog Tryz.f365 (Zbk S0 w0 [(100000,.rows 44 10 r.length (Zam Zaa.c Zaa.d r))] (.tup []))) (at_ [1,1,1,1,0] (ZaW Tryz.f365)) ⟨[(0,.one (.osl 100000 am.length)),(1,(Yj i)),(2,.one (.lit (.func (.func 325) #[] #[]))),(6,(Yj gV))],[(100000,.rows 44 10 am.length (Zam Zaa.c Zaa.d am))]⟩):∀(j:Nat)(k e:Int)(a r:List Zaa),ZaU i h ae ak j k e a=some r->Good Tryz.prog 63 S0 w0 (bodyPost Tryz.prog Tryz.f365 (Zbk S0 w0 [(100000,.rows 44 10 r.length (Zam Zaa.c Zaa.d r))] (.tup []))) (at_ [1,1,1,1,0,0,1,0,1,0,0] (ZaW Tryz.f365)) ⟨[(0,.one (.osl 100000 a.length)),(1,(Yj i)),(2,.one (.lit (.func (.func 325) #[] #[]))),(6,(Yj h)),(7,(Yj k)),(8,(Yj e))],[(100000,.rows 44 10 a.length (Zam Zaa.c Zaa.d a))]⟩:=by
 intro j;induction j with
 |zero=>
  intro k e a r b;simp[ZaU]at b
 |succ j o=>
  intro k e a r b;unfold ZaU at b;rcases Zai b with⟨l,b⟩|⟨l,b⟩
  ·obtain⟨f,p,b⟩:=Zaf b;exact Ye 14 [rz,rH [] [(7,⟨[(100000,100000)],[],[(100000,.rows 44 10 f.length (Zam Zaa.c Zaa.d f))],.tup []⟩)],rz,rz] [true] ⟨[],[],[],[(100000,f.length)],[],[0,1,2,6,7,8],[100000],[]⟩ (.c l (.c (ZeN 1000 _ _ _ _ _ p) (.c (show f.length=f.length from rfl) .n))) (o e (Zar e (Zrk (2:Int) h)) f r b)
  ·rcases Zai b with⟨m,b⟩|⟨m,b⟩
   ·obtain⟨g,q,b⟩:=Zaf b;exact Ye 16 [rz,rz,rz,rH [] [(5,⟨[(100000,100000)],[],[(100000,.rows 44 10 g.length (Zam Zaa.c Zaa.d g))],.tup []⟩)],rz] [false,true] ⟨[],[],[],[(100000,g.length)],[],[0,1,2,6],[100000],[]⟩ (.c l (.c m (.c (ZeN 1000 _ _ _ _ _ q) (.c (show g.length=g.length from rfl) .n)))) (aJ (Zrk h (2:Int)) g r b)
   ·exact Ye 16 [rz,rz,rz,rz] [false,false] ⟨[],[],[],[],[],[0,1,2,6],[100000],[]⟩ (.c l (.c m .n)) (aJ (Zrk h (2:Int)) a r b)
def ZaQ(b d e:Int)(ae:Int->Int->Int->(List Zaa)->Option (List Zaa)):Nat->Int->(List Zaa)->Option (List Zaa)|0,_,_=>none|fu+1,c,a=>bif(decide (c<b))then ZaU b c ae (ZaQ b d e ae fu) ((b-(Zrk (2:Int) c)).toNat+2) (0:Int) (Zrk (2:Int) c) a else some a
theorem Zim(S0:Nat->Prop)(w0:Zba)(f i j:Int)(ae:Int->Int->Int->(List Zaa)->Option (List Zaa))(aH:∀(gV gW dC:Int)(am r:List Zaa),ae gV gW dC am=some r->Good Tryz.prog 63 S0 w0 (bodyPost Tryz.prog Tryz.f365 (Zbk S0 w0 [(100000,.rows 44 10 r.length (Zam Zaa.c Zaa.d r))] (.tup []))) (at_ [1,1,0,0] (ZaW Tryz.f365)) ⟨[(0,.one (.osl 100000 am.length)),(1,(Yj f)),(2,.one (.lit (.func (.func 325) #[] #[]))),(6,(Yj gV)),(7,(Yj gW)),(8,(Yj dC))],[(100000,.rows 44 10 am.length (Zam Zaa.c Zaa.d am))]⟩):∀(g:Nat)(e:Int)(a r:List Zaa),ZaQ f i j ae g e a=some r->Good Tryz.prog 63 S0 w0 (bodyPost Tryz.prog Tryz.f365 (Zbk S0 w0 [(100000,.rows 44 10 r.length (Zam Zaa.c Zaa.d r))] (.tup []))) (at_ [1,1,1,1,0] (ZaW Tryz.f365)) ⟨[(0,.one (.osl 100000 a.length)),(1,(Yj f)),(2,.one (.lit (.func (.func 325) #[] #[]))),(6,(Yj e))],[(100000,.rows 44 10 a.length (Zam Zaa.c Zaa.d a))]⟩:=by
 intro g;induction g with
 |zero=>
  intro e a r b;simp[ZaQ]at b
 |succ g k=>
  intro e a r b;unfold ZaQ at b;rcases Zai b with⟨h,b⟩|⟨h,b⟩
  ·exact Ye 11 [rz,rz] [true] ⟨[],[],[],[],[],[0,1,2,6,7,8],[100000],[]⟩ (.c h .n) (Zil S0 w0 f e ae (ZaQ f i j ae g) aH k ((f-(Zrk (2:Int) e)).toNat+2) (0:Int) (Zrk (2:Int) e) a r b)
  ·apply Yc b 6 [rz] [false] ⟨[],[],[],[],[],[],[100000],[]⟩ (.c h .n)
def ZaN(b:Int):Nat->Int->Int->Int->(List Zaa)->Option (List Zaa)|0,_,_,_,_=>none|fu+1,d,e,c,a=>bif(decide (c<=b))then(Zbv a e c).bind fun f=>ZaN b fu d c (Zar c d) f else(Zbv a e b).bind fun g=>ZaQ b e c (ZaN b fu) ((b-d).toNat+2) d g
theorem Zin(S0:Nat->Prop)(w0:Zba)(i:Int):∀(j:Nat)(e k f:Int)(a r:List Zaa),ZaN i j e k f a=some r->Good Tryz.prog 63 S0 w0 (bodyPost Tryz.prog Tryz.f365 (Zbk S0 w0 [(100000,.rows 44 10 r.length (Zam Zaa.c Zaa.d r))] (.tup []))) (at_ [1,1,0,0] (ZaW Tryz.f365)) ⟨[(0,.one (.osl 100000 a.length)),(1,(Yj i)),(2,.one (.lit (.func (.func 325) #[] #[]))),(6,(Yj e)),(7,(Yj k)),(8,(Yj f))],[(100000,.rows 44 10 a.length (Zam Zaa.c Zaa.d a))]⟩:=by
 intro j;induction j with
 |zero=>
  intro e k f a r b;simp[ZaN]at b
 |succ j m=>
  intro e k f a r b;unfold ZaN at b;rcases Zai b with⟨l,b⟩|⟨l,b⟩
  ·obtain⟨g,o,b⟩:=Zaf b;exact Ye 14 [rz,rH [] [(4,⟨[(100000,100000)],[],[(100000,.rows 44 10 g.length (Zam Zaa.c Zaa.d g))],.tup []⟩)],rz,rz] [true] ⟨[],[],[],[(100000,g.length)],[],[0,1,2,6,7,8],[100000],[]⟩ (.c l (.c (Zej _ _ _ _ o) (.c (show g.length=g.length from rfl) .n))) (m e f (Zar f e) g r b)
  ·obtain⟨h,p,b⟩:=Zaf b;exact Ye 9 [rz,rH [] [(4,⟨[(100000,100000)],[],[(100000,.rows 44 10 h.length (Zam Zaa.c Zaa.d h))],.tup []⟩)]] [false] ⟨[],[],[],[(100000,h.length)],[],[0,1,2,6],[100000],[]⟩ (.c l (.c (Zej _ _ _ _ p) (.c (show h.length=h.length from rfl) .n))) (Zim S0 w0 i k f (ZaN i j) m ((i-e).toNat+2) e h r b)
def Zda(b:List Zaa)(a:Int):Option (List Zaa):=ZaN a ((a-(20:Int)).toNat+2) (20:Int) (0:Int) (20:Int) b
theorem Ziv(a:List Zaa)(b:Int)(r:List Zaa)(e:Zda a b=some r):Zcu Tryz.prog 365 [(100000,.rows 44 10 a.length (Zam Zaa.c Zaa.d a))] [.one (.osl 100000 a.length),(Yj b),.one (.lit (.func (.func 325) #[] #[]))] [(100000,.rows 44 10 r.length (Zam Zaa.c Zaa.d r))] (.tup []):=by
 refine Zcu.of Tryz.func365 rfl rfl rfl rfl fun S0 w0=>?_;unfold Zda at e;exact Ye 6 [rz,rz] [] ⟨[],[],[],[],[],[0,1,2,6,7,8],[100000],[]⟩ .n (Zin S0 w0 b ((b-(20:Int)).toNat+2) (20:Int) (0:Int) (20:Int) a r e)
def ZbF(a:List Zaa):Option (List Zaa):=(Zda a ((a.length:Nat):Int)).bind fun b=>some b
theorem Zgt(a r:List Zaa)(b:ZbF a=some r):Zcu Tryz.prog 324 [(100000,.rows 44 10 a.length (Zam Zaa.c Zaa.d a))] [.one (.osl 100000 a.length),.one (.lit (.func (.func 325) #[] #[]))] [(100000,.rows 44 10 r.length (Zam Zaa.c Zaa.d r))] (.tup []):=by
 refine Zcu.of Tryz.func324 rfl rfl rfl rfl fun S0 w0=>?_;unfold ZbF at b;obtain⟨e,f,b⟩:=Zaf b;apply Yc b 1 [rH [] [(4,⟨[(100000,100000)],[],[(100000,.rows 44 10 e.length (Zam Zaa.c Zaa.d e))],.tup []⟩)]] [] ⟨[],[],[],[],[],[],[100000],[]⟩ (.c (Ziv _ _ _ f) .n)
def Zjc(a:List Zaa):Option (List Zaa):=(ZbR a).bind fun b=>(ZbF b).bind fun c=>some c
theorem Zrw(f r:List Zaa)(a:Zjc f=some r):Zcu Tryz.prog 255 [] [(Yn f)] [(99999,.rows 44 10 r.length (Zam Zaa.c Zaa.d r))] (.one (.osl 99999 r.length)):=by
 refine Zcu.of Tryz.func255 rfl rfl rfl rfl fun S0 w0=>?_;unfold Zjc at a;obtain⟨e,g,a⟩:=Zaf a;obtain⟨b,h,a⟩:=Zaf a;apply Yc a 8 [rz,rH [] [(1,⟨[],[(99999,5)],[(99999,.rows 44 10 e.length (Zam Zaa.c Zaa.d e))],.one (.osl 99999 e.length)⟩)],rH [] [(1,⟨[(100000,5)],[],[(100000,.rows 44 10 b.length (Zam Zaa.c Zaa.d b))],.tup []⟩)],rz] [] ⟨[],[],[],[(99999,b.length)],[],[2],[5],[(5,99999)]⟩ (.c (ZfW _ _ g) (.c (Zgt _ _ h) (.c (show b.length=b.length from rfl) .n)))
def ZdA:Nat->(List (List Zaa))->Int->Int->Zan->Zbg->Zap->Int->Zah->Int->Int->(List Zaa)->Option (Tout Zap)|0,_,_,_,_,_,_,_,_,_,_,_=>none|fu+1,d,i,c,b,t,u,e,f,g,h,a=>bif(decide (c<i))then need (0<=c/\c<((d.length:Nat):Int))<|need ((a++(d.getD c.toNat ([]:(List Zaa)))).length * 80<=140737488355328/\(a++(d.getD c.toNat ([]:(List Zaa)))).length<=maxLen)<|ZdA fu d i (Zar c 1) b t u e f g h (a++(d.getD c.toNat ([]:(List Zaa))))else(Zig b t.fc.fShards true).bind fun v=>(match v with | .ret w j=>(Zcy j (1:Int) false).bind fun x=>(match x with | .ret y k=>(ZhX k (0:Int) false).bind fun z=>(match z with | .ret A l=>(Zjc a).bind fun m=>some (Tout.ret (Zap.mk e f g h m) l) | .pan n=>some (Tout.pan n) | .bad o=>some (Tout.bad o)) | .pan p=>some (Tout.pan p) | .bad q=>some (Tout.bad q)) | .pan r=>some (Tout.pan r) | .bad s=>some (Tout.bad s))
theorem ZoQ(S0:Nat->Prop)(w0:Zba):∀(z:Nat)(k:(List (List Zaa)))(s l:Int)(b:Zan)(f:Zbg)(q:Zap)(m:Int)(h:Zah)(o p:Int)(a:List Zaa)(r:(Tout Zap)),ZdA z k s l b f q m h o p a=some r->Good Tryz.prog 54 S0 w0 (bodyPost Tryz.prog Tryz.f192 (Zjn S0 w0 (oc (fun x=>.agg (Zap.c x)) r))) (at_ [1,1,1,1,1,0,1,0] (ZaW Tryz.f192)) ⟨[(1,.one (.ifc 112 (.ptr 100000 0))),(2,.one (.ptr 2 0)),(4,.one (.ptr 4 0)),(5,.one (.ptr 5 0)),(28,.one (cL 1 (cLs 10 Zaa.c Zaa.d) ([]:(List Zaa)) k)),(29,(Yj s)),(30,(Yj l))],[(100000,.box [cLn 13 Zae.c Zae.d b.fgot]),(2,.box [.lit (.int .i64 f.fc.fMaxIn),.lit (.int .i64 f.fc.fMaxOut),.lit (.int .i64 f.fc.fShards),.lit (.int .i64 f.fc.fMaxBans),.lit (.int .i64 f.fc.fMaxBook),.lit (.int .u64 f.fc.fSecret),.lit (.int .i64 f.fc.fQuota.fGroup),.lit (.int .i64 f.fc.fQuota.fPing),.lit (.int .i64 f.fc.fQuota.fWork),.lit (.int .i64 f.fc.fQuota.fTime),.lit (.int .i64 f.fc.fHalf),.lit (.int .i64 f.fc.fLimit),.lit (.int .i64 f.fc.fBanFor),.lit (.int .i64 f.fc.fBase),.lit (.int .i64 f.fc.fCap),.lit (.int .i64 f.fc.fJitter),.lit (.int .i64 f.fx.fKind),.lit (.bool f.fx.fEnd.fAddr.fV6),.lit (.int .u64 f.fx.fEnd.fAddr.fHi),.lit (.int .u64 f.fx.fEnd.fAddr.fLo),.lit (.int .i64 f.fx.fEnd.fPort),.lit (.bool f.fx.fNet.fAddr.fV6),.lit (.int .u64 f.fx.fNet.fAddr.fHi),.lit (.int .u64 f.fx.fNet.fAddr.fLo),.lit (.int .i64 f.fx.fNet.fBits),.lit (.int .i64 f.fx.fNow),.lit (.int .i64 f.fx.fNum),.lit (.bool f.fx.fGood)]),(4,.box [.lit (.int .i64 q.fCode),.lit (.bool q.fEnd.fAddr.fV6),.lit (.int .u64 q.fEnd.fAddr.fHi),.lit (.int .u64 q.fEnd.fAddr.fLo),.lit (.int .i64 q.fEnd.fPort),.lit (.int .i64 q.fN),.lit (.int .i64 q.fUntil),cL 10 Zaa.c Zaa.d q.fPeers]),(80507,.rows 44 10 a.length (Zam Zaa.c Zaa.d a)),(5,.box [.lit (.int .i64 m),.lit (.bool h.fAddr.fV6),.lit (.int .u64 h.fAddr.fHi),.lit (.int .u64 h.fAddr.fLo),.lit (.int .i64 h.fPort),.lit (.int .i64 o),.lit (.int .i64 p),.osl 80507 a.length])]⟩:=by
 intro z;induction z with
 |zero=>
  intro k s l b f q m h o p a r g;simp[ZdA]at g
 |succ z G=>
  intro k s l b f q m h o p a r g;unfold ZdA at g;rcases Zai g with⟨A,g⟩|⟨A,g⟩
  ·obtain⟨H,g⟩:=Zaq g;obtain⟨F,g⟩:=Zaq g;exact Ye 14 [rz,rz,rA [(3,.c ((a++(k.getD l.toNat ([]:(List Zaa)))).length) (Zam Zaa.c Zaa.d (a++(k.getD l.toNat ([]:(List Zaa))))))],rz] [true] ⟨[],[],[],[],[],[1,2,4,5,28,29,30],[100000,2,4,37,5],[(37,80507)]⟩ (.c A (.c H (.c (Zcm (sz:=10) (e:=Zaa.c) (d:=Zaa.d) a (k.getD l.toNat ([]:(List Zaa)))) (.c F.1 (.c F.2 .n))))) (G k s (Zar l 1) b f q m h o p (a++(k.getD l.toNat ([]:(List Zaa)))) r g)
  ·obtain⟨I,u,g⟩:=Zaf g;cases I with
   |ret J B=>
    dsimp only at g
    let R1:List RA:=[rz,rH [] [(4,⟨[(100000,100000)],[],[(100000,.box (Zan.c B))],.tup []⟩)]]
    have O2:Obl _:=(.c A (.c (ZgH _ _ _ _ u) .n));obtain⟨K,v,g⟩:=Zaf g;cases K with
    |ret L C=>
     dsimp only at g
     let R3:List RA:=(R1++[rH [(1,.id 462)] [(1,⟨[(100000,100000)],[],[(100000,.box (Zan.c C))],.tup []⟩)]])
     have O4:Obl _:=(O2.app (.c (Zbh _ _ _ _ v) (.c ZeM .n)));obtain⟨M,w,g⟩:=Zaf g;cases M with
     |ret N D=>
      dsimp only at g;obtain⟨t,E,g⟩:=Zaf g;obtain rfl:=oi g;exact Yd 16 (R3++[rH [(1,.id 461)] [(1,⟨[(100000,100000)],[],[(100000,.box (Zan.c D))],.tup []⟩)],rH [] [(2,⟨[],[(99999,51)],[(99999,.rows 44 10 t.length (Zam Zaa.c Zaa.d t))],.one (.osl 99999 t.length)⟩)],rz]) [false] ⟨[51],[],[],[],[],[4],[4,100000],[]⟩ (O4.app (.c (Zhi _ _ _ _ w) (.c Zrn (.c (Zrw _ _ E) (.c (show ∀i j,i<t.length->j<10->∃y,Zam Zaa.c Zaa.d t i j=.lit y from(Zwc (sz:=10) (e:=Zaa.c) (d:=Zaa.d) (fun _=>rfl) (fun _=>rfl) _ _)) .n)))))
     |_=>
      dsimp only at g;obtain rfl:=oi g;exact Yh 11 R3 [false] (rA [(1,.id 461)]) 1 ⟨[(100000,100000)],pvOf w⟩ (O4.app (.c (Zhi _ _ _ _ w) (.c Zrn .n)))
    |_=>
     dsimp only at g;obtain rfl:=oi g;exact Yh 9 R1 [false] (rA [(1,.id 462)]) 1 ⟨[(100000,100000)],pvOf v⟩ (O2.app (.c (Zbh _ _ _ _ v) (.c ZeM .n)))
   |_=>
    dsimp only at g;obtain rfl:=oi g;exact Yh 7 [rz] [false] (rz) 4 ⟨[(100000,100000)],pvOf u⟩ (.c A (.c (ZgH _ _ _ _ u) .n))
def Zia(b:Zbg)(w:Zan):Option (Tout Zap):=(Zhr w (0:Int) false).bind fun x=>(match x with | .ret y c=>(Zeg c (1:Int) false).bind fun z=>(match z with | .ret A d=>(Zif d b.fc.fShards).bind fun B=>(match B with | .ret C e=>(ZhK e).bind fun D=>(match D with | .ret f g=>(Zeh g (Zay.mk 4 0 0) false).bind fun E=>(match E with | .ret h i=>(Zga b i).bind fun F=>(match F with | .ret a j=>ZdA ((((a.length:Nat):Int)-(0:Int)).toNat+2) a ((a.length:Nat):Int) (0:Int) j b (Zap.mk 0 (Zah.mk (Zag.mk false 0 0) 0) 0 0 ([]:(List Zaa))) (0:Int) (Zah.mk (Zag.mk false 0 0) 0) ((f.length:Nat):Int) ((h.fBook.length:Nat):Int) ([]) | .pan k=>some (Tout.pan k) | .bad l=>some (Tout.bad l)) | .pan m=>some (Tout.pan m) | .bad n=>some (Tout.bad n)) | .pan o=>some (Tout.pan o) | .bad p=>some (Tout.bad p)) | .pan q=>some (Tout.pan q) | .bad r=>some (Tout.bad r)) | .pan s=>some (Tout.pan s) | .bad t=>some (Tout.bad t)) | .pan u=>some (Tout.pan u) | .bad v=>some (Tout.bad v))
theorem Zlp(j:Zbg)(v:Zan)(r:(Tout Zap))(a:Zia j v=some r):Zfs Tryz.prog 192 [(100000,.box (Zan.c v))] [.agg (Zbg.c j),.one (.ifc 112 (.ptr 100000 0))] (oc (fun x=>.agg (Zap.c x)) r):=by
 refine Zfs.of Tryz.func192 rfl rfl rfl rfl fun S0 w0=>?_;unfold Zia at a;obtain⟨w,k,a⟩:=Zaf a;cases w with
 |ret y l=>
  dsimp only at a
  let R5:List RA:=[rz,rH [(1,.id 466)] [(1,⟨[(100000,100000)],[],[(100000,.box (Zan.c l))],.tup []⟩)]]
  have O6:Obl _:=(.c (ZgG _ _ _ _ k) (.c ZpV .n));obtain⟨z,m,a⟩:=Zaf a;cases z with
  |ret A o=>
   dsimp only at a
   let R7:List RA:=(R5++[rH [(1,.id 464)] [(1,⟨[(100000,100000)],[],[(100000,.box (Zan.c o))],.tup []⟩)]])
   have O8:Obl _:=(O6.app (.c (ZbT _ _ _ _ m) (.c ZhU .n)));obtain⟨B,i,a⟩:=Zaf a;cases B with
   |ret C p=>
    dsimp only at a
    let R9:List RA:=(R7++[rH [] [(4,⟨[(100000,100000)],[],[(100000,.box (Zan.c p))],.tup []⟩)]])
    obtain⟨D,q,a⟩:=Zaf a;cases D with
    |ret e f=>
     dsimp only at a;have gU:Obl _:=(O8.app (.c (Zfu _ _ _ i) (.c (Zeb _ _ q) .n)));obtain⟨E,s,a⟩:=Zaf a;cases E with
     |ret g t=>
      dsimp only at a
      let i4:List RA:=(R9++[rH [(5,.id 463)] [(1,⟨[(100000,100000)],[],[(100000,.box (Zan.c f))],(Yl e)⟩),(5,⟨[(100000,100000)],[],[(100000,.box (Zan.c t))],.agg (Zae.c g)⟩)]])
      have gq:Obl _:=(gU.app (.c (ZbU _ _ _ _ s) (.c ZhV .n)));obtain⟨F,u,a⟩:=Zaf a;cases F with
      |ret b h=>
       dsimp only at a;exact Ye 14 (i4++[rH [] [(2,⟨[(100000,100000)],[],[(100000,.box (Zan.c h))],.one (cL 1 (cLs 10 Zaa.c Zaa.d) ([]:(List Zaa)) b)⟩)]]) [] ⟨[],[(4,[(7,cL 10 Zaa.c Zaa.d [])])],[],[],[(205007,80507,44,10,Zam Zaa.c Zaa.d [])],[1,2,4,5,28,29,30],[100000,2,4,80507,5],[]⟩ (gq.app (.c (ZgL _ _ _ u) .n)) (ZoQ S0 w0 ((((b.length:Nat):Int)-(0:Int)).toNat+2) b ((b.length:Nat):Int) (0:Int) h j (Zap.mk 0 (Zah.mk (Zag.mk false 0 0) 0) 0 0 ([]:(List Zaa))) (0:Int) (Zah.mk (Zag.mk false 0 0) 0) ((e.length:Nat):Int) ((g.fBook.length:Nat):Int) ([]) r a)
      |_=>
       dsimp only at a;obtain rfl:=oi a;exact Yh 12 i4 [] (rz) 2 ⟨[(100000,100000)],pvOf u⟩ (gq.app (.c (ZgL _ _ _ u) .n))
     |_=>
      dsimp only at a;obtain rfl:=oi a;exact Yh 9 R9 [] (rH [(5,.id 463)] [(1,⟨[(100000,100000)],[],[(100000,.box (Zan.c f))],(Yl e)⟩)]) 5 ⟨[(100000,100000)],pvOf s⟩ (gU.app (.c (ZbU _ _ _ _ s) (.c ZhV .n)))
    |_=>
     dsimp only at a;obtain rfl:=oi a;exact Yh 9 R9 [] (rz) 1 ⟨[(100000,100000)],pvOf q⟩ (O8.app (.c (Zfu _ _ _ i) (.c (Zeb _ _ q) .n)))
   |_=>
    dsimp only at a;obtain rfl:=oi a;exact Yh 7 R7 [] (rz) 4 ⟨[(100000,100000)],pvOf i⟩ (O8.app (.c (Zfu _ _ _ i) .n))
  |_=>
   dsimp only at a;obtain rfl:=oi a;exact Yh 5 R5 [] (rA [(1,.id 464)]) 1 ⟨[(100000,100000)],pvOf m⟩ (O6.app (.c (ZbT _ _ _ _ m) (.c ZhU .n)))
 |_=>
  dsimp only at a;obtain rfl:=oi a;exact Yh 3 [rz] [] (rA [(1,.id 466)]) 1 ⟨[(100000,100000)],pvOf k⟩ (.c (ZgG _ _ _ _ k) (.c ZpV .n))
def ZmT(a:Zaz):Option Zbl:=(Zlb a).bind fun b=>bif(!b)then some Zbl.c187 else bif(a.fKind==(6:Int))then some Zbl.c188 else bif(a.fKind==(7:Int))then some Zbl.c189 else bif(a.fKind==(8:Int))then some Zbl.c190 else bif(a.fKind==(9:Int))then some Zbl.c191 else bif(a.fKind==(10:Int))then some Zbl.c192 else some Zbl.c187
theorem Zhs(k:Zaz)(r:Zbl)(a:ZmT k=some r):ZaC Tryz.prog 104 [.agg (Zaz.c k)] (.one (Zbl.c r)):=by
 refine ZaC.of Tryz.func104 rfl rfl rfl rfl fun S0 w0=>?_;unfold ZmT at a;obtain⟨b,h,a⟩:=Zaf a;rcases Zai a with⟨f,a⟩|⟨f,a⟩
 ·apply Ya a 8 [rz,rA [(1,aB b)],rz] [true] (.c (Zme _ _ h) (.c f .n))
 ·rcases Zai a with⟨i,a⟩|⟨i,a⟩
  ·apply Ya a 16 [rz,rA [(1,aB b)],rz,rz,rz] [false,true] (.c (Zme _ _ h) (.c f (.c i .n)))
  ·have O1:Obl _:=(.c (Zme _ _ h) (.c f (.c i .n)));rcases Zai a with⟨d,a⟩|⟨d,a⟩
   ·apply Ya a 19 [rz,rA [(1,aB b)],rz,rz,rz,rz] [false,false,true] (O1.app (.c d .n))
   ·rcases Zai a with⟨e,a⟩|⟨e,a⟩
    ·apply Ya a 22 [rz,rA [(1,aB b)],rz,rz,rz,rz,rz] [false,false,false,true] (O1.app (.c d (.c e .n)))
    ·rcases Zai a with⟨g,a⟩|⟨g,a⟩
     ·apply Ya a 25 [rz,rA [(1,aB b)],rz,rz,rz,rz,rz,rz] [false,false,false,false,true] (O1.app (.c d (.c e (.c g .n))))
     ·let R2:List RA:=[rz,rA [(1,aB b)],rz,rz,rz,rz,rz,rz,rz]
      rcases Zai a with⟨j,a⟩|⟨j,a⟩
      ·apply Ya a 28 R2 [false,false,false,false,false,true] (O1.app (.c d (.c e (.c g (.c j .n)))))
      ·apply Ya a 30 R2 [false,false,false,false,false,false] (O1.app (.c d (.c e (.c g (.c j .n)))))
def Zkz(b:ZaA)(a:Zaz):Option Zmq:=(ZmT a).bind fun c=>(match c with | .c187=>some (Zmq.c105 Zbl.c187 b a) | .c188=>some (Zmq.c105 Zbl.c188 b a) | .c189=>some (Zmq.c105 Zbl.c189 b a) | .c190=>some (Zmq.c105 Zbl.c190 b a) | .c191=>some (Zmq.c105 Zbl.c191 b a) | .c192=>some (Zmq.c105 Zbl.c192 b a))
theorem ZqB(d:ZaA)(e:Zaz)(r:Zmq)(a:Zkz d e=some r):ZaC Tryz.prog 39 [.agg (ZaA.c d),.agg (Zaz.c e)] (.one (Zmq.c r)):=by
 refine ZaC.of Tryz.func39 rfl rfl rfl rfl fun S0 w0=>?_;unfold Zkz at a;obtain⟨f,b,a⟩:=Zaf a;cases f with
 |c187=>
  dsimp only at a;apply Ya a 6 [rz,rA [(1,.r (.one (Zbl.c Zbl.c187)) [])],⟨[],[],[(0,[5,2,3])],[],[],[],[]⟩] [] (.c (Zhs _ _ b) .n)
 |c188=>
  dsimp only at a;apply Ya a 6 [rz,rA [(1,.r (.one (Zbl.c Zbl.c188)) [])],⟨[],[],[(0,[5,2,3])],[],[],[],[]⟩] [] (.c (Zhs _ _ b) .n)
 |c189=>
  dsimp only at a;apply Ya a 6 [rz,rA [(1,.r (.one (Zbl.c Zbl.c189)) [])],⟨[],[],[(0,[5,2,3])],[],[],[],[]⟩] [] (.c (Zhs _ _ b) .n)
 |c190=>
  dsimp only at a;apply Ya a 6 [rz,rA [(1,.r (.one (Zbl.c Zbl.c190)) [])],⟨[],[],[(0,[5,2,3])],[],[],[],[]⟩] [] (.c (Zhs _ _ b) .n)
 |c191=>
  dsimp only at a;apply Ya a 6 [rz,rA [(1,.r (.one (Zbl.c Zbl.c191)) [])],⟨[],[],[(0,[5,2,3])],[],[],[],[]⟩] [] (.c (Zhs _ _ b) .n)
 |c192=>
  dsimp only at a;apply Ya a 6 [rz,rA [(1,.r (.one (Zbl.c Zbl.c192)) [])],⟨[],[],[(0,[5,2,3])],[],[],[],[]⟩] [] (.c (Zhs _ _ b) .n)
def Zsa:Tout Zap->Zco | .ret x _=>⟨ZaK.d,x,true,false⟩ | .pan op=>⟨op,Zap.d,false,false⟩ | .bad _=>⟨ZaK.d,Zap.d,false,true⟩
def ZGS:List C:=[.lit (.int .i64 (0)),.lit (.int .i64 (0)),.lit (.int .i64 (0)),.lit (.int .i64 (0)),.lit (.int .i64 (0)),.lit (.int .i64 (0)),.lit (.int .i64 (0)),.lit (.int .i64 (0)),.lit (.bool false),.lit (.int .u64 (0)),.lit (.int .u64 (0)),.lit (.int .i64 (0)),.lit (.bool false),.lit (.int .i64 (0)),.lit (.int .i64 (0)),.lit (.int .i64 (0)),.lit (.int .i64 (0)),.lit (.int .i64 (0)),.lit (.slice none 0 0),.lit (.slice none 0 0),.lit (.bool false),.lit (.int .i64 (0)),.lit (.bool false),.lit (.int .u64 (0)),.lit (.int .u64 (0)),.lit (.int .i64 (0)),.lit (.int .i64 (0)),.lit (.int .i64 (0)),.lit (.slice none 0 0),.lit (.bool false),.lit (.bool false)]
def ZIi:List (Nat×C):=[(18,cL 5 Zab.c Zab.d []),(19,cL 7 Zac.c Zac.d [])]
def ZIh:List (Nat×C):=[(28,cL 10 Zaa.c Zaa.d [])]
theorem ZHo:∀w,(do eqGuard .eql 20 (.tmp 4) (.const .nilIface) .nilIface .nilIface;binOp .eql 20 .nilIface .nilIface:Sem Value).run Tryz.prog w=.ok (.bool true) w:=by
 intro w;have hg:(eqGuard .eql 20 (.tmp 4) (.const .nilIface) .nilIface .nilIface).run Tryz.prog w=.ok () w:=by simp[eqGuard]
 rw[Sem.run_bind,hg,Result.andThen_ok];have h:∀d:Nat,(Op.equalIn (d+1) 20 .nilIface .nilIface).run Tryz.prog w=.ok true w:=fun d=>by simp[Op.equalIn,run_underlying Tryz.underlying20]
 simp only[binOp];simp[Op.equal,Op.maxDepth,h 9999]
theorem ZDg(x:Zap)(g:Zan):ZAf Tryz.prog 65 (ZGS.take 21++Zap.c x++[.lit (.bool true),.lit (.bool false)]) none (Zco.c (Zsa (.ret x g))):=by
 intro no S m w hS aY hrep;refine ZuA (i:=0) (d:=4) (xv:=.one (.lit .nilIface)) (x:=.nilIface) (u':=.returning) Tryz.func65 rfl (fun ρ w=>by simp[go_sem]) rfl rfl rfl (by kernel_rfl) (by kernel_rfl) hS aY hrep (fun c₀ cs hu=>by cases c₀;cases hu;simp[recoverD]) RepC.lit rfl ?_;exact Zbs Zak 6 [rA [(0,.r ((Yk true)) [])],rz] [true] ⟨[],[(100000,ZIi)],[],[],[],[],[100000],[]⟩ (.c ZHo (.c (show true=true from rfl) .n)) (by kernel_rfl)
theorem ZFs(op:ZaK):ZAf Tryz.prog 65 ZGS (some (.one (.ifa 111 21 (fun i=>(ZaK.c op).getD i .junk)))) (Zco.c (Zsa (.pan op))):=by
 intro no S m w hS aY hrep x hx;refine ZuA (i:=0) (d:=4) (xv:=_) (x:=x) (u':=.panicking [{ v:=x,recovered:=true }]) Tryz.func65 rfl (fun ρ w=>by simp[go_sem]) rfl rfl rfl (by kernel_rfl) (by kernel_rfl) hS aY hrep (fun c₀ cs hu=>by cases c₀;cases hu;simp[recoverD]) hx (by kernel_rfl) ?_;exact Zbs Zak 11 [rz,rz,rz,rz] [false,true] ⟨[],[(100000,ZIh)],[],[],[],[],[100000],[]⟩ (.c (show false=false from rfl) (.c (show true=true from rfl) .n)) (by kernel_rfl)
theorem ZFt(s:ByteArray):ZAf Tryz.prog 65 ZGS (some (.one (.ifc 9 (.lit (.string s))))) (Zco.c (Zsa (.bad s))):=by
 intro no S m w hS aY hrep x hx;refine ZuA (i:=0) (d:=4) (xv:=_) (x:=x) (u':=.panicking [{ v:=x,recovered:=true }]) Tryz.func65 rfl (fun ρ w=>by simp[go_sem]) rfl rfl rfl (by kernel_rfl) (by kernel_rfl) hS aY hrep (fun c₀ cs hu=>by cases c₀;cases hu;simp[recoverD]) hx (by kernel_rfl) ?_;exact Zbs Zak 11 [rz,rz,rz,rz] [false,false] ⟨[],[(100000,ZIi++ZIh)],[],[],[],[],[100000],[]⟩ (.c (show false=false from rfl) (.c (show false=false from rfl) .n)) (by kernel_rfl)
def Zfe(a:Zan)(c0:Zbl)(c1:ZaA)(c2:Zaz):Option (Tout Zap):=(match c0 with | .c187=>(Zht (Zbg.mk c1 c2) a).bind fun z=>(match z with | .ret b c=>some (Tout.ret b c) | .pan d=>some (Tout.pan d) | .bad e=>some (Tout.bad e)) | .c188=>(Zix (Zbg.mk c1 c2) a).bind fun A=>(match A with | .ret f g=>some (Tout.ret f g) | .pan h=>some (Tout.pan h) | .bad i=>some (Tout.bad i)) | .c189=>(Zhu (Zbg.mk c1 c2) a).bind fun B=>(match B with | .ret j k=>some (Tout.ret j k) | .pan l=>some (Tout.pan l) | .bad m=>some (Tout.bad m)) | .c190=>(ZgM (Zbg.mk c1 c2) a).bind fun C=>(match C with | .ret n o=>some (Tout.ret n o) | .pan p=>some (Tout.pan p) | .bad q=>some (Tout.bad q)) | .c191=>(ZhZ (Zbg.mk c1 c2) a).bind fun D=>(match D with | .ret r s=>some (Tout.ret r s) | .pan t=>some (Tout.pan t) | .bad u=>some (Tout.bad u)) | .c192=>(Zia (Zbg.mk c1 c2) a).bind fun E=>(match E with | .ret v w=>some (Tout.ret v w) | .pan x=>some (Tout.pan x) | .bad y=>some (Tout.bad y)))
theorem Zky(y:Zan)(c0:Zbl)(c1:ZaA)(c2:Zaz)(r:(Tout Zap))(a:Zfe y c0 c1 c2=some r):Zfs Tryz.prog 105 [(100000,.box (Zan.c y))] [.one (.ifc 112 (.ptr 100000 0)),.one (.rp false 1 (fun j=>([Zbl.c c0]:List C).getD (0+j) .junk)),.one (.rp false 16 (fun j=>(ZaA.c c1:List C).getD (0+j) .junk)),.one (.rp false 12 (fun j=>(Zaz.c c2:List C).getD (0+j) .junk))] (oc (fun x=>.agg (Zap.c x)) r):=by
 refine Zfs.of Tryz.func105 rfl rfl rfl rfl fun S0 w0=>?_;unfold Zfe at a;cases c0 with
 |c187=>
  dsimp only at a;obtain⟨z,b,a⟩:=Zaf a;cases z with
  |ret d e=>
   dsimp only at a;obtain rfl:=oi a;exact Yd 4 [rz,rH [] [(5,⟨[(100000,100000)],[],[(100000,.box (Zan.c e))],.agg (Zap.c d)⟩)]] [] ⟨[],[],[],[],[],[5],[5,100000],[]⟩ (.c (ZkR _ _ _ b) .n)
  |_=>
   dsimp only at a;obtain rfl:=oi a;exact Yh 3 [rz] [] (rz) 5 ⟨[(100000,100000)],pvOf b⟩ (.c (ZkR _ _ _ b) .n)
 |c188=>
  dsimp only at a;obtain⟨A,f,a⟩:=Zaf a;cases A with
  |ret g h=>
   dsimp only at a;obtain rfl:=oi a;exact Yd 4 [rz,rH [] [(5,⟨[(100000,100000)],[],[(100000,.box (Zan.c h))],.agg (Zap.c g)⟩)]] [] ⟨[],[],[],[],[],[5],[5,100000],[]⟩ (.c (ZlW _ _ _ f) .n)
  |_=>
   dsimp only at a;obtain rfl:=oi a;exact Yh 3 [rz] [] (rz) 5 ⟨[(100000,100000)],pvOf f⟩ (.c (ZlW _ _ _ f) .n)
 |c189=>
  dsimp only at a;obtain⟨B,i,a⟩:=Zaf a;cases B with
  |ret k l=>
   dsimp only at a;obtain rfl:=oi a;exact Yd 4 [rz,rH [] [(5,⟨[(100000,100000)],[],[(100000,.box (Zan.c l))],.agg (Zap.c k)⟩)]] [] ⟨[],[],[],[],[],[5],[5,100000],[]⟩ (.c (ZkS _ _ _ i) .n)
  |_=>
   dsimp only at a;obtain rfl:=oi a;exact Yh 3 [rz] [] (rz) 5 ⟨[(100000,100000)],pvOf i⟩ (.c (ZkS _ _ _ i) .n)
 |c190=>
  dsimp only at a;obtain⟨D,m,a⟩:=Zaf a;cases D with
  |ret o p=>
   dsimp only at a;obtain rfl:=oi a;exact Yd 4 [rz,rH [] [(5,⟨[(100000,100000)],[],[(100000,.box (Zan.c p))],.agg (Zap.c o)⟩)]] [] ⟨[],[],[],[],[],[5],[5,100000],[]⟩ (.c (Zko _ _ _ m) .n)
  |_=>
   dsimp only at a;obtain rfl:=oi a;exact Yh 3 [rz] [] (rz) 5 ⟨[(100000,100000)],pvOf m⟩ (.c (Zko _ _ _ m) .n)
 |c191=>
  dsimp only at a;obtain⟨E,q,a⟩:=Zaf a;cases E with
  |ret s t=>
   dsimp only at a;obtain rfl:=oi a;exact Yd 4 [rz,rH [] [(5,⟨[(100000,100000)],[],[(100000,.box (Zan.c t))],.agg (Zap.c s)⟩)]] [] ⟨[],[],[],[],[],[5],[5,100000],[]⟩ (.c (Zlo _ _ _ q) .n)
  |_=>
   dsimp only at a;obtain rfl:=oi a;exact Yh 3 [rz] [] (rz) 5 ⟨[(100000,100000)],pvOf q⟩ (.c (Zlo _ _ _ q) .n)
 |c192=>
  dsimp only at a;obtain⟨F,u,a⟩:=Zaf a;cases F with
  |ret v w=>
   dsimp only at a;obtain rfl:=oi a;exact Yd 4 [rz,rH [] [(5,⟨[(100000,100000)],[],[(100000,.box (Zan.c w))],.agg (Zap.c v)⟩)]] [] ⟨[],[],[],[],[],[5],[5,100000],[]⟩ (.c (Zlp _ _ _ u) .n)
  |_=>
   dsimp only at a;obtain rfl:=oi a;exact Yh 3 [rz] [] (rz) 5 ⟨[(100000,100000)],pvOf u⟩ (.c (Zlp _ _ _ u) .n)
def Zea(c0:Zbl)(c1:ZaA)(c2:Zaz)(a:List Zae):Option Zco:=(Zfe ⟨a⟩ c0 c1 c2).map Zsa
theorem ZmS(c0:Zbl)(c1:ZaA)(c2:Zaz)(a:List Zae)(r:Zco)(b:Zea c0 c1 c2 a=some r):Zmo Tryz.prog 21 [.one (.clo (.func 105) 0 3 (fun i=>([]:List C).getD i .junk) (fun i=>([.rp false 1 (fun j=>([Zbl.c c0]:List C).getD (0+j) .junk),.rp false 16 (fun j=>(ZaA.c c1:List C).getD (0+j) .junk),.rp false 12 (fun j=>(Zaz.c c2:List C).getD (0+j) .junk)]:List C).getD i .junk)),.one (cLn 13 Zae.c Zae.d a)] (.agg (Zco.c r)):=by
 obtain⟨o,ho,rfl⟩:=Option.map_eq_some_iff.1 b;have ck:∀p w,(invoke (.fn (.func 65) #[p]) #[]).run Tryz.prog w=.ok (.enter 65 #[p]) w:=fun p w=>by simp[go_sem]
 cases o with
 |ret x g=>
  exact Zmo.defR rz rz (rH [] [(5,⟨[(100000,9)],[],[(100000,.box (Zan.c g))],.agg (Zap.c x)⟩)]) 5 4 65 Zak Tryz.func21 rfl rfl rfl rfl rfl rfl (fun ρ w p h=>by simp[go_sem,h]) (by kernel_rfl) ck rfl rfl
   (.c (show Tryz.prog.concrete 112=true from by kernel_rfl) (.c (Zky ⟨a⟩ c0 c1 c2 (.ret x g) ho) .n)) (by kernel_rfl) (ZDg x g) (by kernel_rfl) (by kernel_rfl) (by kernel_rfl)
 |pan op=>
  exact Zmo.defP rz rz rz 5 4 65 5 ⟨[(100000,9)],.one (.ifa 111 21 (fun i=>(ZaK.c op).getD i .junk))⟩ Zak Tryz.func21 rfl rfl rfl rfl rfl rfl (fun ρ w p h=>by simp[go_sem,h]) (by kernel_rfl) ck rfl rfl
   (.c (show Tryz.prog.concrete 112=true from by kernel_rfl) (.c (Zky ⟨a⟩ c0 c1 c2 (.pan op) ho) .n)) (by kernel_rfl) (ZFs op) (by kernel_rfl) (by kernel_rfl) (by kernel_rfl)
 |bad s=>
  exact Zmo.defP rz rz rz 5 4 65 5 ⟨[(100000,9)],.one (.ifc 9 (.lit (.string s)))⟩ Zak Tryz.func21 rfl rfl rfl rfl rfl rfl (fun ρ w p h=>by simp[go_sem,h]) (by kernel_rfl) ck rfl rfl
   (.c (show Tryz.prog.concrete 112=true from by kernel_rfl) (.c (Zky ⟨a⟩ c0 c1 c2 (.bad s) ho) .n)) (by kernel_rfl) (ZFt s) (by kernel_rfl) (by kernel_rfl) (by kernel_rfl)
def ZhL(d:ZaA)(e:Zaz)(f:List Zae):Option Zco:=(Zkz d e).bind fun g=>(match g with | .c105 a b c=>(Zea a b c f).bind fun h=>some h)
theorem ZqA(g:ZaA)(h:Zaz)(i:List Zae)(r:Zco)(f:ZhL g h i=some r):ZaC Tryz.prog 37 [.agg (ZaA.c g),.agg (Zaz.c h),.one (cL 13 Zae.c Zae.d i)] (.agg (Zco.c r)):=by
 refine ZaC.of Tryz.func37 rfl rfl rfl rfl fun S0 w0=>?_;unfold ZhL at f;obtain⟨j,k,f⟩:=Zaf f;cases j with
 |c105 a b e=>
  dsimp only at f;obtain⟨l,m,f⟩:=Zaf f;apply Ya f 4 [rz,rH [(2,.r (.one (Zmq.c (Zmq.c105 a b e))) [])] [(4,⟨[(99997,99997)],[],[],.agg (Zco.c l)⟩)]] [] (.c (ZqB _ _ _ k) (.c (ZmS _ _ _ _ _ m) .n))
def Zdr:Option Bool:=(ZiX).bind fun a=>(ZhL a (Zaz.mk 8 (Zah.mk (Zag.mk false 0 1) 0) (Zao.mk (Zag.mk false 0 0) 0) 5 0 false) ([]:(List Zae))).bind fun c=>(ZhL a (Zaz.mk 8 (Zah.mk (Zag.mk false 0 1) 0) (Zao.mk (Zag.mk false 0 0) 0) 5 0 false) ([(Zae.mk 0 (Zaa.mk (Zah.mk (Zag.mk false 0 0) 0) false 0 (Zax.mk 0 0) 0 0) ([]:(List Zab)) ([]:(List Zac))),(Zae.mk 0 (Zaa.mk (Zah.mk (Zag.mk false 0 0) 0) false 0 (Zax.mk 0 0) 0 0) ([(Zab.mk (Zao.mk (Zag.mk false 0 0) 0) 9)]:List Zab) ([]:(List Zac))),(Zae.mk 0 (Zaa.mk (Zah.mk (Zag.mk false 0 0) 0) false 0 (Zax.mk 0 0) 0 0) ([]:(List Zab)) ([]:(List Zac)))]:List Zae)).bind fun b=>bif(c.fOp.fKind==(2:Int))then bif b.fDone then some (b.fReply.fUntil==(9:Int))else some false else some false
theorem ZfS(r:Bool)(a:Zdr=some r):ZaC Tryz.prog 35 [] ((Yk r)):=by
 refine ZaC.of Tryz.func35 rfl rfl rfl rfl fun S0 w0=>?_;unfold Zdr at a;obtain⟨f,h,a⟩:=Zaf a;obtain⟨k,l,a⟩:=Zaf a;obtain⟨m,o,a⟩:=Zaf a
 let R1:List RA:=[rz,rz,⟨[],[],[],[],[],[(1,(([(Zab.mk (Zao.mk (Zag.mk false 0 0) 0) 9)]:List Zab).length,Zam Zab.c Zab.d ([(Zab.mk (Zao.mk (Zag.mk false 0 0) 0) 9)]:List Zab)))],[]⟩,rA [(0,aG (ZaA.c f)),(2,aG (Zco.c k))],⟨[(0,aG (ZaA.c f)),(7,aG (Zco.c m))],[],[],[],[(2,[(11,cL 5 Zab.c Zab.d []),(12,cL 7 Zac.c Zac.d [])]),(4,[(12,cL 7 Zac.c Zac.d [])]),(5,[(11,cL 5 Zab.c Zab.d []),(12,cL 7 Zac.c Zac.d [])])],[(6,(([(Zae.mk 0 (Zaa.mk (Zah.mk (Zag.mk false 0 0) 0) false 0 (Zax.mk 0 0) 0 0) ([]:(List Zab)) ([]:(List Zac))),(Zae.mk 0 (Zaa.mk (Zah.mk (Zag.mk false 0 0) 0) false 0 (Zax.mk 0 0) 0 0) ([(Zab.mk (Zao.mk (Zag.mk false 0 0) 0) 9)]:List Zab) ([]:(List Zac))),(Zae.mk 0 (Zaa.mk (Zah.mk (Zag.mk false 0 0) 0) false 0 (Zax.mk 0 0) 0 0) ([]:(List Zab)) ([]:(List Zac)))]:List Zae).length,Zam Zae.c Zae.d ([(Zae.mk 0 (Zaa.mk (Zah.mk (Zag.mk false 0 0) 0) false 0 (Zax.mk 0 0) 0 0) ([]:(List Zab)) ([]:(List Zac))),(Zae.mk 0 (Zaa.mk (Zah.mk (Zag.mk false 0 0) 0) false 0 (Zax.mk 0 0) 0 0) ([(Zab.mk (Zao.mk (Zag.mk false 0 0) 0) 9)]:List Zab) ([]:(List Zac))),(Zae.mk 0 (Zaa.mk (Zah.mk (Zag.mk false 0 0) 0) false 0 (Zax.mk 0 0) 0 0) ([]:(List Zab)) ([]:(List Zac)))]:List Zae)))],[]⟩]
 have O2:Obl _:=(.c (show ([(Zab.mk (Zao.mk (Zag.mk false 0 0) 0) 9)]:List Zab).length=1/\∀i j,i<1->j<5->Zam Zab.c Zab.d ([(Zab.mk (Zao.mk (Zag.mk false 0 0) 0) 9)]:List Zab) i j=(([(Zab.mk (Zao.mk (Zag.mk false 0 0) 0) 9)]:List Zab).flatMap Zab.c).getD (i * 5+j) .junk from⟨rfl,fun i j hi hj=>ZaP (sz:=5) (e:=Zab.c) (d:=Zab.d) (fun _=>rfl) ([(Zab.mk (Zao.mk (Zag.mk false 0 0) 0) 9)]:List Zab) i j hi hj⟩) (.c (ZjY _ h) (.c (show ZaC Tryz.prog 37 [.agg (ZaA.c f),.agg (Zaz.c (Zaz.mk 8 (Zah.mk (Zag.mk false 0 1) 0) (Zao.mk (Zag.mk false 0 0) 0) 5 0 false)),.one (.lit (.slice none 0 0))] (.agg (Zco.c k))from((ZqA _ _ _ _ l).weak (.cons (.refl _) (.cons (.refl _) (.cons (.one (.nul _ _)) .nil))))) (.c (ZjY _ h) (.c (show ([(Zae.mk 0 (Zaa.mk (Zah.mk (Zag.mk false 0 0) 0) false 0 (Zax.mk 0 0) 0 0) ([]:(List Zab)) ([]:(List Zac))),(Zae.mk 0 (Zaa.mk (Zah.mk (Zag.mk false 0 0) 0) false 0 (Zax.mk 0 0) 0 0) ([(Zab.mk (Zao.mk (Zag.mk false 0 0) 0) 9)]:List Zab) ([]:(List Zac))),(Zae.mk 0 (Zaa.mk (Zah.mk (Zag.mk false 0 0) 0) false 0 (Zax.mk 0 0) 0 0) ([]:(List Zab)) ([]:(List Zac)))]:List Zae).length=3/\∀i j,i<3->j<13->Zam Zae.c Zae.d ([(Zae.mk 0 (Zaa.mk (Zah.mk (Zag.mk false 0 0) 0) false 0 (Zax.mk 0 0) 0 0) ([]:(List Zab)) ([]:(List Zac))),(Zae.mk 0 (Zaa.mk (Zah.mk (Zag.mk false 0 0) 0) false 0 (Zax.mk 0 0) 0 0) ([(Zab.mk (Zao.mk (Zag.mk false 0 0) 0) 9)]:List Zab) ([]:(List Zac))),(Zae.mk 0 (Zaa.mk (Zah.mk (Zag.mk false 0 0) 0) false 0 (Zax.mk 0 0) 0 0) ([]:(List Zab)) ([]:(List Zac)))]:List Zae) i j=(([(Zae.mk 0 (Zaa.mk (Zah.mk (Zag.mk false 0 0) 0) false 0 (Zax.mk 0 0) 0 0) ([]:(List Zab)) ([]:(List Zac))),(Zae.mk 0 (Zaa.mk (Zah.mk (Zag.mk false 0 0) 0) false 0 (Zax.mk 0 0) 0 0) ([(Zab.mk (Zao.mk (Zag.mk false 0 0) 0) 9)]:List Zab) ([]:(List Zac))),(Zae.mk 0 (Zaa.mk (Zah.mk (Zag.mk false 0 0) 0) false 0 (Zax.mk 0 0) 0 0) ([]:(List Zab)) ([]:(List Zac)))]:List Zae).flatMap Zae.c).getD (i * 13+j) .junk from⟨rfl,fun i j hi hj=>ZaP (sz:=13) (e:=Zae.c) (d:=Zae.d) (fun _=>rfl) ([(Zae.mk 0 (Zaa.mk (Zah.mk (Zag.mk false 0 0) 0) false 0 (Zax.mk 0 0) 0 0) ([]:(List Zab)) ([]:(List Zac))),(Zae.mk 0 (Zaa.mk (Zah.mk (Zag.mk false 0 0) 0) false 0 (Zax.mk 0 0) 0 0) ([(Zab.mk (Zao.mk (Zag.mk false 0 0) 0) 9)]:List Zab) ([]:(List Zac))),(Zae.mk 0 (Zaa.mk (Zah.mk (Zag.mk false 0 0) 0) false 0 (Zax.mk 0 0) 0 0) ([]:(List Zab)) ([]:(List Zac)))]:List Zae) i j hi hj⟩) (.c (ZqA _ _ _ _ o) .n))))));rcases Zai a with⟨b,a⟩|⟨b,a⟩
 ·rcases Zai a with⟨g,a⟩|⟨g,a⟩
  ·apply Ya a 12 (R1++[rB [(4,true),(8,true)]]) [] (O2.app (.c b (.c g .n)))
  ·apply Ya a 12 (R1++[rB [(4,true),(8,false)]]) [] (O2.app (.c b (.c g .n)))
 ·apply Ya a 12 (R1++[rB [(4,false)]]) [] (O2.app (.c b .n))
def Zdn(a:Int):Option Int:=bif(decide (a<(1:Int)))then some (1:Int)else bif(decide (a>(8:Int)))then some (8:Int)else some a
theorem ZhO(e r:Int)(a:Zdn e=some r):ZaC Tryz.prog 132 [(Yj e)] ((Yj r)):=by
 refine ZaC.of Tryz.func132 rfl rfl rfl rfl fun S0 w0=>?_;unfold Zdn at a;rcases Zai a with⟨b,a⟩|⟨b,a⟩
 ·apply Ya a 8 [rz,rz,rz] [true] (.c b .n)
 ·rcases Zai a with⟨d,a⟩|⟨d,a⟩
  ·apply Ya a 13 [rz,rz,rz,rz] [false,true] (.c b (.c d .n))
  ·apply Ya a 14 [rz,rz,rz,rz] [false,false] (.c b (.c d .n))
def ZdF(g e f c a b:Int)(ax:Int->Int->Int->Int->Option (Int×Int))(d:Int):Option (Int×Int):=bif(decide ((Zar b 64)<f))then need (a≠0)<|bif((Int.tmod (IntKind.wrap .u64 (Int.tdiv e a)) (2:Int))==(1:Int))then ax d (IntKind.wrap .u64 (c+a)) (IntKind.wrap .u64 (Int.tdiv a (2:Int))) (Zar b 1)else ax d c (IntKind.wrap .u64 (Int.tdiv a (2:Int))) (Zar b 1)else ax d c (IntKind.wrap .u64 (Int.tdiv a (2:Int))) (Zar b 1)
theorem Zhy(S0:Nat->Prop)(w0:Zba)(g h i e a d:Int)(ax:Int->Int->Int->Int->Option (Int×Int))(aU:∀(dC v9_ fB fC:Int)(r:(Int×Int)),ax dC v9_ fB fC=some r->Good Tryz.prog 47 S0 w0 (bodyPost Tryz.prog Tryz.f357 (Post S0 w0 (.tup [(false,(cI .u64) r.1),(false,(cI .u64) r.2)]))) (at_ [1,1,1,0,1,0] (ZaW Tryz.f357)) ⟨[(0,.one (.lit (.int .u64 g))),(1,.one (.lit (.int .u64 h))),(2,(Yj i)),(8,.one (.lit (.int .u64 dC))),(9,.one (.lit (.int .u64 v9_))),(10,.one (.lit (.int .u64 fB))),(11,(Yj fC))],[]⟩)(f:Int)(r:(Int×Int))(b:ZdF g h i e a d ax f=some r):Good Tryz.prog 47 S0 w0 (bodyPost Tryz.prog Tryz.f357 (Post S0 w0 (.tup [(false,(cI .u64) r.1),(false,(cI .u64) r.2)]))) (at_ [1,1,1,0,1,0,0,1,0,0,1] (ZaW Tryz.f357)) ⟨[(0,.one (.lit (.int .u64 g))),(1,.one (.lit (.int .u64 h))),(2,(Yj i)),(8,.one (.lit (.int .u64 f))),(9,.one (.lit (.int .u64 e))),(10,.one (.lit (.int .u64 a))),(11,(Yj d))],[]⟩:=by
 unfold ZdF at b;rcases Zai b with⟨j,b⟩|⟨j,b⟩
 ·obtain⟨l,b⟩:=Zaq b;have O1:Obl _:=(.c j (.c l (.c (show (2:Int)≠0 from(by decide)) .n)));rcases Zai b with⟨k,b⟩|⟨k,b⟩
  ·exact Ye 9 [rB [(4,true)],rz,rz,rz] [true] (Yi [0,1,2,8,9,10,11]) (O1.app (.c k (.c (show (2:Int)≠0 from(by decide)) .n))) (aU f (IntKind.wrap .u64 (e+a)) (IntKind.wrap .u64 (Int.tdiv a (2:Int))) (Zar d 1) r b)
  ·exact Ye 9 [rB [(4,true)],rz,rz] [false] (Yi [0,1,2,8,9,10,11]) (O1.app (.c k (.c (show (2:Int)≠0 from(by decide)) .n))) (aU f e (IntKind.wrap .u64 (Int.tdiv a (2:Int))) (Zar d 1) r b)
 ·exact Ye 9 [rB [(4,false)],rz,rz] [false] (Yi [0,1,2,8,9,10,11]) (.c j (.c (show false=false from rfl) (.c (show (2:Int)≠0 from(by decide)) .n))) (aU f e (IntKind.wrap .u64 (Int.tdiv a (2:Int))) (Zar d 1) r b)
def ZbG(c e d:Int):Nat->Int->Int->Int->Int->Option (Int×Int)|0,_,_,_,_=>none|fu+1,f,g,a,b=>bif(decide (b<(64:Int)))then bif(decide (b<d))then need (a≠0)<|bif((Int.tmod (IntKind.wrap .u64 (Int.tdiv c a)) (2:Int))==(1:Int))then ZdF c e d g a b (ZbG c e d fu) (IntKind.wrap .u64 (f+a))else ZdF c e d g a b (ZbG c e d fu) f else ZdF c e d g a b (ZbG c e d fu) f else some (f,g)
theorem ZnP(S0:Nat->Prop)(w0:Zba)(e f g:Int):∀(h:Nat)(i j b d:Int)(r:(Int×Int)),ZbG e f g h i j b d=some r->Good Tryz.prog 47 S0 w0 (bodyPost Tryz.prog Tryz.f357 (Post S0 w0 (.tup [(false,(cI .u64) r.1),(false,(cI .u64) r.2)]))) (at_ [1,1,1,0,1,0] (ZaW Tryz.f357)) ⟨[(0,.one (.lit (.int .u64 e))),(1,.one (.lit (.int .u64 f))),(2,(Yj g)),(8,.one (.lit (.int .u64 i))),(9,.one (.lit (.int .u64 j))),(10,.one (.lit (.int .u64 b))),(11,(Yj d))],[]⟩:=by
 intro h;induction h with
 |zero=>
  intro i j b d r a;simp[ZbG]at a
 |succ h l=>
  intro i j b d r a;unfold ZbG at a;rcases Zai a with⟨k,a⟩|⟨k,a⟩
  ·rcases Zai a with⟨m,a⟩|⟨m,a⟩
   ·obtain⟨p,a⟩:=Zaq a;have O2:Obl _:=(.c k (.c m (.c p (.c (show (2:Int)≠0 from(by decide)) .n))));rcases Zai a with⟨o,a⟩|⟨o,a⟩
    ·exact Ye 13 [rz,rB [(3,true)],rz] [true,true] (Yi [0,1,2,8,9,10,11]) (O2.app (.c o .n)) (Zhy S0 w0 e f g j b d (ZbG e f g h) l (IntKind.wrap .u64 (i+b)) r a)
    ·exact Ye 13 [rz,rB [(3,true)]] [true,false] (Yi [0,1,2,8,9,10,11]) (O2.app (.c o .n)) (Zhy S0 w0 e f g j b d (ZbG e f g h) l i r a)
   ·exact Ye 13 [rz,rB [(3,false)]] [true,false] (Yi [0,1,2,8,9,10,11]) (.c k (.c m (.c (show false=false from rfl) .n))) (Zhy S0 w0 e f g j b d (ZbG e f g h) l i r a)
  ·apply Ya a 8 [rz,rz] [false] (.c k .n)
def ZdU(a b c:Int):Option (Int×Int):=ZbG a b c (((64:Int)-(0:Int)).toNat+2) (0:Int) (0:Int) (9223372036854775808:Int) (0:Int)
theorem ZkX(a b c:Int)(r:(Int×Int))(d:ZdU a b c=some r):ZaC Tryz.prog 357 [.one (.lit (.int .u64 a)),.one (.lit (.int .u64 b)),(Yj c)] (.tup [(false,(cI .u64) r.1),(false,(cI .u64) r.2)]):=by
 refine ZaC.of Tryz.func357 rfl rfl rfl rfl fun S0 w0=>?_;unfold ZdU at d;exact Ye 10 [rz,rz,rz,rz] [] (Yi [0,1,2,8,9,10,11]) .n (ZnP S0 w0 a b c (((64:Int)-(0:Int)).toNat+2) (0:Int) (0:Int) (9223372036854775808:Int) (0:Int) r d)
def ZeQ(a e:Zag)(b:Int):Option Zag:=bif a.fV6 then(ZdU a.fHi a.fLo b).bind fun c=>some (Zag.mk true c.1 c.2)else(ZdU (0:Int) a.fLo (Zar (96:Int) b)).bind fun d=>some (Zag.mk false 0 d.2)
theorem Zjj(S0:Nat->Prop)(w0:Zba)(b d:Zag)(f:Int)(r:Zag)(a:ZeQ b d f=some r):Good Tryz.prog 45 S0 w0 (bodyPost Tryz.prog Tryz.f308 (Post S0 w0 (.agg (Zag.c r)))) (at_ [1,1,1,1] (ZaW Tryz.f308)) ⟨[(1,(Yj f)),(2,.one (.ptr 2 0)),(4,.one (.ptr 4 0))],[(2,.box [.lit (.bool b.fV6),.lit (.int .u64 b.fHi),.lit (.int .u64 b.fLo)]),(4,.box [.lit (.bool d.fV6),.lit (.int .u64 d.fHi),.lit (.int .u64 d.fLo)])]⟩:=by
 unfold ZeQ at a;rcases Zai a with⟨e,a⟩|⟨e,a⟩
 ·obtain⟨g,i,a⟩:=Zaf a;apply Ya a 8 [rz,rA [(5,.r (.tup [(false,(cI .u64) g.1),(false,(cI .u64) g.2)]) [])],rz] [true] (.c e (.c (ZkX _ _ _ _ i) .n))
 ·obtain⟨h,j,a⟩:=Zaf a;apply Ya a 9 [rz,rA [(4,.r (.tup [(false,(cI .u64) h.1),(false,(cI .u64) h.2)]) [])],rz] [false] (.c e (.c (ZkX _ _ _ _ j) .n))
def ZeR(b:Int)(a c:Zag):Option Zag:=(Zce a).bind fun d=>bif(decide (b>d))then ZeQ a c d else ZeQ a c b
theorem Zjk(S0:Nat->Prop)(w0:Zba)(f:Int)(b d r:Zag)(a:ZeR f b d=some r):Good Tryz.prog 45 S0 w0 (bodyPost Tryz.prog Tryz.f308 (Post S0 w0 (.agg (Zag.c r)))) (at_ [1,1,1] (ZaW Tryz.f308)) ⟨[(1,(Yj f)),(2,.one (.ptr 2 0)),(4,.one (.ptr 4 0))],[(2,.box [.lit (.bool b.fV6),.lit (.int .u64 b.fHi),.lit (.int .u64 b.fLo)]),(4,.box [.lit (.bool d.fV6),.lit (.int .u64 d.fHi),.lit (.int .u64 d.fLo)])]⟩:=by
 unfold ZeR at a;obtain⟨e,g,a⟩:=Zaf a;rcases Zai a with⟨h,a⟩|⟨h,a⟩
 ·exact Ye 5 [rA [(2,aI e)],rA [(1,aI e)]] [true] ⟨[],[],[],[],[],[1,2,4],[2,4],[]⟩ (.c (Zct _ _ g) (.c h (.c (Zct _ _ g) .n))) (Zjj S0 w0 b d e r a)
 ·exact Ye 5 [rA [(2,aI e)]] [false] ⟨[],[],[],[],[],[1,2,4],[2,4],[]⟩ (.c (Zct _ _ g) (.c h .n)) (Zjj S0 w0 b d f r a)
def ZhR(a:Zag)(b:Int):Option Zag:=(Zcf a).bind fun c=>bif(!c)then some (Zag.mk false 0 0)else bif(decide (b<(0:Int)))then ZeR (0:Int) a (Zag.mk false 0 0)else ZeR b a (Zag.mk false 0 0)
theorem Zpe(b:Zag)(d:Int)(r:Zag)(a:ZhR b d=some r):ZaC Tryz.prog 308 [.agg (Zag.c b),(Yj d)] (.agg (Zag.c r)):=by
 refine ZaC.of Tryz.func308 rfl rfl rfl rfl fun S0 w0=>?_;unfold ZhR at a;obtain⟨e,h,a⟩:=Zaf a;rcases Zai a with⟨f,a⟩|⟨f,a⟩
 ·apply Ya a 8 [rz,rA [(1,aB e)],rz] [true] (.c (Zca _ _ h) (.c f .n))
 ·have O1:Obl _:=(.c (Zca _ _ h) (.c f .n));rcases Zai a with⟨g,a⟩|⟨g,a⟩
  ·exact Ye 12 [rz,rA [(1,aB e)],rz,rz] [false,true] ⟨[],[],[],[],[],[1,2,4],[2,4],[]⟩ (O1.app (.c g .n)) (Zjk S0 w0 (0:Int) b (Zag.mk false 0 0) r a)
  ·exact Ye 12 [rz,rA [(1,aB e)],rz] [false,false] ⟨[],[],[],[],[],[1,2,4],[2,4],[]⟩ (O1.app (.c g .n)) (Zjk S0 w0 d b (Zag.mk false 0 0) r a)
def ZhS(b:Zag)(a:Int):Option (Zao×Bool):=(Zcf b).bind fun c=>bif(!c)then some ((Zao.mk (Zag.mk false 0 0) 0),false)else bif(decide (a<(0:Int)))then some ((Zao.mk (Zag.mk false 0 0) 0),false)else(Zce b).bind fun d=>bif(decide (a>d))then some ((Zao.mk (Zag.mk false 0 0) 0),false)else(ZhR b a).bind fun e=>some ((Zao.mk e a),true)
theorem Zpf(g:Zag)(h:Int)(r:(Zao×Bool))(a:ZhS g h=some r):ZaC Tryz.prog 236 [.agg (Zag.c g),(Yj h)] (.tup [(true,Zao.c r.1),(false,cB r.2)]):=by
 refine ZaC.of Tryz.func236 rfl rfl rfl rfl fun S0 w0=>?_;unfold ZhS at a;obtain⟨b,i,a⟩:=Zaf a;rcases Zai a with⟨d,a⟩|⟨d,a⟩
 ·apply Ya a 8 [rz,⟨[(1,aB b)],[(3,true)],[],[],[],[],[]⟩,rz] [true] (.c (Zca _ _ i) (.c d (.c (show true=true from rfl) .n)))
 ·have O1:Obl _:=(.c (Zca _ _ i) (.c d .n));rcases Zai a with⟨e,a⟩|⟨e,a⟩
  ·apply Ya a 8 [rz,⟨[(1,aB b)],[(3,false),(7,true)],[],[],[],[],[]⟩,rz] [true] (O1.app (.c e (.c (show true=true from rfl) .n)))
  ·obtain⟨j,k,a⟩:=Zaf a
   let R2:List RA:=[rz,⟨[(1,aB b),(10,aI j)],[(3,false),(7,false)],[],[],[],[],[]⟩]
   have O3:Obl _:=(O1.app (.c e (.c (Zct _ _ k) .n)));rcases Zai a with⟨f,a⟩|⟨f,a⟩
   ·apply Ya a 8 (R2++[rz]) [true] (O3.app (.c f .n))
   ·obtain⟨l,m,a⟩:=Zaf a;apply Ya a 9 (R2++[rA [(2,aG (Zag.c l))]]) [false] (O3.app (.c f (.c (Zpe _ _ _ m) .n)))
def Zgl(a:Zag):Option Zao:=(Zce a).bind fun b=>(ZhS a b).bind fun c=>some c.1
theorem Zpg(b:Zag)(r:Zao)(a:Zgl b=some r):ZaC Tryz.prog 161 [.agg (Zag.c b)] (.agg (Zao.c r)):=by
 refine ZaC.of Tryz.func161 rfl rfl rfl rfl fun S0 w0=>?_;unfold Zgl at a;obtain⟨e,f,a⟩:=Zaf a;obtain⟨d,g,a⟩:=Zaf a;apply Ya a 6 [rz,rA [(2,aI e),(3,.r (.tup [(true,Zao.c d.1),(false,cB d.2)]) [])],rz] [] (.c (Zct _ _ f) (.c (Zpf _ _ _ g) .n))
def Zet(a:Int):Option Int:=some (IntKind.wrap .u64 (((BitVec.ofInt (IntKind.bits .u64) (IntKind.wrap .u64 ((IntKind.wrap .u64 (((BitVec.ofInt (IntKind.bits .u64) (IntKind.wrap .u64 ((IntKind.wrap .u64 (((BitVec.ofInt (IntKind.bits .u64) a) ^^^ (BitVec.ofInt (IntKind.bits .u64) (IntKind.wrap .u64 (Int.tdiv a (1073741824:Int))))).toNat:Int))*(13787848793156543929:Int)))) ^^^ (BitVec.ofInt (IntKind.bits .u64) (IntKind.wrap .u64 (Int.tdiv (IntKind.wrap .u64 ((IntKind.wrap .u64 (((BitVec.ofInt (IntKind.bits .u64) a) ^^^ (BitVec.ofInt (IntKind.bits .u64) (IntKind.wrap .u64 (Int.tdiv a (1073741824:Int))))).toNat:Int))*(13787848793156543929:Int))) (134217728:Int))))).toNat:Int))*(10723151780598845931:Int)))) ^^^ (BitVec.ofInt (IntKind.bits .u64) (IntKind.wrap .u64 (Int.tdiv (IntKind.wrap .u64 ((IntKind.wrap .u64 (((BitVec.ofInt (IntKind.bits .u64) (IntKind.wrap .u64 ((IntKind.wrap .u64 (((BitVec.ofInt (IntKind.bits .u64) a) ^^^ (BitVec.ofInt (IntKind.bits .u64) (IntKind.wrap .u64 (Int.tdiv a (1073741824:Int))))).toNat:Int))*(13787848793156543929:Int)))) ^^^ (BitVec.ofInt (IntKind.bits .u64) (IntKind.wrap .u64 (Int.tdiv (IntKind.wrap .u64 ((IntKind.wrap .u64 (((BitVec.ofInt (IntKind.bits .u64) a) ^^^ (BitVec.ofInt (IntKind.bits .u64) (IntKind.wrap .u64 (Int.tdiv a (1073741824:Int))))).toNat:Int))*(13787848793156543929:Int))) (134217728:Int))))).toNat:Int))*(10723151780598845931:Int))) (2147483648:Int))))).toNat:Int))
theorem ZiA(a r:Int)(b:Zet a=some r):ZaC Tryz.prog 309 [.one (.lit (.int .u64 a))] (.one (.lit (.int .u64 r))):=by
 refine ZaC.of Tryz.func309 rfl rfl rfl rfl fun S0 w0=>?_;unfold Zet at b;apply Ya b 8 [rz,rz,rz,rz] [] (.c (show (1073741824:Int)≠0 from(by decide)) (.c (show (134217728:Int)≠0 from(by decide)) (.c (show (2147483648:Int)≠0 from(by decide)) .n)))
def ZdP(b:List Int):Nat->Int->Int->Option Int|0,_,_=>none|fu+1,c,a=>bif(decide (a<((b.length:Nat):Int)))then need (0<=a/\a<((b.length:Nat):Int))<|(Zet (IntKind.wrap .u64 ((b.getD a.toNat (0:Int))+(11400714819323198485:Int)))).bind fun d=>(Zet (IntKind.wrap .u64 (((BitVec.ofInt (IntKind.bits .u64) (IntKind.wrap .u64 ((IntKind.wrap .u64 (c*(128:Int)))+(IntKind.wrap .u64 (Int.tdiv c (144115188075855872:Int)))))) ^^^ (BitVec.ofInt (IntKind.bits .u64) d)).toNat:Int))).bind fun e=>ZdP b fu e (Zar a 1)else some c
theorem ZoC(S0:Nat->Prop)(w0:Zba)(g:List Int):∀(d:Nat)(e b r:Int),ZdP g d e b=some r->Good Tryz.prog 30 S0 w0 (bodyPost Tryz.prog Tryz.f241 (Post S0 w0 (.one (.lit (.int .u64 r))))) (at_ [1,1,0,1,0] (ZaW Tryz.f241)) ⟨[(1,.one (cL 1 (cI .u64) (0:Int) g)),(5,.one (.lit (.int .u64 e))),(6,(Yj b))],[]⟩:=by
 intro d;induction d with
 |zero=>
  intro e b r a;simp[ZdP]at a
 |succ d i=>
  intro e b r a;unfold ZdP at a;rcases Zai a with⟨f,a⟩|⟨f,a⟩
  ·obtain⟨j,a⟩:=Zaq a;obtain⟨k,l,a⟩:=Zaf a;obtain⟨h,m,a⟩:=Zaf a;exact Ye 12 [rz,rA [(10,.r (.one (.lit (.int .u64 k))) []),(12,.r (.one (.lit (.int .u64 h))) [])],rz] [true] (Yi [1,5,6]) (.c f (.c (show (144115188075855872:Int)≠0 from(by decide)) (.c j (.c (ZiA _ _ l) (.c (ZiA _ _ m) .n))))) (i h (Zar b 1) r a)
  ·apply Ya a 8 [rz,rz] [false] (.c f .n)
def Zgd(b:Int)(a:List Int):Option Int:=(Zet (IntKind.wrap .u64 (b+(11400714819323198485:Int)))).bind fun c=>ZdP a ((((a.length:Nat):Int)-(0:Int)).toNat+2) c (0:Int)
theorem Zls(d:Int)(a:List Int)(r:Int)(b:Zgd d a=some r):ZaC Tryz.prog 241 [.one (.lit (.int .u64 d)),.one (cL 1 (cI .u64) (0:Int) a)] (.one (.lit (.int .u64 r))):=by
 refine ZaC.of Tryz.func241 rfl rfl rfl rfl fun S0 w0=>?_;unfold Zgd at b;obtain⟨e,f,b⟩:=Zaf b;exact Ye 8 [rz,rA [(2,.r (.one (.lit (.int .u64 e))) [])],rz] [] (Yi [1,5,6]) (.c (ZiA _ _ f) .n) (ZoC S0 w0 a ((((a.length:Nat):Int)-(0:Int)).toNat+2) e (0:Int) r b)
def ZgT(b:Int)(a:Zao):Option Int:=bif a.fAddr.fV6 then(Zgd b ([(6:Int),a.fAddr.fHi,a.fAddr.fLo,(IntKind.wrap .u64 a.fBits)]:List Int)).bind fun c=>some c else(Zgd b ([(4:Int),a.fAddr.fHi,a.fAddr.fLo,(IntKind.wrap .u64 a.fBits)]:List Int)).bind fun d=>some d
theorem ZpG(g:Int)(a:Zao)(r:Int)(b:ZgT g a=some r):ZaC Tryz.prog 173 [.one (.lit (.int .u64 g)),.agg (Zao.c a)] (.one (.lit (.int .u64 r))):=by
 refine ZaC.of Tryz.func173 rfl rfl rfl rfl fun S0 w0=>?_;unfold ZgT at b;rcases Zai b with⟨f,b⟩|⟨f,b⟩
 ·obtain⟨h,k,b⟩:=Zaf b;apply Ya b 11 [rz,rz,rz,rz,⟨[(12,.r (.one (.lit (.int .u64 h))) [])],[],[],[],[],[(11,(([(6:Int),a.fAddr.fHi,a.fAddr.fLo,(IntKind.wrap .u64 a.fBits)]:List Int).length,Zam (cI .u64) (0:Int) ([(6:Int),a.fAddr.fHi,a.fAddr.fLo,(IntKind.wrap .u64 a.fBits)]:List Int)))],[]⟩] [true] (.c f (.c (show ([(6:Int),a.fAddr.fHi,a.fAddr.fLo,(IntKind.wrap .u64 a.fBits)]:List Int).length=4/\∀i j,i<4->j<1->Zam (cI .u64) (0:Int) ([(6:Int),a.fAddr.fHi,a.fAddr.fLo,(IntKind.wrap .u64 a.fBits)]:List Int) i j=(([(6:Int),a.fAddr.fHi,a.fAddr.fLo,(IntKind.wrap .u64 a.fBits)]:List Int).flatMap (cI .u64)).getD (i * 1+j) .junk from⟨rfl,fun i j hi hj=>ZaP (sz:=1) (e:=(cI .u64)) (d:=(0:Int)) (fun _=>rfl) ([(6:Int),a.fAddr.fHi,a.fAddr.fLo,(IntKind.wrap .u64 a.fBits)]:List Int) i j hi hj⟩) (.c (Zls _ _ _ k) .n)))
 ·obtain⟨l,m,b⟩:=Zaf b;apply Ya b 11 [rz,rz,rz,⟨[(12,.r (.one (.lit (.int .u64 l))) [])],[],[],[],[],[(11,(([(4:Int),a.fAddr.fHi,a.fAddr.fLo,(IntKind.wrap .u64 a.fBits)]:List Int).length,Zam (cI .u64) (0:Int) ([(4:Int),a.fAddr.fHi,a.fAddr.fLo,(IntKind.wrap .u64 a.fBits)]:List Int)))],[]⟩] [false] (.c f (.c (show ([(4:Int),a.fAddr.fHi,a.fAddr.fLo,(IntKind.wrap .u64 a.fBits)]:List Int).length=4/\∀i j,i<4->j<1->Zam (cI .u64) (0:Int) ([(4:Int),a.fAddr.fHi,a.fAddr.fLo,(IntKind.wrap .u64 a.fBits)]:List Int) i j=(([(4:Int),a.fAddr.fHi,a.fAddr.fLo,(IntKind.wrap .u64 a.fBits)]:List Int).flatMap (cI .u64)).getD (i * 1+j) .junk from⟨rfl,fun i j hi hj=>ZaP (sz:=1) (e:=(cI .u64)) (d:=(0:Int)) (fun _=>rfl) ([(4:Int),a.fAddr.fHi,a.fAddr.fLo,(IntKind.wrap .u64 a.fBits)]:List Int) i j hi hj⟩) (.c (Zls _ _ _ m) .n)))
def ZfO(b a:Int):Option Int:=bif(decide (a<(1:Int)))then some (0:Int)else bif(decide (a>(2147483648:Int)))then some (0:Int)else some (IntKind.wrap .i64 (IntKind.wrap .u64 (Int.tdiv (IntKind.wrap .u64 ((IntKind.wrap .u64 (Int.tdiv b (4294967296:Int)))*(IntKind.wrap .u64 a))) (4294967296:Int))))
theorem ZoD(e f r:Int)(a:ZfO e f=some r):ZaC Tryz.prog 172 [.one (.lit (.int .u64 e)),(Yj f)] ((Yj r)):=by
 refine ZaC.of Tryz.func172 rfl rfl rfl rfl fun S0 w0=>?_;unfold ZfO at a;rcases Zai a with⟨b,a⟩|⟨b,a⟩
 ·apply Ya a 8 [rz,rB [(2,true)],rz] [true] (.c b (.c (show true=true from rfl) .n))
 ·rcases Zai a with⟨d,a⟩|⟨d,a⟩
  ·apply Ya a 8 [rz,rB [(2,false)],rz] [true] (.c b (.c d .n))
  ·apply Ya a 9 [rz,rB [(2,false)],rz] [false] (.c b (.c d (.c (show (4294967296:Int)≠0 from(by decide)) (.c (show (4294967296:Int)≠0 from(by decide)) .n))))
def Zgb(a:Zag)(b c:Int):Option Int:=(Zgl a).bind fun d=>(ZgT b d).bind fun e=>(Zdn c).bind fun f=>(ZfO e f).bind fun g=>some g
theorem Zql(b:Zag)(d e r:Int)(a:Zgb b d e=some r):ZaC Tryz.prog 93 [.agg (Zag.c b),.one (.lit (.int .u64 d)),(Yj e)] ((Yj r)):=by
 refine ZaC.of Tryz.func93 rfl rfl rfl rfl fun S0 w0=>?_;unfold Zgb at a;obtain⟨f,g,a⟩:=Zaf a;obtain⟨h,i,a⟩:=Zaf a;obtain⟨j,k,a⟩:=Zaf a;obtain⟨l,m,a⟩:=Zaf a;apply Ya a 4 [rz,rA [(2,aG (Zao.c f)),(3,.r (.one (.lit (.int .u64 h))) []),(5,aI j),(6,aI l)]] [] (.c (Zpg _ _ g) (.c (ZpG _ _ _ i) (.c (ZhO _ _ k) (.c (ZoD _ _ _ m) .n))))
def Zci(e:List Zaa)(h i g:Int)(aw:Int->(List Zad)->Option (List Zad)):Nat->Int->(List Zad)->Int->(List Zaa)->Option (List Zad)|0,_,_,_,_=>none|fu+1,b,f,c,a=>bif(decide (b<((e.length:Nat):Int)))then need (0<=b/\b<((e.length:Nat):Int))<|(Zgb (((e.getD b.toNat Zaa.d).fEnd).fAddr) h i).bind fun j=>bif(j==g)then need ((a++([(e.getD b.toNat Zaa.d)]:List Zaa)).length * 80<=140737488355328/\(a++([(e.getD b.toNat Zaa.d)]:List Zaa)).length<=maxLen)<|Zci e h i g aw fu (Zar b 1) f (Zar c 1) (a++([(e.getD b.toNat Zaa.d)]:List Zaa))else Zci e h i g aw fu (Zar b 1) f c a else need ((f++([(Zad.mk c a)]:List Zad)).length * 32<=140737488355328/\(f++([(Zad.mk c a)]:List Zad)).length<=maxLen)<|aw (Zar g 1) (f++([(Zad.mk c a)]:List Zad))
theorem Zmy(S0:Nat->Prop)(w0:Zba)(h:List Zaa)(m o p:Int)(aw:Int->(List Zad)->Option (List Zad))(bF:∀(dC:Int)(kI r:List Zad),aw dC kI=some r->Good Tryz.prog 54 S0 w0 (bodyPost Tryz.prog Tryz.f64 (Zbk S0 w0 [(99999,.rows 178 2 r.length (Zam Zad.c Zad.d r))] (.one (.osl 99999 r.length)))) (at_ [1,1,0,1,0] (ZaW Tryz.f64)) ⟨[(0,(Yn h)),(1,.one (.lit (.int .u64 m))),(2,(Yj o)),(7,.one (.osl 7 kI.length)),(8,(Yj dC))],[(7,.rows 178 2 kI.length (Zam Zad.c Zad.d kI))]⟩):∀(l:Nat)(f:Int)(k:List Zad)(b:Int)(a:List Zaa)(r:List Zad),Zci h m o p aw l f k b a=some r->Good Tryz.prog 54 S0 w0 (bodyPost Tryz.prog Tryz.f64 (Zbk S0 w0 [(99999,.rows 178 2 r.length (Zam Zad.c Zad.d r))] (.one (.osl 99999 r.length)))) (at_ [1,1,0,1,0,0,1,0,0,1,0,1,0] (ZaW Tryz.f64)) ⟨[(0,(Yn h)),(1,.one (.lit (.int .u64 m))),(2,(Yj o)),(7,.one (.osl 7 k.length)),(8,(Yj p)),(9,.one (.ptr 9 0)),(10,(Yj f))],[(7,.rows 178 2 k.length (Zam Zad.c Zad.d k)),(80901,.rows 44 10 a.length (Zam Zaa.c Zaa.d a)),(9,.box [.lit (.int .i64 b),.osl 80901 a.length])]⟩:=by
 intro l;induction l with
 |zero=>
  intro f k b a r g;simp[Zci]at g
 |succ l t=>
  intro f k b a r g;unfold Zci at g;rcases Zai g with⟨q,g⟩|⟨q,g⟩
  ·obtain⟨u,g⟩:=Zaq g;obtain⟨v,y,g⟩:=Zaf g;have O1:Obl _:=(.c q (.c u (.c (Zql _ _ _ _ y) .n)));rcases Zai g with⟨s,g⟩|⟨s,g⟩
   ·obtain⟨w,g⟩:=Zaq g;exact Ye 17 [rz,rA [(8,aI v)],⟨[(7,.c ((a++([(h.getD f.toNat Zaa.d)]:List Zaa)).length) (Zam Zaa.c Zaa.d (a++([(h.getD f.toNat Zaa.d)]:List Zaa))))],[],[],[],[],[(6,(([(h.getD f.toNat Zaa.d)]:List Zaa).length,Zam Zaa.c Zaa.d ([(h.getD f.toNat Zaa.d)]:List Zaa)))],[]⟩,rz,rz] [true,true] ⟨[],[],[],[],[],[0,1,2,7,8,9,10],[7,43,9],[(43,80901)]⟩ (O1.app (.c s (.c u (.c (show ([(h.getD f.toNat Zaa.d)]:List Zaa).length=1/\∀i j,i<1->j<10->Zam Zaa.c Zaa.d ([(h.getD f.toNat Zaa.d)]:List Zaa) i j=(([(h.getD f.toNat Zaa.d)]:List Zaa).flatMap Zaa.c).getD (i * 10+j) .junk from⟨rfl,fun i j hi hj=>ZaP (sz:=10) (e:=Zaa.c) (d:=Zaa.d) (fun _=>rfl) ([(h.getD f.toNat Zaa.d)]:List Zaa) i j hi hj⟩) (.c (Zcm (sz:=10) (e:=Zaa.c) (d:=Zaa.d) a ([(h.getD f.toNat Zaa.d)]:List Zaa)) (.c w.1 (.c w.2 .n))))))) (t (Zar f 1) k (Zar b 1) (a++([(h.getD f.toNat Zaa.d)]:List Zaa)) r g)
   ·exact Ye 15 [rz,rA [(8,aI v)],rz] [true,false] ⟨[],[],[],[],[],[0,1,2,7,8,9,10],[7,80901,9],[]⟩ (O1.app (.c s .n)) (t (Zar f 1) k b a r g)
  ·obtain⟨x,g⟩:=Zaq g;exact Ye 10 [rz,⟨[(3,.c ((k++([(Zad.mk b a)]:List Zad)).length) (Zam Zad.c Zad.d (k++([(Zad.mk b a)]:List Zad))))],[],[(2,[80901])],[],[],[(2,(([(Zad.mk b a)]:List Zad).length,Zam Zad.c Zad.d ([(Zad.mk b a)]:List Zad)))],[]⟩,rz] [false] ⟨[],[],[],[],[],[0,1,2,7,8],[52],[(52,7)]⟩ (.c q (.c (show ([(Zad.mk b a)]:List Zad).length=1/\∀i j,i<1->j<2->Zam Zad.c Zad.d ([(Zad.mk b a)]:List Zad) i j=(([(Zad.mk b a)]:List Zad).flatMap Zad.c).getD (i * 2+j) .junk from⟨rfl,fun i j hi hj=>ZaP (sz:=2) (e:=Zad.c) (d:=Zad.d) (fun _=>rfl) ([(Zad.mk b a)]:List Zad) i j hi hj⟩) (.c (Zcm (sz:=2) (e:=Zad.c) (d:=Zad.d) k ([(Zad.mk b a)]:List Zad)) (.c x.1 (.c x.2 .n))))) (bF (Zar p 1) (k++([(Zad.mk b a)]:List Zad)) r g)
def ZbW(a:List Zaa)(c b:Int):Nat->Int->(List Zad)->Option (List Zad)|0,_,_=>none|fu+1,d,e=>(Zdn b).bind fun f=>bif(decide (d<f))then Zci a c b d (ZbW a c b fu) ((((a.length:Nat):Int)-(0:Int)).toNat+2) (0:Int) e (0:Int) ([])else some e
theorem Zmz(S0:Nat->Prop)(w0:Zba)(e:List Zaa)(h i:Int):∀(f:Nat)(g:Int)(b r:List Zad),ZbW e h i f g b=some r->Good Tryz.prog 54 S0 w0 (bodyPost Tryz.prog Tryz.f64 (Zbk S0 w0 [(99999,.rows 178 2 r.length (Zam Zad.c Zad.d r))] (.one (.osl 99999 r.length)))) (at_ [1,1,0,1,0] (ZaW Tryz.f64)) ⟨[(0,(Yn e)),(1,.one (.lit (.int .u64 h))),(2,(Yj i)),(7,.one (.osl 7 b.length)),(8,(Yj g))],[(7,.rows 178 2 b.length (Zam Zad.c Zad.d b))]⟩:=by
 intro f;induction f with
 |zero=>
  intro g b r a;simp[ZbW]at a
 |succ f m=>
  intro g b r a;unfold ZbW at a;obtain⟨k,l,a⟩:=Zaf a;rcases Zai a with⟨j,a⟩|⟨j,a⟩
  ·exact Ye 14 [rA [(2,aI k)],rz,rz] [true] ⟨[],[],[],[],[(209001,80901,44,10,Zam Zaa.c Zaa.d [])],[0,1,2,7,8,9,10],[7,80901,9],[]⟩ (.c (ZhO _ _ l) (.c j .n)) (Zmy S0 w0 e h i g (ZbW e h i f) m ((((e.length:Nat):Int)-(0:Int)).toNat+2) (0:Int) b (0:Int) ([]) r a)
  ·apply Yc a 8 [rA [(2,aI k)],rz] [false] ⟨[],[],[],[],[],[6],[7],[(7,99999)]⟩ (.c (ZhO _ _ l) (.c j .n))
def ZfG(a:List Zaa)(b c:Int):Option (List Zad):=ZbW a b c 1000000 (0:Int) ([]:List Zad)
theorem ZnJ(a:List Zaa)(b f:Int)(r:List Zad)(g:ZfG a b f=some r):Zcu Tryz.prog 64 [] [(Yn a),.one (.lit (.int .u64 b)),(Yj f)] [(99999,.rows 178 2 r.length (Zam Zad.c Zad.d r))] (.one (.osl 99999 r.length)):=by
 refine Zcu.of Tryz.func64 rfl rfl rfl rfl fun S0 w0=>?_;unfold ZfG at g;exact Ye 8 [rz,rA [(0,.c ([]:List Zad).length (Zam Zad.c Zad.d ([]:List Zad)))],rz] [] ⟨[],[],[],[],[],[0,1,2,7,8],[11],[(11,7)]⟩ (.c (show ([]:List Zad).length=0 from rfl) (.c (show ∀i j,i<0->j<2->Zam Zad.c Zad.d ([]:List Zad) i j=(([]:List Zad).flatMap Zad.c).getD (i * 2+j) .junk from(fun i j hi hj=>ZaP (sz:=2) (e:=Zad.c) (d:=Zad.d) (fun _=>rfl) ([]:List Zad) i j hi hj)) .n)) (Zmz S0 w0 a b f 1000000 (0:Int) ([]:List Zad) r g)
theorem Zop(a:List Zaa)(b e:Int)(r:List Zad)(f:ZfG a b e=some r):ZaC Tryz.prog 64 [(Yn a),.one (.lit (.int .u64 b)),(Yj e)] (.one (cL 2 Zad.c Zad.d r)):=(ZnJ a b e r f).pure
def ZgP(c:ZaA)(b:Zas):Option ZaD:=(Zdp b.fPeers true).bind fun e=>(Zdp b.fPeers false).bind fun f=>(ZeB b.fBook (2:Int)).bind fun g=>(ZfG b.fPeers c.fSecret c.fShards).bind fun a=>need (0<=(Zar ((a.length:Nat):Int) (2:Int))/\(Zar ((a.length:Nat):Int) (2:Int))<=(Zar ((a.length:Nat):Int) (2:Int))/\(Zar ((a.length:Nat):Int) (2:Int))<=140737488355328/\(Zar ((a.length:Nat):Int) (2:Int)) * 32<=140737488355328)<|some (ZaD.mk e (Zar f g) b.fBans b.fBook a (List.replicate (Zar ((a.length:Nat):Int) (2:Int)).toNat Zat.d))
theorem ZpC(f:ZaA)(g:Zas)(r:ZaD)(a:ZgP f g=some r):ZaC Tryz.prog 20 [.agg (ZaA.c f),.agg (Zas.c g)] (.agg (ZaD.c r)):=by
 refine ZaC.of Tryz.func20 rfl rfl rfl rfl fun S0 w0=>?_;unfold ZgP at a;obtain⟨k,l,a⟩:=Zaf a;obtain⟨m,o,a⟩:=Zaf a;obtain⟨p,q,a⟩:=Zaf a;obtain⟨b,s,a⟩:=Zaf a;obtain⟨e,a⟩:=Zaq a;apply Ya a 10 [rz,rA [(2,aI k),(5,aI m),(8,aI p)],rA [(6,.r (.one (cL 2 Zad.c Zad.d b)) [])],rA [(4,.r (.one (.sl 2 (List.replicate (Zar ((b.length:Nat):Int) (2:Int)).toNat Zat.d).length (Zam Zat.c Zat.d (List.replicate (Zar ((b.length:Nat):Int) (2:Int)).toNat Zat.d)))) [])],rz] [] (.c (ZfR _ _ _ l) (.c (ZfR _ _ _ o) (.c (ZjZ _ _ _ q) (.c (Zop _ _ _ _ s) (.c (show (Zar ((b.length:Nat):Int) (2:Int))=(((List.replicate (Zar ((b.length:Nat):Int) (2:Int)).toNat Zat.d).length:Nat):Int)from(by rw[List.length_replicate];exact(Int.toNat_of_nonneg e.1).symm)) (.c (show (((List.replicate (Zar ((b.length:Nat):Int) (2:Int)).toNat Zat.d).length:Nat):Int)<=(Zar ((b.length:Nat):Int) (2:Int))from(by rw[List.length_replicate];exact((Int.toNat_of_nonneg e.1).symm ▸ e.2.1))) (.c e.2.2.1 (.c e.2.2.2 (.c (show ∀i j,i<(List.replicate (Zar ((b.length:Nat):Int) (2:Int)).toNat Zat.d).length->j<2->ZsH (([.lit (.int .i64 (0)),.lit (.slice none 0 0)]:List C).getD j .junk) (Zam Zat.c Zat.d (List.replicate (Zar ((b.length:Nat):Int) (2:Int)).toNat Zat.d) i j)from(by rw[List.length_replicate];exact(Zvy (fun j hj=>match j,hj with|0,_=>.inl rfl|1,_=>.inr ⟨rfl,_,_,rfl⟩|j+2,h=>absurd h (by omega)) _))) .n)))))))))
def ZfE(a:Int):Option ByteArray:=bif(decide (a<(1:Int)))then some (⟨#[]⟩ : ByteArray)else bif(decide (a>(13:Int)))then some (⟨#[]⟩ : ByteArray)else need (0<=a/\a<((([(⟨#[]⟩ : ByteArray),(⟨#[101,116]⟩ : ByteArray),(⟨#[101]⟩ : ByteArray),(⟨#[116]⟩ : ByteArray),(⟨#[101,103,116,107]⟩ : ByteArray),(⟨#[101,107,116]⟩ : ByteArray),(⟨#[110,107,116]⟩ : ByteArray),(⟨#[110]⟩ : ByteArray),(⟨#[97,116]⟩ : ByteArray),(⟨#[116]⟩ : ByteArray),(⟨#[]⟩ : ByteArray),(⟨#[101,107]⟩ : ByteArray),(⟨#[101,116]⟩ : ByteArray),(⟨#[101,116]⟩ : ByteArray)]:List ByteArray).length:Nat):Int))<|some (([(⟨#[]⟩ : ByteArray),(⟨#[101,116]⟩ : ByteArray),(⟨#[101]⟩ : ByteArray),(⟨#[116]⟩ : ByteArray),(⟨#[101,103,116,107]⟩ : ByteArray),(⟨#[101,107,116]⟩ : ByteArray),(⟨#[110,107,116]⟩ : ByteArray),(⟨#[110]⟩ : ByteArray),(⟨#[97,116]⟩ : ByteArray),(⟨#[116]⟩ : ByteArray),(⟨#[]⟩ : ByteArray),(⟨#[101,107]⟩ : ByteArray),(⟨#[101,116]⟩ : ByteArray),(⟨#[101,116]⟩ : ByteArray)]:List ByteArray).getD a.toNat ByteArray.empty)
theorem Zoo(g:Int)(r:ByteArray)(a:ZfE g=some r):ZaC Tryz.prog 113 [(Yj g)] (.one (.lit (.string r))):=by
 refine ZaC.of Tryz.func113 rfl rfl rfl rfl fun S0 w0=>?_;unfold ZfE at a
 let R1:List RA:=[rz,⟨[],[],[],[],[],[(0,(([(⟨#[]⟩ : ByteArray),(⟨#[101,116]⟩ : ByteArray),(⟨#[101]⟩ : ByteArray),(⟨#[116]⟩ : ByteArray),(⟨#[101,103,116,107]⟩ : ByteArray),(⟨#[101,107,116]⟩ : ByteArray),(⟨#[110,107,116]⟩ : ByteArray),(⟨#[110]⟩ : ByteArray),(⟨#[97,116]⟩ : ByteArray),(⟨#[116]⟩ : ByteArray),(⟨#[]⟩ : ByteArray),(⟨#[101,107]⟩ : ByteArray),(⟨#[101,116]⟩ : ByteArray),(⟨#[101,116]⟩ : ByteArray)]:List ByteArray).length,Zam cS ByteArray.empty ([(⟨#[]⟩ : ByteArray),(⟨#[101,116]⟩ : ByteArray),(⟨#[101]⟩ : ByteArray),(⟨#[116]⟩ : ByteArray),(⟨#[101,103,116,107]⟩ : ByteArray),(⟨#[101,107,116]⟩ : ByteArray),(⟨#[110,107,116]⟩ : ByteArray),(⟨#[110]⟩ : ByteArray),(⟨#[97,116]⟩ : ByteArray),(⟨#[116]⟩ : ByteArray),(⟨#[]⟩ : ByteArray),(⟨#[101,107]⟩ : ByteArray),(⟨#[101,116]⟩ : ByteArray),(⟨#[101,116]⟩ : ByteArray)]:List ByteArray)))],[]⟩]
 have O2:Obl _:=(.c (show ([(⟨#[]⟩ : ByteArray),(⟨#[101,116]⟩ : ByteArray),(⟨#[101]⟩ : ByteArray),(⟨#[116]⟩ : ByteArray),(⟨#[101,103,116,107]⟩ : ByteArray),(⟨#[101,107,116]⟩ : ByteArray),(⟨#[110,107,116]⟩ : ByteArray),(⟨#[110]⟩ : ByteArray),(⟨#[97,116]⟩ : ByteArray),(⟨#[116]⟩ : ByteArray),(⟨#[]⟩ : ByteArray),(⟨#[101,107]⟩ : ByteArray),(⟨#[101,116]⟩ : ByteArray),(⟨#[101,116]⟩ : ByteArray)]:List ByteArray).length=14/\∀i j,i<14->j<1->Zam cS ByteArray.empty ([(⟨#[]⟩ : ByteArray),(⟨#[101,116]⟩ : ByteArray),(⟨#[101]⟩ : ByteArray),(⟨#[116]⟩ : ByteArray),(⟨#[101,103,116,107]⟩ : ByteArray),(⟨#[101,107,116]⟩ : ByteArray),(⟨#[110,107,116]⟩ : ByteArray),(⟨#[110]⟩ : ByteArray),(⟨#[97,116]⟩ : ByteArray),(⟨#[116]⟩ : ByteArray),(⟨#[]⟩ : ByteArray),(⟨#[101,107]⟩ : ByteArray),(⟨#[101,116]⟩ : ByteArray),(⟨#[101,116]⟩ : ByteArray)]:List ByteArray) i j=(([(⟨#[]⟩ : ByteArray),(⟨#[101,116]⟩ : ByteArray),(⟨#[101]⟩ : ByteArray),(⟨#[116]⟩ : ByteArray),(⟨#[101,103,116,107]⟩ : ByteArray),(⟨#[101,107,116]⟩ : ByteArray),(⟨#[110,107,116]⟩ : ByteArray),(⟨#[110]⟩ : ByteArray),(⟨#[97,116]⟩ : ByteArray),(⟨#[116]⟩ : ByteArray),(⟨#[]⟩ : ByteArray),(⟨#[101,107]⟩ : ByteArray),(⟨#[101,116]⟩ : ByteArray),(⟨#[101,116]⟩ : ByteArray)]:List ByteArray).flatMap cS).getD (i * 1+j) .junk from⟨rfl,fun i j hi hj=>ZaP (sz:=1) (e:=cS) (d:=ByteArray.empty) (fun _=>rfl) ([(⟨#[]⟩ : ByteArray),(⟨#[101,116]⟩ : ByteArray),(⟨#[101]⟩ : ByteArray),(⟨#[116]⟩ : ByteArray),(⟨#[101,103,116,107]⟩ : ByteArray),(⟨#[101,107,116]⟩ : ByteArray),(⟨#[110,107,116]⟩ : ByteArray),(⟨#[110]⟩ : ByteArray),(⟨#[97,116]⟩ : ByteArray),(⟨#[116]⟩ : ByteArray),(⟨#[]⟩ : ByteArray),(⟨#[101,107]⟩ : ByteArray),(⟨#[101,116]⟩ : ByteArray),(⟨#[101,116]⟩ : ByteArray)]:List ByteArray) i j hi hj⟩) .n);rcases Zai a with⟨b,a⟩|⟨b,a⟩
 ·apply Ya a 10 (R1++[rB [(2,true)],rz]) [true] (O2.app (.c b (.c (show true=true from rfl) .n)))
 ·rcases Zai a with⟨f,a⟩|⟨f,a⟩
  ·apply Ya a 10 (R1++[rB [(2,false)],rz]) [true] (O2.app (.c b (.c f .n)))
  ·obtain⟨h,a⟩:=Zaq a;apply Ya a 11 (R1++[rB [(2,false)],rz]) [false] (O2.app (.c b (.c f (.c h .n))))
def Zbo(d e:Int)(b:Zaz):Nat->ByteArray->Int->Option Bool|0,_,_=>none|fu+1,c,a=>bif(decide (a<((c.size:Nat):Int)))then need (0<=a/\a<((c.size:Nat):Int))<|bif(((Zkr c a.toNat:Nat):Int)==(101:Int))then(ZdQ b.fEnd).bind fun f=>bif(!f)then some false else Zbo d e b fu c (Zar a 1)else bif(((Zkr c a.toNat:Nat):Int)==(110:Int))then(ZdR b.fNet).bind fun g=>bif(!g)then some false else Zbo d e b fu c (Zar a 1)else bif(((Zkr c a.toNat:Nat):Int)==(97:Int))then(Zcf b.fEnd.fAddr).bind fun h=>bif(!h)then some false else Zbo d e b fu c (Zar a 1)else bif(((Zkr c a.toNat:Nat):Int)==(116:Int))then bif(decide (b.fNow<(0:Int)))then some false else bif(decide (b.fNow>(1099511627776:Int)))then some false else Zbo d e b fu c (Zar a 1)else bif(((Zkr c a.toNat:Nat):Int)==(107:Int))then bif(decide (b.fNum<d))then some false else bif(decide (b.fNum>e))then some false else Zbo d e b fu c (Zar a 1)else Zbo d e b fu c (Zar a 1)else some true
theorem Zmx(S0:Nat->Prop)(w0:Zba)(y z:Int)(b:Zaz):∀(u:Nat)(f:ByteArray)(g:Int)(r:Bool),Zbo y z b u f g=some r->Good Tryz.prog 76 S0 w0 (bodyPost Tryz.prog Tryz.f47 (Post S0 w0 ((Yk r)))) (at_ [1,1,1,1,1,0,1,0] (ZaW Tryz.f47)) ⟨[(1,.one (.ptr 1 0)),(3,(Yj y)),(4,(Yj z)),(5,.one (.lit (.string f))),(6,(Yj g))],[(1,.box [.lit (.int .i64 b.fKind),.lit (.bool b.fEnd.fAddr.fV6),.lit (.int .u64 b.fEnd.fAddr.fHi),.lit (.int .u64 b.fEnd.fAddr.fLo),.lit (.int .i64 b.fEnd.fPort),.lit (.bool b.fNet.fAddr.fV6),.lit (.int .u64 b.fNet.fAddr.fHi),.lit (.int .u64 b.fNet.fAddr.fLo),.lit (.int .i64 b.fNet.fBits),.lit (.int .i64 b.fNow),.lit (.int .i64 b.fNum),.lit (.bool b.fGood)])]⟩:=by
 intro u;induction u with
 |zero=>
  intro f g r a;simp[Zbo]at a
 |succ u q=>
  intro f g r a;unfold Zbo at a;rcases Zai a with⟨j,a⟩|⟨j,a⟩
  ·obtain⟨t,a⟩:=Zaq a;rcases Zai a with⟨s,a⟩|⟨s,a⟩
   ·obtain⟨A,D,a⟩:=Zaf a;have O1:Obl _:=(.c j (.c t (.c s (.c (Zeu _ _ D) .n))));rcases Zai a with⟨v,a⟩|⟨v,a⟩
    ·apply Ya a 19 [rz,rz,rz,rA [(2,aB A)],rz] [true,true,true] (O1.app (.c v .n))
    ·exact Ye 22 [rz,rz,rz,rA [(2,aB A)],rz] [true,true,false] ⟨[],[],[],[],[],[1,3,4,5,6],[1],[]⟩ (O1.app (.c v .n)) (q f (Zar g 1) r a)
   ·rcases Zai a with⟨d,a⟩|⟨d,a⟩
    ·obtain⟨B,w,a⟩:=Zaf a;have O2:Obl _:=(.c j (.c t (.c s (.c d (.c (Zev _ _ w) .n)))));rcases Zai a with⟨k,a⟩|⟨k,a⟩
     ·apply Ya a 22 [rz,rz,rz,rz,rA [(2,aB B)],rz] [true,false,true,true] (O2.app (.c k .n))
     ·exact Ye 25 [rz,rz,rz,rz,rA [(2,aB B)],rz] [true,false,true,false] ⟨[],[],[],[],[],[1,3,4,5,6],[1],[]⟩ (O2.app (.c k .n)) (q f (Zar g 1) r a)
    ·rcases Zai a with⟨h,a⟩|⟨h,a⟩
     ·obtain⟨C,x,a⟩:=Zaf a;have O3:Obl _:=(.c j (.c t (.c s (.c d (.c h (.c (Zca _ _ x) .n))))));rcases Zai a with⟨l,a⟩|⟨l,a⟩
      ·apply Ya a 25 [rz,rz,rz,rz,rz,rA [(3,aB C)],rz] [true,false,false,true,true] (O3.app (.c l .n))
      ·exact Ye 28 [rz,rz,rz,rz,rz,rA [(3,aB C)],rz] [true,false,false,true,false] ⟨[],[],[],[],[],[1,3,4,5,6],[1],[]⟩ (O3.app (.c l .n)) (q f (Zar g 1) r a)
     ·rcases Zai a with⟨m,a⟩|⟨m,a⟩
      ·have O4:Obl _:=(.c j (.c t (.c s (.c d (.c h (.c m .n))))));rcases Zai a with⟨i,a⟩|⟨i,a⟩
       ·apply Ya a 28 [rz,rz,rz,rz,rz,rz,rB [(3,true)],rz] [true,false,false,false,true,true] (O4.app (.c i (.c (show true=true from rfl) .n)))
       ·rcases Zai a with⟨o,a⟩|⟨o,a⟩
        ·apply Ya a 28 [rz,rz,rz,rz,rz,rz,rB [(3,false)],rz] [true,false,false,false,true,true] (O4.app (.c i (.c o .n)))
        ·exact Ye 31 [rz,rz,rz,rz,rz,rz,rB [(3,false)],rz] [true,false,false,false,true,false] ⟨[],[],[],[],[],[1,3,4,5,6],[1],[]⟩ (O4.app (.c i (.c o .n))) (q f (Zar g 1) r a)
      ·have O5:Obl _:=(.c j (.c t (.c s (.c d (.c h (.c m .n))))));rcases Zai a with⟨e,a⟩|⟨e,a⟩
       ·rcases Zai a with⟨aW,a⟩|⟨aW,a⟩
        ·apply Ya a 31 [rz,rz,rz,rz,rz,rz,rz,rB [(4,true)],rz] [true,false,false,false,false,true,true] (O5.app (.c e (.c aW (.c (show true=true from rfl) .n))))
        ·let R6:List RA:=[rz,rz,rz,rz,rz,rz,rz,rB [(4,false)],rz]
         rcases Zai a with⟨p,a⟩|⟨p,a⟩
         ·apply Ya a 31 R6 [true,false,false,false,false,true,true] (O5.app (.c e (.c aW (.c p .n))))
         ·exact Ye 34 R6 [true,false,false,false,false,true,false] ⟨[],[],[],[],[],[1,3,4,5,6],[1],[]⟩ (O5.app (.c e (.c aW (.c p .n)))) (q f (Zar g 1) r a)
       ·exact Ye 31 [rz,rz,rz,rz,rz,rz,rz,rz] [true,false,false,false,false,false] ⟨[],[],[],[],[],[1,3,4,5,6],[1],[]⟩ (O5.app (.c e .n)) (q f (Zar g 1) r a)
  ·apply Ya a 8 [rz,rz] [false] (.c j .n)
def Zdc(c d:Int)(a:Zaz):Option Bool:=(ZfE a.fKind).bind fun b=>Zbo c d a ((((b.size:Nat):Int)-(0:Int)).toNat+2) b (0:Int)
theorem ZeK(S0:Nat->Prop)(w0:Zba)(d e:Int)(a:Zaz)(r:Bool)(b:Zdc d e a=some r):Good Tryz.prog 76 S0 w0 (bodyPost Tryz.prog Tryz.f47 (Post S0 w0 ((Yk r)))) (at_ [1,1,1,1] (ZaW Tryz.f47)) ⟨[(1,.one (.ptr 1 0)),(3,(Yj d)),(4,(Yj e))],[(1,.box [.lit (.int .i64 a.fKind),.lit (.bool a.fEnd.fAddr.fV6),.lit (.int .u64 a.fEnd.fAddr.fHi),.lit (.int .u64 a.fEnd.fAddr.fLo),.lit (.int .i64 a.fEnd.fPort),.lit (.bool a.fNet.fAddr.fV6),.lit (.int .u64 a.fNet.fAddr.fHi),.lit (.int .u64 a.fNet.fAddr.fLo),.lit (.int .i64 a.fNet.fBits),.lit (.int .i64 a.fNow),.lit (.int .i64 a.fNum),.lit (.bool a.fGood)])]⟩:=by
 unfold Zdc at b;obtain⟨f,g,b⟩:=Zaf b;exact Ye 6 [rA [(2,.r (.one (.lit (.string f))) [])],rz] [] ⟨[],[],[],[],[],[1,3,4,5,6],[1],[]⟩ (.c (Zoo _ _ g) .n) (Zmx S0 w0 d e a ((((f.size:Nat):Int)-(0:Int)).toNat+2) f (0:Int) r b)
def ZfF(a:Zaz):Option Bool:=bif(decide (a.fKind<(1:Int)))then some false else bif(decide (a.fKind>(13:Int)))then some false else bif(a.fKind==(5:Int))then Zdc (1:Int) (5:Int) a else bif(a.fKind==(6:Int))then Zdc (1:Int) (1099511627776:Int) a else bif(a.fKind==(11:Int))then Zdc (1:Int) (1048576:Int) a else Zdc (0:Int) (1073741824:Int) a
theorem ZjW(d:Zaz)(r:Bool)(a:ZfF d=some r):ZaC Tryz.prog 47 [.agg (Zaz.c d)] ((Yk r)):=by
 refine ZaC.of Tryz.func47 rfl rfl rfl rfl fun S0 w0=>?_;unfold ZfF at a;rcases Zai a with⟨b,a⟩|⟨b,a⟩
 ·apply Ya a 8 [rz,rB [(3,true)],rz] [true] (.c b (.c (show true=true from rfl) .n))
 ·rcases Zai a with⟨e,a⟩|⟨e,a⟩
  ·apply Ya a 8 [rz,rB [(3,false)],rz] [true] (.c b (.c e .n))
  ·rcases Zai a with⟨f,a⟩|⟨f,a⟩
   ·exact Ye 20 [rz,rB [(3,false)],rz,rz,rz,rz,rz] [false,true] ⟨[],[],[],[],[],[1,3,4],[1],[]⟩ (.c b (.c e (.c f .n))) (ZeK S0 w0 (1:Int) (5:Int) d r a)
   ·rcases Zai a with⟨g,a⟩|⟨g,a⟩
    ·exact Ye 23 [rz,rB [(3,false)],rz,rz,rz,rz,rz,rz] [false,false,true] ⟨[],[],[],[],[],[1,3,4],[1],[]⟩ (.c b (.c e (.c f (.c g .n)))) (ZeK S0 w0 (1:Int) (1099511627776:Int) d r a)
    ·rcases Zai a with⟨h,a⟩|⟨h,a⟩
     ·exact Ye 26 [rz,rB [(3,false)],rz,rz,rz,rz,rz,rz,rz] [false,false,false,true] ⟨[],[],[],[],[],[1,3,4],[1],[]⟩ (.c b (.c e (.c f (.c g (.c h .n))))) (ZeK S0 w0 (1:Int) (1048576:Int) d r a)
     ·exact Ye 24 [rz,rB [(3,false)],rz,rz,rz,rz,rz] [false,false,false,false] ⟨[],[],[],[],[],[1,3,4],[1],[]⟩ (.c b (.c e (.c f (.c g (.c h .n))))) (ZeK S0 w0 (0:Int) (1073741824:Int) d r a)
def Zem(a:Int):Option Zap:=some (Zap.mk a (Zah.mk (Zag.mk false 0 0) 0) 0 0 ([]:(List Zaa)))
theorem ZfC(a:Int)(r:Zap)(b:Zem a=some r):ZaC Tryz.prog 71 [(Yj a)] (.agg (Zap.c r)):=by
 refine ZaC.of Tryz.func71 rfl rfl rfl rfl fun S0 w0=>?_;unfold Zem at b;apply Yb b 4 [rz,rz] [] [] [(2,[(7,cL 10 Zaa.c Zaa.d [])])] [] .n
def ZcH(b:List Zab):Nat->Int->Zao->Option Int|0,_,_=>none|fu+1,a,c=>bif(decide (a<((b.length:Nat):Int)))then need (0<=a/\a<((b.length:Nat):Int))<|bif(decide ((b.getD a.toNat Zab.d).fNet=c))then some a else ZcH b fu (Zar a 1) c else some (-1:Int)
theorem ZmM(S0:Nat->Prop)(w0:Zba)(f:List Zab):∀(g:Nat)(e:Int)(b:Zao)(r:Int),ZcH f g e b=some r->Good Tryz.prog 20 S0 w0 (bodyPost Tryz.prog Tryz.f237 (Post S0 w0 ((Yj r)))) (at_ [1,0,1,0] (ZaW Tryz.f237)) ⟨[(0,(Yl f)),(3,.one (.ptr 3 0)),(5,(Yj e))],[(3,.box [.lit (.bool b.fAddr.fV6),.lit (.int .u64 b.fAddr.fHi),.lit (.int .u64 b.fAddr.fLo),.lit (.int .i64 b.fBits)])]⟩:=by
 intro g;induction g with
 |zero=>
  intro e b r a;simp[ZcH]at a
 |succ g j=>
  intro e b r a;unfold ZcH at a;rcases Zai a with⟨h,a⟩|⟨h,a⟩
  ·obtain⟨o2,a⟩:=Zaq a
   let R1:List RA:=[rz,rA [(6,aB (decide ((f.getD e.toNat Zab.d).fNet=b)))],rz]
   have O2:Obl _:=(.c h (.c o2 (.c (ZlA ((f.getD e.toNat Zab.d).fNet) b (.tmp 16) (.tmp 17)) .n)));rcases Zai a with⟨i,a⟩|⟨i,a⟩
   ·apply Ya a 13 R1 [true,true] (O2.app (.c i .n))
   ·exact Ye 15 R1 [true,false] ⟨[],[],[],[],[],[0,3,5],[3],[]⟩ (O2.app (.c i .n)) (j (Zar e 1) b r a)
  ·apply Ya a 8 [rz,rz] [false] (.c h .n)
def ZeC(a:List Zab)(b:Zao):Option Int:=ZcH a ((((a.length:Nat):Int)-(0:Int)).toNat+2) (0:Int) b
theorem ZhP(a:List Zab)(b:Zao)(r:Int)(d:ZeC a b=some r):ZaC Tryz.prog 237 [(Yl a),.agg (Zao.c b)] ((Yj r)):=by
 refine ZaC.of Tryz.func237 rfl rfl rfl rfl fun S0 w0=>?_;unfold ZeC at d;exact Ye 6 [rz,rz] [] ⟨[],[],[],[],[],[0,3,5],[3],[]⟩ .n (ZmM S0 w0 a ((((a.length:Nat):Int)-(0:Int)).toNat+2) (0:Int) b r d)
def ZdE(b:List Zab):Nat->Int->Zab->Option ((List Zab)×Int)|0,_,_=>none|fu+1,a,c=>bif(decide (a<((b.length:Nat):Int)))then need (0<=a/\a<((b.length:Nat):Int))<|(ZdW ((b.getD a.toNat Zab.d).fNet) c.fNet).bind fun e=>bif(decide (e<=(0:Int)))then ZdE b fu (Zar a 1) c else need (0<=a/\a<=((b.length:Nat):Int))<|need ((([]:List Zab)++(b.take a.toNat)).length * 40<=140737488355328/\(([]:List Zab)++(b.take a.toNat)).length<=maxLen)<|need (((([]:List Zab)++(b.take a.toNat))++([c]:List Zab)).length * 40<=140737488355328/\((([]:List Zab)++(b.take a.toNat))++([c]:List Zab)).length<=maxLen)<|need ((((([]:List Zab)++(b.take a.toNat))++([c]:List Zab))++(b.drop a.toNat)).length * 40<=140737488355328/\(((([]:List Zab)++(b.take a.toNat))++([c]:List Zab))++(b.drop a.toNat)).length<=maxLen)<|some ((((([]:List Zab)++(b.take a.toNat))++([c]:List Zab))++(b.drop a.toNat)),(0:Int))else need (0<=a/\a<=((b.length:Nat):Int))<|need ((([]:List Zab)++(b.take a.toNat)).length * 40<=140737488355328/\(([]:List Zab)++(b.take a.toNat)).length<=maxLen)<|need (((([]:List Zab)++(b.take a.toNat))++([c]:List Zab)).length * 40<=140737488355328/\((([]:List Zab)++(b.take a.toNat))++([c]:List Zab)).length<=maxLen)<|need ((((([]:List Zab)++(b.take a.toNat))++([c]:List Zab))++(b.drop a.toNat)).length * 40<=140737488355328/\(((([]:List Zab)++(b.take a.toNat))++([c]:List Zab))++(b.drop a.toNat)).length<=maxLen)<|some ((((([]:List Zab)++(b.take a.toNat))++([c]:List Zab))++(b.drop a.toNat)),(0:Int))
theorem ZnN(S0:Nat->Prop)(w0:Zba)(b:List Zab):∀(u:Nat)(a:Int)(f:Zab)(r:((List Zab)×Int)),ZdE b u a f=some r->Good Tryz.prog 73 S0 w0 (bodyPost Tryz.prog Tryz.f163 (Post S0 w0 (.tup [(false,(cLs 5 Zab.c Zab.d) r.1),(false,(cI .i64) r.2)]))) (at_ [1,1,1,1,1,1,0,0] (ZaW Tryz.f163)) ⟨[(0,(Yl b)),(4,.one (.ptr 4 0)),(10,(Yj a))],[(4,.box [.lit (.bool f.fNet.fAddr.fV6),.lit (.int .u64 f.fNet.fAddr.fHi),.lit (.int .u64 f.fNet.fAddr.fLo),.lit (.int .i64 f.fNet.fBits),.lit (.int .i64 f.fUntil)])]⟩:=by
 intro u;induction u with
 |zero=>
  intro a f r g;simp[ZdE]at g
 |succ u y=>
  intro a f r g;unfold ZdE at g;rcases Zai g with⟨v,g⟩|⟨v,g⟩
  ·obtain⟨w,g⟩:=Zaq g;obtain⟨z,x,g⟩:=Zaf g
   let R1:List RA:=[⟨[(12,aI z)],[(4,true)],[],[],[],[],[]⟩]
   have O2:Obl _:=(.c v (.c w (.c (Zjl _ _ _ x) .n)));rcases Zai g with⟨h,g⟩|⟨h,g⟩
   ·exact Ye 10 (R1++[rz]) [true] ⟨[],[],[],[],[],[0,4,10],[4],[]⟩ (O2.app (.c h .n)) (y (Zar a 1) f r g)
   ·obtain⟨k,g⟩:=Zaq g;obtain⟨m,g⟩:=Zaq g;obtain⟨o,g⟩:=Zaq g;obtain⟨p,g⟩:=Zaq g;apply Yb g 10 (R1++[⟨[(0,.c ([]:List Zab).length (Zam Zab.c Zab.d ([]:List Zab))),(4,.c ((([]:List Zab)++(b.take a.toNat)).length) (Zam Zab.c Zab.d (([]:List Zab)++(b.take a.toNat)))),(7,.c (((([]:List Zab)++(b.take a.toNat))++([f]:List Zab)).length) (Zam Zab.c Zab.d ((([]:List Zab)++(b.take a.toNat))++([f]:List Zab))))],[],[],[],[],[(3,((b.take a.toNat).length,Zam Zab.c Zab.d (b.take a.toNat))),(6,(([f]:List Zab).length,Zam Zab.c Zab.d ([f]:List Zab)))],[]⟩,⟨[(4,.c ((((([]:List Zab)++(b.take a.toNat))++([f]:List Zab))++(b.drop a.toNat)).length) (Zam Zab.c Zab.d (((([]:List Zab)++(b.take a.toNat))++([f]:List Zab))++(b.drop a.toNat))))],[],[],[],[],[(3,((b.drop a.toNat).length,Zam Zab.c Zab.d (b.drop a.toNat)))],[]⟩]) [false] [72] [] [] (O2.app (.c h (.c (show ([]:List Zab).length=0 from rfl) (.c (show ∀i j,i<0->j<5->Zam Zab.c Zab.d ([]:List Zab) i j=(([]:List Zab).flatMap Zab.c).getD (i * 5+j) .junk from(fun i j hi hj=>ZaP (sz:=5) (e:=Zab.c) (d:=Zab.d) (fun _=>rfl) ([]:List Zab) i j hi hj)) (.c (show (b.take a.toNat).length=a.toNat/\∀i j,i<a.toNat->j<5->Zam Zab.c Zab.d (b.take a.toNat) i j=Zam Zab.c Zab.d b i j from(Znu _ _ k)) (.c k (.c (Zcm (sz:=5) (e:=Zab.c) (d:=Zab.d) ([]:List Zab) (b.take a.toNat)) (.c m.1 (.c m.2 (.c (show ([f]:List Zab).length=1/\∀i j,i<1->j<5->Zam Zab.c Zab.d ([f]:List Zab) i j=(([f]:List Zab).flatMap Zab.c).getD (i * 5+j) .junk from⟨rfl,fun i j hi hj=>ZaP (sz:=5) (e:=Zab.c) (d:=Zab.d) (fun _=>rfl) ([f]:List Zab) i j hi hj⟩) (.c (Zcm (sz:=5) (e:=Zab.c) (d:=Zab.d) (([]:List Zab)++(b.take a.toNat)) ([f]:List Zab)) (.c o.1 (.c o.2 (.c (show (b.drop a.toNat).length=b.length-a.toNat/\∀i j,i<b.length-a.toNat->j<5->Zam Zab.c Zab.d (b.drop a.toNat) i j=Zam Zab.c Zab.d b (a.toNat+i) j from(ZlE _ _)) (.c k (.c (Zcm (sz:=5) (e:=Zab.c) (d:=Zab.d) ((([]:List Zab)++(b.take a.toNat))++([f]:List Zab)) (b.drop a.toNat)) (.c p.1 (.c p.2 .n))))))))))))))))))
  ·obtain⟨l,g⟩:=Zaq g;obtain⟨q,g⟩:=Zaq g;obtain⟨s,g⟩:=Zaq g;obtain⟨t,g⟩:=Zaq g;apply Yb g 10 [rB [(4,false)],⟨[(0,.c ([]:List Zab).length (Zam Zab.c Zab.d ([]:List Zab))),(4,.c ((([]:List Zab)++(b.take a.toNat)).length) (Zam Zab.c Zab.d (([]:List Zab)++(b.take a.toNat)))),(7,.c (((([]:List Zab)++(b.take a.toNat))++([f]:List Zab)).length) (Zam Zab.c Zab.d ((([]:List Zab)++(b.take a.toNat))++([f]:List Zab))))],[],[],[],[],[(3,((b.take a.toNat).length,Zam Zab.c Zab.d (b.take a.toNat))),(6,(([f]:List Zab).length,Zam Zab.c Zab.d ([f]:List Zab)))],[]⟩,⟨[(4,.c ((((([]:List Zab)++(b.take a.toNat))++([f]:List Zab))++(b.drop a.toNat)).length) (Zam Zab.c Zab.d (((([]:List Zab)++(b.take a.toNat))++([f]:List Zab))++(b.drop a.toNat))))],[],[],[],[],[(3,((b.drop a.toNat).length,Zam Zab.c Zab.d (b.drop a.toNat)))],[]⟩] [false] [72] [] [] (.c v (.c (show false=false from rfl) (.c (show ([]:List Zab).length=0 from rfl) (.c (show ∀i j,i<0->j<5->Zam Zab.c Zab.d ([]:List Zab) i j=(([]:List Zab).flatMap Zab.c).getD (i * 5+j) .junk from(fun i j hi hj=>ZaP (sz:=5) (e:=Zab.c) (d:=Zab.d) (fun _=>rfl) ([]:List Zab) i j hi hj)) (.c (show (b.take a.toNat).length=a.toNat/\∀i j,i<a.toNat->j<5->Zam Zab.c Zab.d (b.take a.toNat) i j=Zam Zab.c Zab.d b i j from(Znu _ _ l)) (.c l (.c (Zcm (sz:=5) (e:=Zab.c) (d:=Zab.d) ([]:List Zab) (b.take a.toNat)) (.c q.1 (.c q.2 (.c (show ([f]:List Zab).length=1/\∀i j,i<1->j<5->Zam Zab.c Zab.d ([f]:List Zab) i j=(([f]:List Zab).flatMap Zab.c).getD (i * 5+j) .junk from⟨rfl,fun i j hi hj=>ZaP (sz:=5) (e:=Zab.c) (d:=Zab.d) (fun _=>rfl) ([f]:List Zab) i j hi hj⟩) (.c (Zcm (sz:=5) (e:=Zab.c) (d:=Zab.d) (([]:List Zab)++(b.take a.toNat)) ([f]:List Zab)) (.c s.1 (.c s.2 (.c (show (b.drop a.toNat).length=b.length-a.toNat/\∀i j,i<b.length-a.toNat->j<5->Zam Zab.c Zab.d (b.drop a.toNat) i j=Zam Zab.c Zab.d b (a.toNat+i) j from(ZlE _ _)) (.c l (.c (Zcm (sz:=5) (e:=Zab.c) (d:=Zab.d) ((([]:List Zab)++(b.take a.toNat))++([f]:List Zab)) (b.drop a.toNat)) (.c t.1 (.c t.2 .n))))))))))))))))))
def ZgS(a:List Zab)(c:Zab)(e:Int):Option ((List Zab)×Int):=(ZeD c).bind fun f=>bif(!f)then some (([]:(List Zab)),(1:Int))else(ZeC a c.fNet).bind fun b=>bif(decide (b>=(0:Int)))then need ((([]:List Zab)++a).length * 40<=140737488355328/\(([]:List Zab)++a).length<=maxLen)<|need (0<=b/\b<(((([]:List Zab)++a).length:Nat):Int))<|bif(decide (c.fUntil>((([]:List Zab)++a).getD b.toNat Zab.d).fUntil))then some (((([]:List Zab)++a).set b.toNat (Zab.mk (((([]:List Zab)++a).getD b.toNat Zab.d).fNet) c.fUntil)),(0:Int))else some ((([]:List Zab)++a),(0:Int))else bif(decide (((a.length:Nat):Int)>=e))then some (([]:(List Zab)),(5:Int))else ZdE a ((((a.length:Nat):Int)-(0:Int)).toNat+2) (0:Int) c
theorem ZpF(b:List Zab)(g:Zab)(q:Int)(r:((List Zab)×Int))(a:ZgS b g q=some r):ZaC Tryz.prog 163 [(Yl b),.agg (Zab.c g),(Yj q)] (.tup [(false,(cLs 5 Zab.c Zab.d) r.1),(false,(cI .i64) r.2)]):=by
 refine ZaC.of Tryz.func163 rfl rfl rfl rfl fun S0 w0=>?_;unfold ZgS at a;obtain⟨l,s,a⟩:=Zaf a;rcases Zai a with⟨m,a⟩|⟨m,a⟩
 ·apply Yb a 8 [rz,rA [(1,aB l)],rz] [true] [] [] [(6,[(0,cL 5 Zab.c Zab.d [])])] (.c (ZhQ _ _ s) (.c m .n))
 ·obtain⟨f,u,a⟩:=Zaf a;have O3:Obl _:=(.c (ZhQ _ _ s) (.c m (.c (ZhP _ _ _ u) .n)));rcases Zai a with⟨h,a⟩|⟨h,a⟩
  ·obtain⟨t,a⟩:=Zaq a;obtain⟨k,a⟩:=Zaq a
   let R4:List RA:=[rz,rA [(1,aB l)],rA [(3,aI f)],rz,rA [(0,.c ([]:List Zab).length (Zam Zab.c Zab.d ([]:List Zab))),(2,.c ((([]:List Zab)++b).length) (Zam Zab.c Zab.d (([]:List Zab)++b)))],rz]
   have O5:Obl _:=(O3.app (.c h (.c (show ([]:List Zab).length=0 from rfl) (.c (show ∀i j,i<0->j<5->Zam Zab.c Zab.d ([]:List Zab) i j=(([]:List Zab).flatMap Zab.c).getD (i * 5+j) .junk from(fun i j hi hj=>ZaP (sz:=5) (e:=Zab.c) (d:=Zab.d) (fun _=>rfl) ([]:List Zab) i j hi hj)) (.c (Zcm (sz:=5) (e:=Zab.c) (d:=Zab.d) ([]:List Zab) b) (.c t.1 (.c t.2 (.c k (.c (show f.toNat<(([]:List Zab)++b).length from(ltOf k)) .n)))))))));rcases Zai a with⟨o,a⟩|⟨o,a⟩
   ·apply Yb a 22 (R4++[rA [(6,.c ((([]:List Zab)++b).set f.toNat (Zab.mk (((([]:List Zab)++b).getD f.toNat Zab.d).fNet) g.fUntil)).length (Zam Zab.c Zab.d ((([]:List Zab)++b).set f.toNat (Zab.mk (((([]:List Zab)++b).getD f.toNat Zab.d).fNet) g.fUntil))))],rz]) [false,true,true] [23] [] [] (O5.app (.c o (.c k (.c (show ((([]:List Zab)++b).set f.toNat (Zab.mk (((([]:List Zab)++b).getD f.toNat Zab.d).fNet) g.fUntil)).length=(([]:List Zab)++b).length from List.length_set) (.c (show f.toNat<(([]:List Zab)++b).length from(ltOf k)) (.c (show ExtU 5 ((([]:List Zab)++b).length) (Zam Zab.c Zab.d (([]:List Zab)++b)) f.toNat 4 [.lit (.int .i64 g.fUntil)] (Zam Zab.c Zab.d ((([]:List Zab)++b).set f.toNat (Zab.mk (((([]:List Zab)++b).getD f.toNat Zab.d).fNet) g.fUntil)))from(ZAS _ _ _ _ _ rfl (Nat.le_of_ble_eq_true rfl))) .n))))))
   ·apply Yb a 22 (R4++[rz]) [false,true,false] [23] [] [] (O5.app (.c o .n))
  ·let R6:List RA:=[rz,rA [(1,aB l)],rA [(3,aI f)],rz,rz,rz]
   rcases Zai a with⟨p,a⟩|⟨p,a⟩
   ·apply Yb a 20 R6 [false,false,true] [] [] [(6,[(0,cL 5 Zab.c Zab.d [])])] (O3.app (.c h (.c p .n)))
   ·exact Ye 23 R6 [false,false,false] ⟨[],[],[],[],[],[0,4,10],[4],[]⟩ (O3.app (.c h (.c p .n))) (ZnN S0 w0 b ((((b.length:Nat):Int)-(0:Int)).toNat+2) (0:Int) g r a)
def ZcW:Nat->Int->Zao->Zag->Option Bool|0,_,_,_=>none|fu+1,a,b,c=>bif(decide (a<b.fBits))then(ZdV b.fAddr a).bind fun d=>(ZdV c a).bind fun e=>bif(d != e)then some false else ZcW fu (Zar a 1) b c else some true
theorem ZnO(S0:Nat->Prop)(w0:Zba):∀(f:Nat)(e:Int)(b:Zao)(d:Zag)(r:Bool),ZcW f e b d=some r->Good Tryz.prog 36 S0 w0 (bodyPost Tryz.prog Tryz.f240 (Post S0 w0 ((Yk r)))) (at_ [1,1,0,1,0] (ZaW Tryz.f240)) ⟨[(2,.one (.ptr 2 0)),(3,.one (.ptr 3 0)),(5,(Yj e))],[(2,.box [.lit (.bool b.fAddr.fV6),.lit (.int .u64 b.fAddr.fHi),.lit (.int .u64 b.fAddr.fLo),.lit (.int .i64 b.fBits)]),(3,.box [.lit (.bool d.fV6),.lit (.int .u64 d.fHi),.lit (.int .u64 d.fLo)])]⟩:=by
 intro f;induction f with
 |zero=>
  intro e b d r a;simp[ZcW]at a
 |succ f k=>
  intro e b d r a;unfold ZcW at a;rcases Zai a with⟨g,a⟩|⟨g,a⟩
  ·obtain⟨i,l,a⟩:=Zaf a;obtain⟨j,m,a⟩:=Zaf a;have O1:Obl _:=(.c g (.c (ZiB _ _ _ l) (.c (ZiB _ _ _ m) .n)));rcases Zai a with⟨h,a⟩|⟨h,a⟩
   ·apply Ya a 13 [rz,rA [(3,aI i),(6,aI j)],rz] [true,true] (O1.app (.c h .n))
   ·exact Ye 15 [rz,rA [(3,aI i),(6,aI j)],rz] [true,false] ⟨[],[],[],[],[],[2,3,5],[2,3],[]⟩ (O1.app (.c h .n)) (k (Zar e 1) b d r a)
  ·apply Ya a 8 [rz,rz] [false] (.c g .n)
def Zfv(a:Zao)(b:Zag):Option Bool:=(ZdR a).bind fun c=>bif(!c)then some false else(Zcf b).bind fun d=>bif(!d)then some false else bif(!(a.fAddr.fV6==b.fV6))then some false else ZcW 1000000 (0:Int) a b
theorem ZkW(d:Zao)(e:Zag)(r:Bool)(a:Zfv d e=some r):ZaC Tryz.prog 240 [.agg (Zao.c d),.agg (Zag.c e)] ((Yk r)):=by
 refine ZaC.of Tryz.func240 rfl rfl rfl rfl fun S0 w0=>?_;unfold Zfv at a;obtain⟨f,i,a⟩:=Zaf a;rcases Zai a with⟨g,a⟩|⟨g,a⟩
 ·apply Ya a 8 [rz,⟨[(1,aB f)],[(3,true)],[],[],[],[],[]⟩,rz] [true] (.c (Zev _ _ i) (.c g (.c (show true=true from rfl) .n)))
 ·obtain⟨j,k,a⟩:=Zaf a;have O2:Obl _:=(.c (Zev _ _ i) (.c g (.c (Zca _ _ k) .n)));rcases Zai a with⟨b,a⟩|⟨b,a⟩
  ·apply Ya a 8 [rz,⟨[(1,aB f),(5,aB j)],[(3,false),(8,true)],[],[],[],[],[]⟩,rz] [true] (O2.app (.c b (.c (show true=true from rfl) .n)))
  ·let R3:List RA:=[rz,⟨[(1,aB f),(5,aB j)],[(3,false),(8,false)],[],[],[],[],[]⟩,rz]
   rcases Zai a with⟨h,a⟩|⟨h,a⟩
   ·apply Ya a 8 R3 [true] (O2.app (.c b (.c h .n)))
   ·exact Ye 11 R3 [false] ⟨[],[],[],[],[],[2,3,5],[2,3],[]⟩ (O2.app (.c b (.c h .n))) (ZnO S0 w0 1000000 (0:Int) d e r a)
def Zdo(b:List Zaa)(e:Bool):Nat->Int->(List Zaa)->Zao->Option (List Zaa)|0,_,_,_=>none|fu+1,a,c,f=>bif(decide (a<((b.length:Nat):Int)))then need (0<=a/\a<((b.length:Nat):Int))<|(Zfv f (((b.getD a.toNat Zaa.d).fEnd).fAddr)).bind fun g=>bif(g==e)then need ((c++([(b.getD a.toNat Zaa.d)]:List Zaa)).length * 80<=140737488355328/\(c++([(b.getD a.toNat Zaa.d)]:List Zaa)).length<=maxLen)<|Zdo b e fu (Zar a 1) (c++([(b.getD a.toNat Zaa.d)]:List Zaa)) f else Zdo b e fu (Zar a 1) c f else some c
theorem Zot(S0:Nat->Prop)(w0:Zba)(f:List Zaa)(o:Bool):∀(k:Nat)(b:Int)(g:List Zaa)(h:Zao)(r:List Zaa),Zdo f o k b g h=some r->Good Tryz.prog 34 S0 w0 (bodyPost Tryz.prog Tryz.f185 (Zbk S0 w0 [(99999,.rows 44 10 r.length (Zam Zaa.c Zaa.d r))] (.one (.osl 99999 r.length)))) (at_ [1,1,0,1,0] (ZaW Tryz.f185)) ⟨[(0,(Yn f)),(2,(Yk o)),(4,.one (.ptr 4 0)),(7,.one (.osl 7 g.length)),(8,(Yj b))],[(7,.rows 44 10 g.length (Zam Zaa.c Zaa.d g)),(4,.box [.lit (.bool h.fAddr.fV6),.lit (.int .u64 h.fAddr.fHi),.lit (.int .u64 h.fAddr.fLo),.lit (.int .i64 h.fBits)])]⟩:=by
 intro k;induction k with
 |zero=>
  intro b g h r a;simp[Zdo]at a
 |succ k p=>
  intro b g h r a;unfold Zdo at a;rcases Zai a with⟨l,a⟩|⟨l,a⟩
  ·obtain⟨o2,a⟩:=Zaq a;obtain⟨q,t,a⟩:=Zaf a;have O1:Obl _:=(.c l (.c o2 (.c (ZkW _ _ _ t) .n)));rcases Zai a with⟨m,a⟩|⟨m,a⟩
   ·obtain⟨s,a⟩:=Zaq a;exact Ye 15 [rz,rA [(7,aB q)],⟨[(6,.c ((g++([(f.getD b.toNat Zaa.d)]:List Zaa)).length) (Zam Zaa.c Zaa.d (g++([(f.getD b.toNat Zaa.d)]:List Zaa))))],[],[],[],[],[(5,(([(f.getD b.toNat Zaa.d)]:List Zaa).length,Zam Zaa.c Zaa.d ([(f.getD b.toNat Zaa.d)]:List Zaa)))],[]⟩,rz] [true,true] ⟨[],[],[],[],[],[0,2,4,7,8],[32,4],[(32,7)]⟩ (O1.app (.c m (.c o2 (.c (show ([(f.getD b.toNat Zaa.d)]:List Zaa).length=1/\∀i j,i<1->j<10->Zam Zaa.c Zaa.d ([(f.getD b.toNat Zaa.d)]:List Zaa) i j=(([(f.getD b.toNat Zaa.d)]:List Zaa).flatMap Zaa.c).getD (i * 10+j) .junk from⟨rfl,fun i j hi hj=>ZaP (sz:=10) (e:=Zaa.c) (d:=Zaa.d) (fun _=>rfl) ([(f.getD b.toNat Zaa.d)]:List Zaa) i j hi hj⟩) (.c (Zcm (sz:=10) (e:=Zaa.c) (d:=Zaa.d) g ([(f.getD b.toNat Zaa.d)]:List Zaa)) (.c s.1 (.c s.2 .n))))))) (p (Zar b 1) (g++([(f.getD b.toNat Zaa.d)]:List Zaa)) h r a)
   ·exact Ye 15 [rz,rA [(7,aB q)],rz] [true,false] ⟨[],[],[],[],[],[0,2,4,7,8],[7,4],[]⟩ (O1.app (.c m .n)) (p (Zar b 1) g h r a)
  ·apply Yc a 8 [rz,rz] [false] ⟨[],[],[],[],[],[6],[7],[(7,99999)]⟩ (.c l .n)
def Zgc(a:List Zaa)(b:Zao)(c:Bool):Option (List Zaa):=Zdo a c ((((a.length:Nat):Int)-(0:Int)).toNat+2) (0:Int) ([]:List Zaa) b
theorem ZpD(a:List Zaa)(b:Zao)(f:Bool)(r:List Zaa)(g:Zgc a b f=some r):Zcu Tryz.prog 185 [] [(Yn a),.agg (Zao.c b),(Yk f)] [(99999,.rows 44 10 r.length (Zam Zaa.c Zaa.d r))] (.one (.osl 99999 r.length)):=by
 refine Zcu.of Tryz.func185 rfl rfl rfl rfl fun S0 w0=>?_;unfold Zgc at g;exact Ye 8 [rz,rA [(0,.c ([]:List Zaa).length (Zam Zaa.c Zaa.d ([]:List Zaa)))],rz] [] ⟨[],[],[],[],[],[0,2,4,7,8],[9,4],[(9,7)]⟩ (.c (show ([]:List Zaa).length=0 from rfl) (.c (show ∀i j,i<0->j<10->Zam Zaa.c Zaa.d ([]:List Zaa) i j=(([]:List Zaa).flatMap Zaa.c).getD (i * 10+j) .junk from(fun i j hi hj=>ZaP (sz:=10) (e:=Zaa.c) (d:=Zaa.d) (fun _=>rfl) ([]:List Zaa) i j hi hj)) .n)) (Zot S0 w0 a f ((((a.length:Nat):Int)-(0:Int)).toNat+2) (0:Int) ([]:List Zaa) b r g)
theorem Zlr(a:List Zaa)(b:Zao)(d:Bool)(r:List Zaa)(e:Zgc a b d=some r):ZaC Tryz.prog 185 [(Yn a),.agg (Zao.c b),(Yk d)] ((Yn r)):=(ZpD a b d r e).pure
def Zds(b:List Zaa):Nat->Int->(List Zah)->Option (List Zah)|0,_,_=>none|fu+1,a,c=>bif(decide (a<((b.length:Nat):Int)))then need (0<=a/\a<((b.length:Nat):Int))<|need ((c++([(b.getD a.toNat Zaa.d).fEnd]:List Zah)).length * 32<=140737488355328/\(c++([(b.getD a.toNat Zaa.d).fEnd]:List Zah)).length<=maxLen)<|Zds b fu (Zar a 1) (c++([(b.getD a.toNat Zaa.d).fEnd]:List Zah))else some c
theorem Znh(S0:Nat->Prop)(w0:Zba)(b:List Zaa):∀(h:Nat)(a:Int)(g r:List Zah),Zds b h a g=some r->Good Tryz.prog 21 S0 w0 (bodyPost Tryz.prog Tryz.f238 (Zbk S0 w0 [(99999,.rows 30 4 r.length (Zam Zah.c Zah.d r))] (.one (.osl 99999 r.length)))) (at_ [1,1,0,1,0] (ZaW Tryz.f238)) ⟨[(0,(Yn b)),(3,.one (.osl 3 g.length)),(4,(Yj a))],[(3,.rows 30 4 g.length (Zam Zah.c Zah.d g))]⟩:=by
 intro h;induction h with
 |zero=>
  intro a g r f;simp[Zds]at f
 |succ h m=>
  intro a g r f;unfold Zds at f;rcases Zai f with⟨k,f⟩|⟨k,f⟩
  ·obtain⟨o2,f⟩:=Zaq f;obtain⟨l,f⟩:=Zaq f;exact Ye 12 [rz,⟨[(7,.c ((g++([(b.getD a.toNat Zaa.d).fEnd]:List Zah)).length) (Zam Zah.c Zah.d (g++([(b.getD a.toNat Zaa.d).fEnd]:List Zah))))],[],[],[],[],[(6,(([(b.getD a.toNat Zaa.d).fEnd]:List Zah).length,Zam Zah.c Zah.d ([(b.getD a.toNat Zaa.d).fEnd]:List Zah)))],[]⟩,rz] [true] ⟨[],[],[],[],[],[0,3,4],[19],[(19,3)]⟩ (.c k (.c o2 (.c (show ([(b.getD a.toNat Zaa.d).fEnd]:List Zah).length=1/\∀i j,i<1->j<4->Zam Zah.c Zah.d ([(b.getD a.toNat Zaa.d).fEnd]:List Zah) i j=(([(b.getD a.toNat Zaa.d).fEnd]:List Zah).flatMap Zah.c).getD (i * 4+j) .junk from⟨rfl,fun i j hi hj=>ZaP (sz:=4) (e:=Zah.c) (d:=Zah.d) (fun _=>rfl) ([(b.getD a.toNat Zaa.d).fEnd]:List Zah) i j hi hj⟩) (.c (Zcm (sz:=4) (e:=Zah.c) (d:=Zah.d) g ([(b.getD a.toNat Zaa.d).fEnd]:List Zah)) (.c l.1 (.c l.2 .n)))))) (m (Zar a 1) (g++([(b.getD a.toNat Zaa.d).fEnd]:List Zah)) r f)
  ·apply Yc f 8 [rz,rz] [false] ⟨[],[],[],[],[],[2],[3],[(3,99999)]⟩ (.c k .n)
def Zgg(a:List Zaa):Option (List Zah):=Zds a ((((a.length:Nat):Int)-(0:Int)).toNat+2) (0:Int) ([]:List Zah)
theorem Zom(a:List Zaa)(r:List Zah)(b:Zgg a=some r):Zcu Tryz.prog 238 [] [(Yn a)] [(99999,.rows 30 4 r.length (Zam Zah.c Zah.d r))] (.one (.osl 99999 r.length)):=by
 refine Zcu.of Tryz.func238 rfl rfl rfl rfl fun S0 w0=>?_;unfold Zgg at b;exact Ye 8 [rz,rA [(0,.c ([]:List Zah).length (Zam Zah.c Zah.d ([]:List Zah)))],rz] [] ⟨[],[],[],[],[],[0,3,4],[5],[(5,3)]⟩ (.c (show ([]:List Zah).length=0 from rfl) (.c (show ∀i j,i<0->j<4->Zam Zah.c Zah.d ([]:List Zah) i j=(([]:List Zah).flatMap Zah.c).getD (i * 4+j) .junk from(fun i j hi hj=>ZaP (sz:=4) (e:=Zah.c) (d:=Zah.d) (fun _=>rfl) ([]:List Zah) i j hi hj)) .n)) (Znh S0 w0 a ((((a.length:Nat):Int)-(0:Int)).toNat+2) (0:Int) ([]:List Zah) r b)
theorem ZoV(a:List Zaa)(r:List Zah)(b:Zgg a=some r):ZaC Tryz.prog 238 [(Yn a)] ((Yo r)):=(Zom a r b).pure
def ZcV(b:List Zah):Nat->Int->Zah->Option Bool|0,_,_=>none|fu+1,a,c=>bif(decide (a<((b.length:Nat):Int)))then need (0<=a/\a<((b.length:Nat):Int))<|bif(decide ((b.getD a.toNat Zah.d)=c))then some true else ZcV b fu (Zar a 1) c else some false
theorem ZnM(S0:Nat->Prop)(w0:Zba)(f:List Zah):∀(g:Nat)(e:Int)(b:Zah)(r:Bool),ZcV f g e b=some r->Good Tryz.prog 18 S0 w0 (bodyPost Tryz.prog Tryz.f239 (Post S0 w0 ((Yk r)))) (at_ [1,0,1,0] (ZaW Tryz.f239)) ⟨[(0,(Yo f)),(3,.one (.ptr 3 0)),(5,(Yj e))],[(3,.box [.lit (.bool b.fAddr.fV6),.lit (.int .u64 b.fAddr.fHi),.lit (.int .u64 b.fAddr.fLo),.lit (.int .i64 b.fPort)])]⟩:=by
 intro g;induction g with
 |zero=>
  intro e b r a;simp[ZcV]at a
 |succ g j=>
  intro e b r a;unfold ZcV at a;rcases Zai a with⟨h,a⟩|⟨h,a⟩
  ·obtain⟨o2,a⟩:=Zaq a
   let R1:List RA:=[rz,rA [(5,aB (decide ((f.getD e.toNat Zah.d)=b)))],rz]
   have O2:Obl _:=(.c h (.c o2 (.c (Zkg (f.getD e.toNat Zah.d) b (.tmp 15) (.tmp 16)) .n)));rcases Zai a with⟨i,a⟩|⟨i,a⟩
   ·apply Ya a 13 R1 [true,true] (O2.app (.c i .n))
   ·exact Ye 15 R1 [true,false] ⟨[],[],[],[],[],[0,3,5],[3],[]⟩ (O2.app (.c i .n)) (j (Zar e 1) b r a)
  ·apply Ya a 8 [rz,rz] [false] (.c h .n)
def ZgR(a:List Zah)(b:Zah):Option Bool:=ZcV a ((((a.length:Nat):Int)-(0:Int)).toNat+2) (0:Int) b
theorem ZpE(a:List Zah)(b:Zah)(r:Bool)(d:ZgR a b=some r):ZaC Tryz.prog 239 [(Yo a),.agg (Zah.c b)] ((Yk r)):=by
 refine ZaC.of Tryz.func239 rfl rfl rfl rfl fun S0 w0=>?_;unfold ZgR at d;exact Ye 6 [rz,rz] [] ⟨[],[],[],[],[],[0,3,5],[3],[]⟩ .n (ZnM S0 w0 a ((((a.length:Nat):Int)-(0:Int)).toNat+2) (0:Int) b r d)
def Zcd(c:List Zah):Nat->Int->(List Zac)->Option (List Zac)|0,_,_=>none|fu+1,a,b=>bif(decide (a<((b.length:Nat):Int)))then need (0<=a/\a<((b.length:Nat):Int))<|bif((b.getD a.toNat Zac.d).fState==(3:Int))then(ZgR c ((b.getD a.toNat Zac.d).fEnd)).bind fun e=>bif e then Zcd c fu (Zar a 1) (b.set a.toNat (Zac.mk ((b.getD a.toNat Zac.d).fEnd) 1 ((b.getD a.toNat Zac.d).fFails) ((b.getD a.toNat Zac.d).fNext)))else Zcd c fu (Zar a 1) b else Zcd c fu (Zar a 1) b else some b
theorem Znl(S0:Nat->Prop)(w0:Zba)(l:List Zah):∀(g:Nat)(b:Int)(a r:List Zac),Zcd l g b a=some r->Good Tryz.prog 36 S0 w0 (bodyPost Tryz.prog Tryz.f167 (Zbk S0 w0 [(99999,.rows 106 7 r.length (Zam Zac.c Zac.d r))] (.one (.osl 99999 r.length)))) (at_ [1,1,0,1,0] (ZaW Tryz.f167)) ⟨[(1,(Yo l)),(5,.one (.osl 9 a.length)),(6,(Yj b))],[(9,.rows 106 7 a.length (Zam Zac.c Zac.d a))]⟩:=by
 intro g;induction g with
 |zero=>
  intro b a r e;simp[Zcd]at e
 |succ g h=>
  intro b a r e;unfold Zcd at e;rcases Zai e with⟨i,e⟩|⟨i,e⟩
  ·obtain⟨f,e⟩:=Zaq e;have O1:Obl _:=(.c i (.c f (.c (show b.toNat<a.length from(ltOf f)) .n)));rcases Zai e with⟨j,e⟩|⟨j,e⟩
   ·obtain⟨m,o,e⟩:=Zaf e
    let R2:List RA:=[rz,⟨[(13,aB m)],[(6,true)],[],[],[],[],[]⟩]
    have O3:Obl _:=(O1.app (.c j (.c f (.c (show b.toNat<a.length from(ltOf f)) (.c (ZpE _ _ _ o) .n)))));rcases Zai e with⟨k,e⟩|⟨k,e⟩
    ·exact Ye 15 (R2++[rA [(4,.c (a.set b.toNat (Zac.mk ((a.getD b.toNat Zac.d).fEnd) 1 ((a.getD b.toNat Zac.d).fFails) ((a.getD b.toNat Zac.d).fNext))).length (Zam Zac.c Zac.d (a.set b.toNat (Zac.mk ((a.getD b.toNat Zac.d).fEnd) 1 ((a.getD b.toNat Zac.d).fFails) ((a.getD b.toNat Zac.d).fNext)))))],rz]) [true,true] ⟨[],[],[],[(9,((a.set b.toNat (Zac.mk ((a.getD b.toNat Zac.d).fEnd) 1 ((a.getD b.toNat Zac.d).fFails) ((a.getD b.toNat Zac.d).fNext))).length))],[],[1,5,6],[9],[]⟩ (O3.app (.c k (.c f (.c (show (a.set b.toNat (Zac.mk ((a.getD b.toNat Zac.d).fEnd) 1 ((a.getD b.toNat Zac.d).fFails) ((a.getD b.toNat Zac.d).fNext))).length=a.length from List.length_set) (.c (show b.toNat<a.length from(ltOf f)) (.c (show ExtU 7 a.length (Zam Zac.c Zac.d a) b.toNat 4 [.lit (.int .i64 (1:Int))] (Zam Zac.c Zac.d (a.set b.toNat (Zac.mk ((a.getD b.toNat Zac.d).fEnd) 1 ((a.getD b.toNat Zac.d).fFails) ((a.getD b.toNat Zac.d).fNext))))from(ZAS _ _ _ _ _ rfl (Nat.le_of_ble_eq_true rfl))) (.c (show (a.set b.toNat (Zac.mk ((a.getD b.toNat Zac.d).fEnd) 1 ((a.getD b.toNat Zac.d).fFails) ((a.getD b.toNat Zac.d).fNext))).length=(a.set b.toNat (Zac.mk ((a.getD b.toNat Zac.d).fEnd) 1 ((a.getD b.toNat Zac.d).fFails) ((a.getD b.toNat Zac.d).fNext))).length from rfl) .n))))))) (h (Zar b 1) (a.set b.toNat (Zac.mk ((a.getD b.toNat Zac.d).fEnd) 1 ((a.getD b.toNat Zac.d).fFails) ((a.getD b.toNat Zac.d).fNext))) r e)
    ·exact Ye 15 (R2++[rz]) [true,false] ⟨[],[],[],[],[],[1,5,6],[9],[]⟩ (O3.app (.c k .n)) (h (Zar b 1) a r e)
   ·exact Ye 15 [rz,rB [(6,false)],rz] [true,false] ⟨[],[],[],[],[],[1,5,6],[9],[]⟩ (O1.app (.c j (.c (show false=false from rfl) .n))) (h (Zar b 1) a r e)
  ·apply Yc e 8 [rz,rz] [false] ⟨[],[],[],[],[],[4],[9],[(9,99999)]⟩ (.c i .n)
def ZeY(a:List Zac)(b:List Zah):Option (List Zac):=need ((([]:List Zac)++a).length * 56<=140737488355328/\(([]:List Zac)++a).length<=maxLen)<|Zcd b (((((([]:List Zac)++a).length:Nat):Int)-(0:Int)).toNat+2) (0:Int) (([]:List Zac)++a)
theorem Zov(a:List Zac)(f:List Zah)(r:List Zac)(b:ZeY a f=some r):Zcu Tryz.prog 167 [] [(Ym a),(Yo f)] [(99999,.rows 106 7 r.length (Zam Zac.c Zac.d r))] (.one (.osl 99999 r.length)):=by
 refine Zcu.of Tryz.func167 rfl rfl rfl rfl fun S0 w0=>?_;unfold ZeY at b;obtain⟨o1,b⟩:=Zaq b;exact Ye 8 [rz,rA [(0,.c ([]:List Zac).length (Zam Zac.c Zac.d ([]:List Zac))),(2,.c ((([]:List Zac)++a).length) (Zam Zac.c Zac.d (([]:List Zac)++a)))],rz] [] ⟨[],[],[],[],[],[1,5,6],[9],[]⟩ (.c (show ([]:List Zac).length=0 from rfl) (.c (show ∀i j,i<0->j<7->Zam Zac.c Zac.d ([]:List Zac) i j=(([]:List Zac).flatMap Zac.c).getD (i * 7+j) .junk from(fun i j hi hj=>ZaP (sz:=7) (e:=Zac.c) (d:=Zac.d) (fun _=>rfl) ([]:List Zac) i j hi hj)) (.c (Zcm (sz:=7) (e:=Zac.c) (d:=Zac.d) ([]:List Zac) a) (.c o1.1 (.c o1.2 .n))))) (Znl S0 w0 f (((((([]:List Zac)++a).length:Nat):Int)-(0:Int)).toNat+2) (0:Int) (([]:List Zac)++a) r b)
theorem Zpb(a:List Zac)(b:List Zah)(r:List Zac)(c:ZeY a b=some r):ZaC Tryz.prog 167 [(Ym a),(Yo b)] ((Ym r)):=(Zov a b r c).pure
def Zgh(a:Zas)(b:Zao):Option (Zas×Int):=(Zgc a.fPeers b true).bind fun c=>(Zgc a.fPeers b false).bind fun d=>(Zgg c).bind fun e=>(ZeY a.fBook e).bind fun f=>some ((Zas.mk a.fBans f d),((c.length:Nat):Int))
theorem ZoX(b:Zas)(d:Zao)(r:(Zas×Int))(a:Zgh b d=some r):ZaC Tryz.prog 164 [.agg (Zas.c b),.agg (Zao.c d)] (.tup [(true,Zas.c r.1),(false,(cI .i64) r.2)]):=by
 refine ZaC.of Tryz.func164 rfl rfl rfl rfl fun S0 w0=>?_;unfold Zgh at a;obtain⟨e,f,a⟩:=Zaf a;obtain⟨g,h,a⟩:=Zaf a;obtain⟨i,j,a⟩:=Zaf a;obtain⟨k,l,a⟩:=Zaf a;apply Ya a 10 [rz,rA [(3,.r ((Yn e)) [])],rA [(3,.r ((Yn g)) [])],rA [(3,.r ((Yo i)) []),(4,.r ((Ym k)) [])],rz] [] (.c (Zlr _ _ _ _ f) (.c (Zlr _ _ _ _ h) (.c (ZoV _ _ j) (.c (Zpb _ _ _ l) .n))))
def Zgj(b:List Zab)(c:Zao):Option ((List Zab)×Int):=(ZeC b c).bind fun a=>bif(decide (a<(0:Int)))then some (([]:(List Zab)),(6:Int))else need (0<=a/\a<=((b.length:Nat):Int))<|need ((([]:List Zab)++(b.take a.toNat)).length * 40<=140737488355328/\(([]:List Zab)++(b.take a.toNat)).length<=maxLen)<|need (0<=(Zar a 1)/\(Zar a 1)<=((b.length:Nat):Int))<|need (((([]:List Zab)++(b.take a.toNat))++(b.drop (Zar a 1).toNat)).length * 40<=140737488355328/\((([]:List Zab)++(b.take a.toNat))++(b.drop (Zar a 1).toNat)).length<=maxLen)<|some (((([]:List Zab)++(b.take a.toNat))++(b.drop (Zar a 1).toNat)),(0:Int))
theorem Zpc(b:List Zab)(h:Zao)(r:((List Zab)×Int))(f:Zgj b h=some r):ZaC Tryz.prog 165 [(Yl b),.agg (Zao.c h)] (.tup [(false,(cLs 5 Zab.c Zab.d) r.1),(false,(cI .i64) r.2)]):=by
 refine ZaC.of Tryz.func165 rfl rfl rfl rfl fun S0 w0=>?_;unfold Zgj at f;obtain⟨a,k,f⟩:=Zaf f;rcases Zai f with⟨g,f⟩|⟨g,f⟩
 ·apply Yb f 10 [rz,rA [(2,aI a)],rz,rz] [true] [] [] [(4,[(0,cL 5 Zab.c Zab.d [])])] (.c (ZhP _ _ _ k) (.c g .n))
 ·obtain⟨l,f⟩:=Zaq f;obtain⟨m,f⟩:=Zaq f;obtain⟨p,f⟩:=Zaq f;obtain⟨o,f⟩:=Zaq f;apply Yb f 11 [rz,rA [(2,aI a)],rz,⟨[(0,.c ([]:List Zab).length (Zam Zab.c Zab.d ([]:List Zab))),(4,.c ((([]:List Zab)++(b.take a.toNat)).length) (Zam Zab.c Zab.d (([]:List Zab)++(b.take a.toNat)))),(9,.c (((([]:List Zab)++(b.take a.toNat))++(b.drop (Zar a 1).toNat)).length) (Zam Zab.c Zab.d ((([]:List Zab)++(b.take a.toNat))++(b.drop (Zar a 1).toNat))))],[],[],[],[],[(3,((b.take a.toNat).length,Zam Zab.c Zab.d (b.take a.toNat))),(8,((b.drop (Zar a 1).toNat).length,Zam Zab.c Zab.d (b.drop (Zar a 1).toNat)))],[]⟩] [false] [21] [] [] (.c (ZhP _ _ _ k) (.c g (.c (show ([]:List Zab).length=0 from rfl) (.c (show ∀i j,i<0->j<5->Zam Zab.c Zab.d ([]:List Zab) i j=(([]:List Zab).flatMap Zab.c).getD (i * 5+j) .junk from(fun i j hi hj=>ZaP (sz:=5) (e:=Zab.c) (d:=Zab.d) (fun _=>rfl) ([]:List Zab) i j hi hj)) (.c (show (b.take a.toNat).length=a.toNat/\∀i j,i<a.toNat->j<5->Zam Zab.c Zab.d (b.take a.toNat) i j=Zam Zab.c Zab.d b i j from(Znu _ _ l)) (.c l (.c (Zcm (sz:=5) (e:=Zab.c) (d:=Zab.d) ([]:List Zab) (b.take a.toNat)) (.c m.1 (.c m.2 (.c (show (b.drop (Zar a 1).toNat).length=b.length-(Zar a 1).toNat/\∀i j,i<b.length-(Zar a 1).toNat->j<5->Zam Zab.c Zab.d (b.drop (Zar a 1).toNat) i j=Zam Zab.c Zab.d b ((Zar a 1).toNat+i) j from(ZlE _ _)) (.c p (.c (Zcm (sz:=5) (e:=Zab.c) (d:=Zab.d) (([]:List Zab)++(b.take a.toNat)) (b.drop (Zar a 1).toNat)) (.c o.1 (.c o.2 .n))))))))))))))
def Zgk(a:Zab)(b:Zag)(c:Int):Option Bool:=bif(decide (a.fUntil>c))then(Zfv a.fNet b).bind fun d=>some d else some false
theorem Zpd(d:Zab)(e:Zag)(f:Int)(r:Bool)(a:Zgk d e f=some r):ZaC Tryz.prog 171 [.agg (Zab.c d),.agg (Zag.c e),(Yj f)] ((Yk r)):=by
 refine ZaC.of Tryz.func171 rfl rfl rfl rfl fun S0 w0=>?_;unfold Zgk at a;rcases Zai a with⟨b,a⟩|⟨b,a⟩
 ·obtain⟨g,h,a⟩:=Zaf a;apply Ya a 4 [rz,⟨[(8,aB g)],[(4,true)],[],[],[],[],[]⟩] [] (.c b (.c (ZkW _ _ _ h) .n))
 ·apply Ya a 4 [rz,rB [(4,false)]] [] (.c b .n)
def ZbJ(b:List Zab)(c:Int):Nat->Int->Bool->Int->Zag->Option Int|0,_,_,_,_=>none|fu+1,f,g,a,e=>bif(decide (a<((b.length:Nat):Int)))then need (0<=a/\a<((b.length:Nat):Int))<|(Zgk (b.getD a.toNat Zab.d) e c).bind fun h=>bif h then bif(!g)then ZbJ b c fu ((b.getD a.toNat Zab.d).fUntil) true (Zar a 1) e else bif(decide ((b.getD a.toNat Zab.d).fUntil>f))then ZbJ b c fu ((b.getD a.toNat Zab.d).fUntil) true (Zar a 1) e else ZbJ b c fu f g (Zar a 1) e else ZbJ b c fu f g (Zar a 1) e else some f
theorem ZmI(S0:Nat->Prop)(w0:Zba)(i:List Zab)(q:Int):∀(j:Nat)(f:Int)(g:Bool)(b:Int)(e:Zag)(r:Int),ZbJ i q j f g b e=some r->Good Tryz.prog 42 S0 w0 (bodyPost Tryz.prog Tryz.f92 (Post S0 w0 ((Yj r)))) (at_ [1,1,0,1,0] (ZaW Tryz.f92)) ⟨[(0,(Yl i)),(2,(Yj q)),(4,.one (.ptr 4 0)),(7,(Yj f)),(8,(Yk g)),(9,(Yj b))],[(4,.box [.lit (.bool e.fV6),.lit (.int .u64 e.fHi),.lit (.int .u64 e.fLo)])]⟩:=by
 intro j;induction j with
 |zero=>
  intro f g b e r a;simp[ZbJ]at a
 |succ j k=>
  intro f g b e r a;unfold ZbJ at a;rcases Zai a with⟨m,a⟩|⟨m,a⟩
  ·obtain⟨o2,a⟩:=Zaq a;obtain⟨o,s,a⟩:=Zaf a;have O1:Obl _:=(.c m (.c o2 (.c (Zpd _ _ _ _ s) .n)));rcases Zai a with⟨h,a⟩|⟨h,a⟩
   ·rcases Zai a with⟨l,a⟩|⟨l,a⟩
    ·exact Ye 17 [rz,⟨[(6,aB o)],[(7,true),(10,true)],[],[],[],[],[]⟩,rz,rz,rz] [true,true] ⟨[],[],[],[],[],[0,2,4,7,8,9],[4],[]⟩ (O1.app (.c h (.c l (.c (show true=true from rfl) (.c o2 .n))))) (k ((i.getD b.toNat Zab.d).fUntil) true (Zar b 1) e r a)
    ·let R2:List RA:=[rz,⟨[(6,aB o)],[(7,true),(10,false)],[],[],[],[],[]⟩,rz]
     rcases Zai a with⟨p,a⟩|⟨p,a⟩
     ·exact Ye 17 (R2++[rz,rz]) [true,true] ⟨[],[],[],[],[],[0,2,4,7,8,9],[4],[]⟩ (O1.app (.c h (.c l (.c o2 (.c p (.c o2 .n)))))) (k ((i.getD b.toNat Zab.d).fUntil) true (Zar b 1) e r a)
     ·exact Ye 15 R2 [true,false] ⟨[],[],[],[],[],[0,2,4,7,8,9],[4],[]⟩ (O1.app (.c h (.c l (.c o2 (.c p .n))))) (k f g (Zar b 1) e r a)
   ·exact Ye 15 [rz,⟨[(6,aB o)],[(7,false)],[],[],[],[],[]⟩,rz] [true,false] ⟨[],[],[],[],[],[0,2,4,7,8,9],[4],[]⟩ (O1.app (.c h (.c (show false=false from rfl) .n))) (k f g (Zar b 1) e r a)
  ·apply Ya a 8 [rz,rz] [false] (.c m .n)
def ZfM(a:List Zab)(b:Zag)(c:Int):Option Int:=ZbJ a c ((((a.length:Nat):Int)-(0:Int)).toNat+2) (0:Int) false (0:Int) b
theorem Zoz(a:List Zab)(b:Zag)(d r:Int)(e:ZfM a b d=some r):ZaC Tryz.prog 92 [(Yl a),.agg (Zag.c b),(Yj d)] ((Yj r)):=by
 refine ZaC.of Tryz.func92 rfl rfl rfl rfl fun S0 w0=>?_;unfold ZfM at e;exact Ye 8 [rz,rz,rz] [] ⟨[],[],[],[],[],[0,2,4,7,8,9],[4],[]⟩ .n (ZmI S0 w0 a d ((((a.length:Nat):Int)-(0:Int)).toNat+2) (0:Int) false (0:Int) b r e)
def ZcG(a:List Zab)(e:Int):Nat->Int->(List Zab)->Option ((List Zab)×Int)|0,_,_=>none|fu+1,b,c=>bif(decide (b<((a.length:Nat):Int)))then need (0<=b/\b<((a.length:Nat):Int))<|bif(decide ((a.getD b.toNat Zab.d).fUntil>e))then need ((c++([(a.getD b.toNat Zab.d)]:List Zab)).length * 40<=140737488355328/\(c++([(a.getD b.toNat Zab.d)]:List Zab)).length<=maxLen)<|ZcG a e fu (Zar b 1) (c++([(a.getD b.toNat Zab.d)]:List Zab))else ZcG a e fu (Zar b 1) c else some (c,(ZaV ((a.length:Nat):Int) ((c.length:Nat):Int)))
theorem ZmJ(S0:Nat->Prop)(w0:Zba)(f:List Zab)(m:Int):∀(h:Nat)(a:Int)(g:List Zab)(r:((List Zab)×Int)),ZcG f m h a g=some r->Good Tryz.prog 35 S0 w0 (bodyPost Tryz.prog Tryz.f166 (Post S0 w0 (.tup [(false,(cLs 5 Zab.c Zab.d) r.1),(false,(cI .i64) r.2)]))) (at_ [1,1,0,1,0] (ZaW Tryz.f166)) ⟨[(0,(Yl f)),(1,(Yj m)),(6,.one (.osl 6 g.length)),(7,(Yj a))],[(6,.rows 146 5 g.length (Zam Zab.c Zab.d g))]⟩:=by
 intro h;induction h with
 |zero=>
  intro a g r b;simp[ZcG]at b
 |succ h o=>
  intro a g r b;unfold ZcG at b;rcases Zai b with⟨k,b⟩|⟨k,b⟩
  ·obtain⟨o2,b⟩:=Zaq b;rcases Zai b with⟨l,b⟩|⟨l,b⟩
   ·obtain⟨p,b⟩:=Zaq b;exact Ye 15 [rz,rz,⟨[(6,.c ((g++([(f.getD a.toNat Zab.d)]:List Zab)).length) (Zam Zab.c Zab.d (g++([(f.getD a.toNat Zab.d)]:List Zab))))],[],[],[],[],[(5,(([(f.getD a.toNat Zab.d)]:List Zab).length,Zam Zab.c Zab.d ([(f.getD a.toNat Zab.d)]:List Zab)))],[]⟩,rz] [true,true] ⟨[],[],[],[],[],[0,1,6,7],[28],[(28,6)]⟩ (.c k (.c o2 (.c l (.c o2 (.c (show ([(f.getD a.toNat Zab.d)]:List Zab).length=1/\∀i j,i<1->j<5->Zam Zab.c Zab.d ([(f.getD a.toNat Zab.d)]:List Zab) i j=(([(f.getD a.toNat Zab.d)]:List Zab).flatMap Zab.c).getD (i * 5+j) .junk from⟨rfl,fun i j hi hj=>ZaP (sz:=5) (e:=Zab.c) (d:=Zab.d) (fun _=>rfl) ([(f.getD a.toNat Zab.d)]:List Zab) i j hi hj⟩) (.c (Zcm (sz:=5) (e:=Zab.c) (d:=Zab.d) g ([(f.getD a.toNat Zab.d)]:List Zab)) (.c p.1 (.c p.2 .n)))))))) (o (Zar a 1) (g++([(f.getD a.toNat Zab.d)]:List Zab)) r b)
   ·exact Ye 15 [rz,rz,rz] [true,false] ⟨[],[],[],[],[],[0,1,6,7],[6],[]⟩ (.c k (.c o2 (.c l .n))) (o (Zar a 1) g r b)
  ·apply Yb b 8 [rz,rz] [false] [6] [] [] (.c k .n)
def ZfN(a:List Zab)(b:Int):Option ((List Zab)×Int):=ZcG a b ((((a.length:Nat):Int)-(0:Int)).toNat+2) (0:Int) ([]:List Zab)
theorem ZoA(a:List Zab)(b:Int)(r:((List Zab)×Int))(f:ZfN a b=some r):ZaC Tryz.prog 166 [(Yl a),(Yj b)] (.tup [(false,(cLs 5 Zab.c Zab.d) r.1),(false,(cI .i64) r.2)]):=by
 refine ZaC.of Tryz.func166 rfl rfl rfl rfl fun S0 w0=>?_;unfold ZfN at f;exact Ye 8 [rz,rA [(0,.c ([]:List Zab).length (Zam Zab.c Zab.d ([]:List Zab)))],rz] [] ⟨[],[],[],[],[],[0,1,6,7],[8],[(8,6)]⟩ (.c (show ([]:List Zab).length=0 from rfl) (.c (show ∀i j,i<0->j<5->Zam Zab.c Zab.d ([]:List Zab) i j=(([]:List Zab).flatMap Zab.c).getD (i * 5+j) .junk from(fun i j hi hj=>ZaP (sz:=5) (e:=Zab.c) (d:=Zab.d) (fun _=>rfl) ([]:List Zab) i j hi hj)) .n)) (ZmJ S0 w0 a b ((((a.length:Nat):Int)-(0:Int)).toNat+2) (0:Int) ([]:List Zab) r f)
def ZdC(g:ZaA)(a:Zas)(b:Zaz):Option (Zas×Zap):=bif(b.fKind==(6:Int))then bif(decide (b.fNum<=b.fNow))then(Zem (3:Int)).bind fun h=>some (a,h)else(ZgS a.fBans (Zab.mk b.fNet b.fNum) g.fMaxBans).bind fun d=>bif(d.2 != (0:Int))then(Zem d.2).bind fun i=>some (a,i)else(Zgh (Zas.mk d.1 a.fBook a.fPeers) b.fNet).bind fun e=>some (e.1,(Zap.mk 0 (Zah.mk (Zag.mk false 0 0) 0) e.2 0 ([]:(List Zaa))))else bif(b.fKind==(7:Int))then(Zgj a.fBans b.fNet).bind fun c=>bif(c.2==(0:Int))then(Zem c.2).bind fun j=>some ((Zas.mk c.1 a.fBook a.fPeers),j)else(Zem c.2).bind fun k=>some (a,k)else bif(b.fKind==(8:Int))then(ZfM a.fBans b.fEnd.fAddr b.fNow).bind fun l=>some (a,(Zap.mk 0 (Zah.mk (Zag.mk false 0 0) 0) 0 l ([]:(List Zaa))))else(ZfN a.fBans b.fNow).bind fun f=>some ((Zas.mk f.1 a.fBook a.fPeers),(Zap.mk 0 (Zah.mk (Zag.mk false 0 0) 0) f.2 0 ([]:(List Zaa))))
theorem ZoW(o:ZaA)(p:Zas)(q:Zaz)(r:(Zas×Zap))(a:ZdC o p q=some r):ZaC Tryz.prog 76 [.agg (ZaA.c o),.agg (Zas.c p),.agg (Zaz.c q)] (.tup [(true,Zas.c r.1),(true,Zap.c r.2)]):=by
 refine ZaC.of Tryz.func76 rfl rfl rfl rfl fun S0 w0=>?_;unfold ZdC at a;rcases Zai a with⟨f,a⟩|⟨f,a⟩
 ·rcases Zai a with⟨h,a⟩|⟨h,a⟩
  ·obtain⟨w,x,a⟩:=Zaf a;apply Ya a 15 [rz,rz,rz,rz,rA [(1,aG (Zap.c w))]] [true,true] (.c f (.c h (.c (ZfC _ _ x) .n)))
  ·obtain⟨s,y,a⟩:=Zaf a
   let R1:List RA:=[rz,rz,rz,rz,rA [(9,.r (.tup [(false,(cLs 5 Zab.c Zab.d) s.1),(false,(cI .i64) s.2)]) [])],rz]
   have O2:Obl _:=(.c f (.c h (.c (ZpF _ _ _ _ y) .n)));rcases Zai a with⟨i,a⟩|⟨i,a⟩
   ·obtain⟨z,A,a⟩:=Zaf a;apply Ya a 22 (R1++[rA [(2,aG (Zap.c z))]]) [true,false,true] (O2.app (.c i (.c (ZfC _ _ A) .n)))
   ·obtain⟨t,B,a⟩:=Zaf a;apply Yb a 27 (R1++[rz,rA [(3,.r (.tup [(true,Zas.c t.1),(false,(cI .i64) t.2)]) [])],rz]) [true,false,false] [] [(7,[(7,cL 10 Zaa.c Zaa.d [])])] [] (O2.app (.c i (.c (ZoX _ _ _ B) .n)))
 ·rcases Zai a with⟨g,a⟩|⟨g,a⟩
  ·obtain⟨u,C,a⟩:=Zaf a
   let R3:List RA:=[rz,rz,rz,rz,rA [(4,.r (.tup [(false,(cLs 5 Zab.c Zab.d) u.1),(false,(cI .i64) u.2)]) [])],rz]
   have O4:Obl _:=(.c f (.c g (.c (Zpc _ _ _ C) .n)));rcases Zai a with⟨b,a⟩|⟨b,a⟩
   ·obtain⟨D,j,a⟩:=Zaf a;apply Ya a 21 (R3++[rz,rA [(2,aG (Zap.c D))]]) [false,true,true] (O4.app (.c b (.c (ZfC _ _ j) .n)))
   ·obtain⟨E,k,a⟩:=Zaf a;apply Ya a 21 (R3++[rA [(2,aG (Zap.c E))]]) [false,true,false] (O4.app (.c b (.c (ZfC _ _ k) .n)))
  ·rcases Zai a with⟨e,a⟩|⟨e,a⟩
   ·obtain⟨F,l,a⟩:=Zaf a;apply Yb a 17 [rz,rz,rz,rz,rz,rA [(8,aI F)]] [false,false,true] [] [(7,[(7,cL 10 Zaa.c Zaa.d [])])] [] (.c f (.c g (.c e (.c (Zoz _ _ _ _ l) .n))))
   ·obtain⟨v,m,a⟩:=Zaf a;apply Yb a 23 [rz,rz,rz,rz,rz,rA [(4,.r (.tup [(false,(cLs 5 Zab.c Zab.d) v.1),(false,(cI .i64) v.2)]) [])],rz,rz] [false,false,false] [] [(7,[(7,cL 10 Zaa.c Zaa.d [])])] [] (.c f (.c g (.c e (.c (ZoA _ _ _ m) .n))))
def Zdm(a:Int)(c:Bool)(e:ZaA)(b:Zas)(f:Zaz)(g:Zas)(h:Zap):Option (Zas×Zap):=bif c then(ZdC e b f).bind fun d=>some (d.1,d.2)else bif(a==(10:Int))then some (b,(Zap.mk 0 (Zah.mk (Zag.mk false 0 0) 0) ((b.fBans.length:Nat):Int) ((b.fBook.length:Nat):Int) b.fPeers))else bif(a==(13:Int))then none else none
theorem ZfQ(S0:Nat->Prop)(w0:Zba)(g:Int)(h:Bool)(a:ZaA)(j:Zas)(e:Zaz)(k:Zas)(f:Zap)(r:(Zas×Zap))(b:Zdm g h a j e k f=some r):Good Tryz.prog 100 S0 w0 (bodyPost Tryz.prog Tryz.f23 (Post S0 w0 (.tup [(true,Zas.c r.1),(true,Zap.c r.2)]))) (at_ [1,1,0,1,0,1,1,1,1,1,1,1,1,1] (ZaW Tryz.f23)) ⟨[(3,.one (.ptr 3 0)),(4,.one (.ptr 4 0)),(5,.one (.ptr 5 0)),(6,.one (.ptr 6 0)),(7,.one (.ptr 7 0)),(16,(Yj g)),(49,(Yk h))],[(3,.box [.lit (.int .i64 a.fMaxIn),.lit (.int .i64 a.fMaxOut),.lit (.int .i64 a.fShards),.lit (.int .i64 a.fMaxBans),.lit (.int .i64 a.fMaxBook),.lit (.int .u64 a.fSecret),.lit (.int .i64 a.fQuota.fGroup),.lit (.int .i64 a.fQuota.fPing),.lit (.int .i64 a.fQuota.fWork),.lit (.int .i64 a.fQuota.fTime),.lit (.int .i64 a.fHalf),.lit (.int .i64 a.fLimit),.lit (.int .i64 a.fBanFor),.lit (.int .i64 a.fBase),.lit (.int .i64 a.fCap),.lit (.int .i64 a.fJitter)]),(4,.box [cL 5 Zab.c Zab.d j.fBans,cL 7 Zac.c Zac.d j.fBook,cL 10 Zaa.c Zaa.d j.fPeers]),(5,.box [.lit (.int .i64 e.fKind),.lit (.bool e.fEnd.fAddr.fV6),.lit (.int .u64 e.fEnd.fAddr.fHi),.lit (.int .u64 e.fEnd.fAddr.fLo),.lit (.int .i64 e.fEnd.fPort),.lit (.bool e.fNet.fAddr.fV6),.lit (.int .u64 e.fNet.fAddr.fHi),.lit (.int .u64 e.fNet.fAddr.fLo),.lit (.int .i64 e.fNet.fBits),.lit (.int .i64 e.fNow),.lit (.int .i64 e.fNum),.lit (.bool e.fGood)]),(6,.box [cL 5 Zab.c Zab.d k.fBans,cL 7 Zac.c Zac.d k.fBook,cL 10 Zaa.c Zaa.d k.fPeers]),(7,.box [.lit (.int .i64 f.fCode),.lit (.bool f.fEnd.fAddr.fV6),.lit (.int .u64 f.fEnd.fAddr.fHi),.lit (.int .u64 f.fEnd.fAddr.fLo),.lit (.int .i64 f.fEnd.fPort),.lit (.int .i64 f.fN),.lit (.int .i64 f.fUntil),cL 10 Zaa.c Zaa.d f.fPeers])]⟩:=by
 unfold Zdm at b;rcases Zai b with⟨l,b⟩|⟨l,b⟩
 ·obtain⟨p,m,b⟩:=Zaf b;apply Ya b 3 [rA [(3,.r (.tup [(true,Zas.c p.1),(true,Zap.c p.2)]) [])]] [true] (.c l (.c (ZoW _ _ _ _ m) .n))
 ·rcases Zai b with⟨i,b⟩|⟨i,b⟩
  ·apply Ya b 6 [rz,rz] [false,true] (.c l (.c i .n))
  ·rcases Zai b with⟨o,b⟩|⟨o,b⟩
   ·cases b
   ·cases b
def Zcz(c:ZaA)(b:Zas)(a:Zaz):Option (Zas×Zap):=(ZfF a).bind fun d=>bif(!d)then(Zem (1:Int)).bind fun e=>some (b,e)else bif(a.fKind==(1:Int))then none else bif(a.fKind==(3:Int))then none else bif(a.fKind==(4:Int))then none else bif(a.fKind==(5:Int))then none else bif(a.fKind==(6:Int))then Zdm a.fKind (a.fKind==(6:Int)) c b a (Zas.mk ([]:(List Zab)) ([]:(List Zac)) ([]:(List Zaa))) (Zap.mk 0 (Zah.mk (Zag.mk false 0 0) 0) 0 0 ([]:(List Zaa)))else bif(a.fKind==(7:Int))then Zdm a.fKind (a.fKind==(7:Int)) c b a (Zas.mk ([]:(List Zab)) ([]:(List Zac)) ([]:(List Zaa))) (Zap.mk 0 (Zah.mk (Zag.mk false 0 0) 0) 0 0 ([]:(List Zaa)))else bif(a.fKind==(8:Int))then Zdm a.fKind (a.fKind==(8:Int)) c b a (Zas.mk ([]:(List Zab)) ([]:(List Zac)) ([]:(List Zaa))) (Zap.mk 0 (Zah.mk (Zag.mk false 0 0) 0) 0 0 ([]:(List Zaa)))else Zdm a.fKind (a.fKind==(9:Int)) c b a (Zas.mk ([]:(List Zab)) ([]:(List Zac)) ([]:(List Zaa))) (Zap.mk 0 (Zah.mk (Zag.mk false 0 0) 0) 0 0 ([]:(List Zaa)))
theorem Zqk(f:ZaA)(g:Zas)(b:Zaz)(r:(Zas×Zap))(a:Zcz f g b=some r):ZaC Tryz.prog 23 [.agg (ZaA.c f),.agg (Zas.c g),.agg (Zaz.c b)] (.tup [(true,Zas.c r.1),(true,Zap.c r.2)]):=by
 refine ZaC.of Tryz.func23 rfl rfl rfl rfl fun S0 w0=>?_;unfold Zcz at a;obtain⟨j,l,a⟩:=Zaf a;rcases Zai a with⟨k,a⟩|⟨k,a⟩
 ·obtain⟨s,t,a⟩:=Zaf a;apply Ya a 8 [rz,rA [(1,aB j)],rA [(1,aG (Zap.c s))]] [true] (.c (ZjW _ _ l) (.c k (.c (ZfC _ _ t) .n)))
 ·rcases Zai a with⟨m,a⟩|⟨m,a⟩
  ·cases a
  ·rcases Zai a with⟨o,a⟩|⟨o,a⟩
   ·cases a
   ·rcases Zai a with⟨p,a⟩|⟨p,a⟩
    ·cases a
    ·rcases Zai a with⟨q,a⟩|⟨q,a⟩
     ·cases a
     ·have O1:Obl _:=(.c (ZjW _ _ l) (.c k (.c m (.c o (.c p (.c q .n))))));rcases Zai a with⟨h,a⟩|⟨h,a⟩
      ·exact Ye 28 [rz,rA [(1,aB j)],rz,rz,rz,rz,rz,rz] [false,false,false,false,false,true] ⟨[],[(6,[(0,cL 5 Zab.c Zab.d []),(1,cL 7 Zac.c Zac.d []),(2,cL 10 Zaa.c Zaa.d [])]),(7,[(7,cL 10 Zaa.c Zaa.d [])])],[],[],[],[3,4,5,6,7,16,49],[3,4,5,6,7],[]⟩ (O1.app (.c h .n)) (ZfQ S0 w0 b.fKind (b.fKind==(6:Int)) f g b (Zas.mk ([]:(List Zab)) ([]:(List Zac)) ([]:(List Zaa))) (Zap.mk 0 (Zah.mk (Zag.mk false 0 0) 0) 0 0 ([]:(List Zaa))) r a)
      ·let R2:List RA:=[rz,rA [(1,aB j)],rz,rz,rz,rz,rz,rz,rz]
       rcases Zai a with⟨i,a⟩|⟨i,a⟩
       ·exact Ye 31 R2 [false,false,false,false,false,false,true] ⟨[],[(6,[(0,cL 5 Zab.c Zab.d []),(1,cL 7 Zac.c Zac.d []),(2,cL 10 Zaa.c Zaa.d [])]),(7,[(7,cL 10 Zaa.c Zaa.d [])])],[],[],[],[3,4,5,6,7,16,49],[3,4,5,6,7],[]⟩ (O1.app (.c h (.c i .n))) (ZfQ S0 w0 b.fKind (b.fKind==(7:Int)) f g b (Zas.mk ([]:(List Zab)) ([]:(List Zac)) ([]:(List Zaa))) (Zap.mk 0 (Zah.mk (Zag.mk false 0 0) 0) 0 0 ([]:(List Zaa))) r a)
       ·rcases Zai a with⟨e,a⟩|⟨e,a⟩
        ·exact Ye 34 (R2++[rz]) [false,false,false,false,false,false,false,true] ⟨[],[(6,[(0,cL 5 Zab.c Zab.d []),(1,cL 7 Zac.c Zac.d []),(2,cL 10 Zaa.c Zaa.d [])]),(7,[(7,cL 10 Zaa.c Zaa.d [])])],[],[],[],[3,4,5,6,7,16,49],[3,4,5,6,7],[]⟩ (O1.app (.c h (.c i (.c e .n)))) (ZfQ S0 w0 b.fKind (b.fKind==(8:Int)) f g b (Zas.mk ([]:(List Zab)) ([]:(List Zac)) ([]:(List Zaa))) (Zap.mk 0 (Zah.mk (Zag.mk false 0 0) 0) 0 0 ([]:(List Zaa))) r a)
        ·exact Ye 34 (R2++[rz,rz]) [false,false,false,false,false,false,false,false] ⟨[],[(6,[(0,cL 5 Zab.c Zab.d []),(1,cL 7 Zac.c Zac.d []),(2,cL 10 Zaa.c Zaa.d [])]),(7,[(7,cL 10 Zaa.c Zaa.d [])])],[],[],[],[3,4,5,6,7,16,49],[3,4,5,6,7],[]⟩ (O1.app (.c h (.c i (.c e .n)))) (ZfQ S0 w0 b.fKind (b.fKind==(9:Int)) f g b (Zas.mk ([]:(List Zab)) ([]:(List Zac)) ([]:(List Zaa))) (Zap.mk 0 (Zah.mk (Zag.mk false 0 0) 0) 0 0 ([]:(List Zaa))) r a)
def ZcK(b c:List Zaa):Nat->Int->Option Bool|0,_=>none|fu+1,a=>bif(decide (a<((b.length:Nat):Int)))then bif(decide (a<((c.length:Nat):Int)))then need (0<=a/\a<((b.length:Nat):Int))<|need (0<=a/\a<((c.length:Nat):Int))<|bif(!(decide ((b.getD a.toNat Zaa.d)=(c.getD a.toNat Zaa.d))))then some false else ZcK b c fu (Zar a 1)else some true else some true
theorem Zne(S0:Nat->Prop)(w0:Zba)(e f:List Zaa):∀(g:Nat)(b:Int)(r:Bool),ZcK e f g b=some r->Good Tryz.prog 32 S0 w0 (bodyPost Tryz.prog Tryz.f80 (Post S0 w0 ((Yk r)))) (at_ [1,1,0,1,0] (ZaW Tryz.f80)) ⟨[(0,(Yn e)),(1,(Yn f)),(5,(Yj b))],[]⟩:=by
 intro g;induction g with
 |zero=>
  intro b r a;simp[ZcK]at a
 |succ g k=>
  intro b r a;unfold ZcK at a;rcases Zai a with⟨h,a⟩|⟨h,a⟩
  ·rcases Zai a with⟨i,a⟩|⟨i,a⟩
   ·obtain⟨l,a⟩:=Zaq a;obtain⟨m,a⟩:=Zaq a
    let R1:List RA:=[rB [(4,true)],rA [(8,aB (!(decide ((e.getD b.toNat Zaa.d)=(f.getD b.toNat Zaa.d)))))],rz]
    have O2:Obl _:=(.c h (.c i (.c l (.c m (.c (Zqv (e.getD b.toNat Zaa.d) (f.getD b.toNat Zaa.d) (.tmp 26) (.tmp 30)) .n)))));rcases Zai a with⟨j,a⟩|⟨j,a⟩
    ·apply Ya a 13 R1 [true,true] (O2.app (.c j .n))
    ·exact Ye 15 R1 [true,false] (Yi [0,1,5]) (O2.app (.c j .n)) (k (Zar b 1) r a)
   ·apply Ya a 8 [rB [(4,true)],rz] [false] (.c h (.c i .n))
  ·apply Ya a 8 [rB [(4,false)],rz] [false] (.c h (.c (show false=false from rfl) .n))
def ZeX(b a:List Zaa):Option Bool:=bif(((b.length:Nat):Int) != ((a.length:Nat):Int))then some false else ZcK b a ((((a.length:Nat):Int)-(0:Int)).toNat+2) (0:Int)
theorem Zkp(d b:List Zaa)(r:Bool)(a:ZeX d b=some r):ZaC Tryz.prog 80 [(Yn d),(Yn b)] ((Yk r)):=by
 refine ZaC.of Tryz.func80 rfl rfl rfl rfl fun S0 w0=>?_;unfold ZeX at a;rcases Zai a with⟨e,a⟩|⟨e,a⟩
 ·apply Ya a 8 [rz,rz,rz] [true] (.c e .n)
 ·exact Ye 11 [rz,rz,rz] [false] (Yi [0,1,5]) (.c e .n) (Zne S0 w0 d b ((((b.length:Nat):Int)-(0:Int)).toNat+2) (0:Int) r a)
def ZeW(a b:Zap):Option Bool:=bif(a.fCode==b.fCode)then bif(decide (a.fEnd=b.fEnd))then bif(a.fN==b.fN)then bif(a.fUntil==b.fUntil)then(ZeX a.fPeers b.fPeers).bind fun c=>some c else some false else some false else some false else some false
theorem ZoT(b d:Zap)(r:Bool)(a:ZeW b d=some r):ZaC Tryz.prog 24 [.agg (Zap.c b),.agg (Zap.c d)] ((Yk r)):=by
 refine ZaC.of Tryz.func24 rfl rfl rfl rfl fun S0 w0=>?_;unfold ZeW at a;rcases Zai a with⟨g,a⟩|⟨g,a⟩
 ·have O1:Obl _:=(.c g (.c (Zkg b.fEnd d.fEnd (.tmp 12) (.tmp 14)) .n));rcases Zai a with⟨e,a⟩|⟨e,a⟩
  ·rcases Zai a with⟨f,a⟩|⟨f,a⟩
   ·rcases Zai a with⟨h,a⟩|⟨h,a⟩
    ·obtain⟨i,j,a⟩:=Zaf a;apply Ya a 4 [rz,⟨[(10,aB (decide (b.fEnd=d.fEnd))),(31,aB i)],[(5,true),(12,true),(19,true),(26,true)],[],[],[],[],[]⟩] [] (O1.app (.c e (.c f (.c h (.c (Zkp _ _ _ j) .n)))))
    ·apply Ya a 4 [rz,⟨[(10,aB (decide (b.fEnd=d.fEnd)))],[(5,true),(12,true),(19,true),(26,false)],[],[],[],[],[]⟩] [] (O1.app (.c e (.c f (.c h .n))))
   ·apply Ya a 4 [rz,⟨[(10,aB (decide (b.fEnd=d.fEnd)))],[(5,true),(12,true),(19,false)],[],[],[],[],[]⟩] [] (O1.app (.c e (.c f .n)))
  ·apply Ya a 4 [rz,⟨[(10,aB (decide (b.fEnd=d.fEnd)))],[(5,true),(12,false)],[],[],[],[],[]⟩] [] (O1.app (.c e .n))
 ·apply Ya a 4 [rz,rB [(5,false)]] [] (.c g .n)
end Go.Proofs.YtdjfoojllbfcgaaGreat
