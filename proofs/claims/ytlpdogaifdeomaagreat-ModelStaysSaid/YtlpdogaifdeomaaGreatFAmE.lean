import Derived.Test.YtlpdogaifdeomaaGreatFAmD
namespace Go.Proofs.YtlpdogaifdeomaaGreat
open Go.RowKit
set_option linter.unusedSimpArgs false
set_option linter.unusedVariables false
theorem ZcZ(b o j:Nat):(⟨b,o,none⟩ : Addr).add j=⟨b,o+j,none⟩:=by
 unfold Addr.add;split
 .rename_i h;subst h;rfl
 .rfl
def ZGb(o:Nat):V->Option V
 | .one (.ptr id off)=>some (.one (.ptr id (off+o)))
 | .one (.rp false n cell)=>match o with
  | 0=>some (.one (.rp false n cell))
  |o+1=>match Nat.ble (o+1) n with
   |true=>some (.one (.rp false (n-(o+1)) fun j=>cell (o+1+j)))
   |false=>none
 | .one (.eptr id sz i off)=>some (.one (.eptr id sz i (off+o)))
 |_=>none
theorem Zxd{S:Nat->Prop}{w:World}{m:Mp}{o:Nat}{p v:V}{px:Value}(hp:RepV S w m p px)(h:ZGb o p=some v):∃b off,px=.pointer (some ⟨b,off,none⟩)/\RepV S w m v (.pointer (some ⟨b,off+o,none⟩)):=by
 unfold ZGb at h;split at h
 .cases h;cases hp with
  |ptr hm=>exact⟨_,_,rfl,RepC.ptr hm⟩
 .rename_i n cell;split at h
  .cases h;cases hp with
   |rp b off vals ha hc h1 hr=>exact⟨b,off,rfl,RepC.rp b off vals ha hc h1 hr⟩
  .rename_i o;split at h
   .rename_i hb;have hle:=Nat.le_of_ble_eq_true hb;cases h;cases hp with
    |rp b off vals ha hc h1 hr=>
     refine⟨b,off,rfl,RepC.rp b (off+(o+1)) (fun j=>vals (o+1+j)) ha (fun j hj=>?_) (fun j hj=>h1 _ (by omega)) (fun j hj=>hr _ (by omega))⟩;rw[Nat.add_assoc];exact hc _ (by omega)
   .cases h
 .cases h;cases hp with
  |eptr hm=>rename_i b n c;exact⟨b,_,rfl,by rw[Nat.add_assoc];exact RepC.eptr hm⟩
 .cases h
def Zsc(T:Tab)(t:TypeId)(f:Nat)(p:V):Option V:=match Zee T t with
 |some ti=>match ti.k with
  | .struct fs=>match fs[f]? with
   |some (o,ty)=>match Zee T ty with
    |some ti'=>match Nat.ble 1 ti'.size with
     |true=>ZGb o p
     |false=>none
    |none=>none
   |none=>none
  |_=>none
 |none=>none
theorem ZtP{fields:Array Field}{fs:List (Nat×TypeId)}(h:fields.toList.map (fun f=>(f.offset,f.type))=fs){f o ty:Nat}(hf:fs[f]?=some (o,ty)):∃ia,fields[f]?=some ia/\ia.offset=o/\ia.type=ty:=by
 subst h;simp only[List.getElem?_map,Option.map_eq_some_iff,Prod.mk.injEq,Array.getElem?_toList]at hf;obtain⟨ia,h1,h2,h3⟩:=hf;exact⟨ia,h1,h2,h3⟩
theorem Zwj{P:Program}{T:Tab}(hT:Zep P T){S:Nat->Prop}{w:World}{m:Mp}{t f:Nat}{p v:V}{px:Value}(hp:RepV S w m p px)(h:Zsc T t f p=some v) :
  ∃x,(Instr.fieldAt t px f).run P w=.ok x w/\RepV S w m v x:=by
 unfold Zsc at h;split at h
 .rename_i ti bt;obtain⟨d,hu,hf⟩:=hT.under bt;split at h
  .rename_i fs hk;rw[hk]at hf;split at h
   .rename_i o ty iG;split at h
    .rename_i ti' k9;split at h
     .rename_i hb;have hz:=Nat.le_of_ble_eq_true hb;cases d<;>simp only[TK.fits]at hf;rename_i fields;obtain⟨ia,h1,h2,h3⟩:=ZtP hf iG;obtain⟨b,off,rfl,hv⟩:=Zxd hp h;refine⟨_,?_,hv⟩;have aW:=hT.size k9 w;rw[<-h3]at aW;have cC:ti'.size≠0:=by omega
      simp[Instr.fieldAt,Sem.run_bind,run_underlying hu,h1,Instr.sureAddr,fieldPlace,aW,cC,ZcZ,h2]
     .cases h
    .cases h
   .cases h
  .cases h
 .cases h
def intV:V->Option (IntKind×Int) | .one (.lit (.int k n))=>some (k,n)|_=>none
theorem Zpx{S:Nat->Prop}{w:World}{m:Mp}{v:V}{x:Value}{k:IntKind}{n:Int}(h:RepV S w m v x)(hv:intV v=some (k,n)):x=.int k n:=by
 unfold intV at hv;split at hv
 .cases hv;cases h;rfl
 .cases hv
def Zsa(T:Tab)(t:TypeId)(x i:V):Option (V×List Prop):=match Zee T t with
 |some ti=>match intV i with
  |some (k,n)=>match ti.k with
   | .slice e=>match Zee T e with
    |some te=>match Nat.ble 1 te.size with
     |true=>match x with
      | .one (.sl sz len cell)=>match Nat.beq sz te.size with
       |true=>some (.one (.rp false sz (cell n.toNat)),[0<=n/\n<len])
       |false=>none
      | .one (.lsl sz len cell)=>match Nat.beq sz te.size with
       |true=>some (.one (.lrp sz (cell n.toNat)),[0<=n/\n<len])
       |false=>none
      | .one (.osl id len)=>some (.one (.eptr id te.size n.toNat 0),[0<=n/\n<len])
      | .one (.osub id sz lo len n0)=>match Nat.beq sz te.size with
       |true=>some (.one (.eptr id te.size (lo+n.toNat) 0),[0<=n/\n<len])
       |false=>none
      |_=>none
     |false=>none
    |none=>none
   | .array len e=>match Zee T e with
    |some te=>match ZGb (n.toNat*te.size) x with
     |some v=>some (v,[0<=n/\n<len])
     |none=>none
    |none=>none
   |_=>none
  |none=>none
 |none=>none
theorem Zwg{P:Program}{T:Tab}(hT:Zep P T){S:Nat->Prop}{m:Mp}{w:World}{t:TypeId}{x i v:V}{px pi:Value}{obl:List Prop}
  (hx:RepV S w m x px) (hi:RepV S w m i pi) (h:Zsa T t x i=some (v,obl)) (ho:∀q∈obl,q):∃y,(Instr.indexAt t px pi).run P w=.ok y w/\RepV S w m v y:=by
 unfold Zsa at h;split at h
 .rename_i ti bt;obtain⟨d,hu,hf⟩:=hT.under bt;split at h
  .rename_i k n hn;obtain rfl:=Zpx hi hn;split at h
   .rename_i e hk;rw[hk]at hf;cases d<;>simp only[TK.fits]at hf;subst hf;split at h
    .rename_i te bR;have aW:=hT.size bR w;split at h
     .rename_i bV;have hz:=Nat.le_of_ble_eq_true bV;split at h
      .rename_i sz len cell;split at h
       .rename_i hb;obtain rfl:=ZaB hb;simp only[Option.some.injEq,Prod.mk.injEq]at h;obtain⟨rfl,rfl⟩:=h;obtain⟨h0,hl⟩ : 0<=n/\n<len:=ho _ (by simp);cases hx with
        |sl b off vals hcap ha hc h1 hr=>
         obtain⟨rfl,hb⟩:=ha (by omega);refine⟨.pointer (some ⟨b,off+n.toNat*te.size,none⟩),?_,RepC.rp b _ (vals n.toNat) hb (fun j hj=>hc _ j (by omega) hj) (fun j hj=>h1 _ j (by omega) hj) (fun j hj=>hr _ j (by omega) hj)⟩;simp[Instr.indexAt,asIntOf,Sem.run_bind,run_underlying hu,h0,hl,aW,ZcZ]
       .cases h
      .rename_i sz len cell;split at h
       .rename_i hb;obtain rfl:=ZaB hb;simp only[Option.some.injEq,Prod.mk.injEq]at h;obtain⟨rfl,rfl⟩:=h;obtain⟨h0,hl⟩ : 0<=n/\n<len:=ho _ (by simp);cases hx with
        |lsl b off vals hcap ha hc h1 hr=>
         obtain⟨rfl,hb⟩:=ha (by omega);refine⟨.pointer (some ⟨b,off+n.toNat*te.size,none⟩),?_,RepC.lrp b _ (vals n.toNat) hb (fun j hj=>hc _ j (by omega) hj) (fun j hj=>h1 _ j (by omega) hj) (fun j hj=>hr _ j (by omega) hj)⟩;simp[Instr.indexAt,asIntOf,Sem.run_bind,run_underlying hu,h0,hl,aW,ZcZ]
       .cases h
      .rename_i id len;simp only[Option.some.injEq,Prod.mk.injEq]at h;obtain⟨rfl,rfl⟩:=h;obtain⟨h0,hl⟩ : 0<=n/\n<len:=ho _ (by simp);cases hx with
       |osl hm h00=>
        rcases h00 with h00|⟨b,rfl⟩
        .omega
        .refine⟨.pointer (some ⟨b,n.toNat*te.size+0,none⟩),?_,RepC.eptr hm⟩;simp[Instr.indexAt,asIntOf,Sem.run_bind,run_underlying hu,h0,hl,aW,ZcZ]
      .rename_i id sz lo len n0;split at h
       .rename_i hb;obtain rfl:=ZaB hb;simp only[Option.some.injEq,Prod.mk.injEq]at h;obtain⟨rfl,rfl⟩:=h;obtain⟨h0,hl⟩ : 0<=n/\n<len:=ho _ (by simp);cases hx with
        |osub hm hc hl2 hn ha h00 h1=>
         obtain⟨b,rfl⟩:=ha.resolve_left (by omega);have e0:=h00 (by omega);rw[Option.map_some,ZcZ,Nat.zero_add]at e0;subst e0;refine⟨.pointer (some ⟨b,(lo+n.toNat)*te.size+0,none⟩),?_,RepC.eptr hm⟩;have e:lo*te.size+n.toNat*te.size=(lo+n.toNat)*te.size:=by rw[Nat.add_mul]
         simp[Instr.indexAt,asIntOf,Sem.run_bind,run_underlying hu,h0,hl,aW,ZcZ,e]
       .cases h
      .cases h
     .cases h
    .cases h
   .rename_i len e hk;rw[hk]at hf;cases d<;>simp only[TK.fits]at hf;obtain⟨rfl,rfl⟩:=hf;split at h
    .rename_i te bR;have aW:=hT.size bR w;split at h
     .rename_i v' hv;simp only[Option.some.injEq,Prod.mk.injEq]at h;obtain⟨rfl,rfl⟩:=h;obtain⟨h0,hl⟩ : 0<=n/\n<(len:Int):=ho _ (by simp);obtain⟨b,off,rfl,hr⟩:=Zxd hx hv;refine⟨_,?_,hr⟩;simp[Instr.indexAt,asIntOf,Instr.sureAddr,Sem.run_bind,run_underlying hu,h0,hl,aW,ZcZ]
     .cases h
    .cases h
   .cases h
  .cases h
 .cases h
def ZGV(T:Tab)(ty:TypeId)(l:List C)(o:Nat):Option V:=match Zee T ty with
 |some ti=>match ti.k.known with
  |true=>match cut l o ti.size with
   |some l'=>mkV ti.isAgg l'
   |none=>none
  |false=>none
 |none=>none
theorem ZxM{P:Program}{T:Tab}(hT:Zep P T){S:Nat->Prop}{w:World}{m:Mp}{ty o:Nat}{l:List C}{v:V}{xs:Array Value}(hl:RepL S w m l xs.toList)(h:ZGV T ty l o=some v) :
  ∃x,(part ty xs o).run P w=.ok x w/\RepV S w m v x:=by
 unfold ZGV at h;split at h
 .rename_i ti bt;split at h
  .rename_i hk;have cZ:=hT.isAgg bt (TK.known_ne hk) w;have aW:=hT.size bt w;split at h
   .rename_i l' hZ;obtain⟨hle,rfl⟩:=ZHc hZ;obtain⟨h1,h2,h3⟩:=hl;have hget:∀(j:Nat)(c:C),((l.drop o).take ti.size)[j]?=some c->∃x,xs.toList[o+j]?=some x/\RepC S w m c x:=by
     intro j c hj;rw[List.getElem?_take]at hj;split at hj
     .rw[List.getElem?_drop]at hj;exact h2 _ c hj
     .cases hj
    cases ha:ti.isAgg with
    |true=>
     rw[ha]at h cZ;simp only[mkV,Option.some.injEq]at h;subst h;refine⟨.agg (xs.extract o (o+ti.size)),by simp[part,Sem.run_bind,cZ,aW],_,rfl,?_,fun j c hj=>?_,fun x hx=>h3 x ?_⟩
     .simp at h1;simp;omega
     .obtain⟨x,h4,h5⟩:=hget j c hj;refine⟨x,?_,h5⟩;have hj2:j<ti.size:=by
       have:=(List.getElem?_eq_some_iff.1 hj).1;simp at this;omega
      simp only[Array.toList_extract,List.extract_eq_take_drop,List.getElem?_take,List.getElem?_drop];rw[if_pos (by omega)];exact h4
     .simp only[Array.toList_extract,List.extract_eq_take_drop]at hx;exact List.mem_of_mem_drop (List.mem_of_mem_take hx)
    |false=>
     rw[ha]at h cZ
     match hq:(l.drop o).take ti.size,h with
     | [c],h=>
      simp only[mkV,Option.some.injEq]at h;subst h;obtain⟨x,h4,h5⟩:=hget 0 c (by rw[hq];rfl);refine⟨x,?_,h5⟩;simp only[Nat.add_zero,Array.getElem?_toList]at h4;simp[part,Sem.run_bind,cZ,h4]
   .cases h
  .cases h
 .cases h
def ZFu(T:Tab)(t f:Nat)(x:V):Option V:=match Zee T t with
 |some ti=>match ti.k,x with
  | .struct fs,.agg l=>match fs[f]? with
   |some (o,ty)=>ZGV T ty l o
   |none=>none
  |_,_=>none
 |none=>none
theorem ZFt{P:Program}{T:Tab}(hT:Zep P T){S:Nat->Prop}{w:World}{m:Mp}{t f:Nat}{x v:V}{px:Value}(hx:RepV S w m x px)(h:ZFu T t f x=some v) :
  ∃y,(Instr.field t px f).run P w=.ok y w/\RepV S w m v y:=by
 unfold ZFu at h;split at h
 .rename_i ti bt;obtain⟨d,hu,hf⟩:=hT.under bt;split at h
  .rename_i fs l hk;rw[hk]at hf;cases d<;>simp only[TK.fits]at hf;split at h
   .rename_i o ty iG;obtain⟨ia,h1,h2,h3⟩:=ZtP hf iG;obtain⟨xs,rfl,hl⟩:=hx;obtain⟨y,h4,h5⟩:=ZxM hT hl h;refine⟨y,?_,h5⟩;simp[Instr.field,Sem.run_bind,run_underlying hu,h1,asAgg,h2,h3,h4]
   .cases h
  .cases h
 .cases h
def ZlF(s:ByteArray)(n:Nat):Nat:=(s.data.toList.getD n 0).toNat
def ZFo(T:Tab)(t:Nat)(x i:V):Option (V×List Prop):=match Zee T t with
 |some ti=>match intV i with
  |some (k,n)=>match ti.k,x with
   | .array len e,.agg l=>match Zee T e with
    |some te=>match ZGV T e l (n.toNat*te.size)with
     |some v=>some (v,[0<=n/\n<len])
     |none=>none
    |none=>none
   | .str,.one (.lit (.string s))=>some (.one (.lit (.int .u8 (ZlF s n.toNat))),[0<=n/\n<s.size])
   |_,_=>none
  |none=>none
 |none=>none
theorem ZFn{P:Program}{T:Tab}(hT:Zep P T){S:Nat->Prop}{w:World}{m:Mp}{t:Nat}{x i v:V}{px pi:Value}{obl:List Prop}(hx:RepV S w m x px)(hi:RepV S w m i pi)(h:ZFo T t x i=some (v,obl))(ho:∀q∈obl,q) :
  ∃y,(Instr.index t px pi).run P w=.ok y w/\RepV S w m v y:=by
 unfold ZFo at h;split at h
 .rename_i ti bt;obtain⟨d,hu,hf⟩:=hT.under bt;split at h
  .rename_i k n hn;obtain rfl:=Zpx hi hn;split at h
   .rename_i len e l hk;rw[hk]at hf;cases d<;>simp only[TK.fits]at hf;obtain⟨rfl,rfl⟩:=hf;split at h
    .rename_i te bR;have aW:=hT.size bR w;split at h
     .rename_i v' hv;simp only[Option.some.injEq,Prod.mk.injEq]at h;obtain⟨rfl,rfl⟩:=h;obtain⟨h0,hl⟩ : 0<=n/\n<(len:Int):=ho _ (by simp);obtain⟨xs,rfl,hl2⟩:=hx;obtain⟨y,h4,h5⟩:=ZxM hT hl2 hv;refine⟨y,?_,h5⟩;simp[Instr.index,asIntOf,Sem.run_bind,run_underlying hu,h0,hl,aW,h4]
     .cases h
    .cases h
   .rename_i s hk;rw[hk]at hf;cases d<;>simp only[TK.fits]at hf;simp only[Option.some.injEq,Prod.mk.injEq]at h;obtain⟨rfl,rfl⟩:=h;obtain⟨h0,hl⟩ : 0<=n/\n<(s.size:Int):=ho _ (by simp);cases hx;refine⟨_,?_,RepC.lit⟩;have hlt:n.toNat<s.size:=by omega
    have hlt2:n.toNat<s.data.toList.length:=by simpa using hlt
    have:s[n.toNat]?=some s[n.toNat]:=by simp[hlt]
    have hb:(s.data.toList.getD n.toNat 0)=s[n.toNat]:=by
     rw[List.getD_eq_getElem?_getD,List.getElem?_eq_getElem hlt2];simp[ByteArray.getElem_eq_getElem_data]
    simp[Instr.index,asIntOf,Sem.run_bind,run_underlying hu,h0,this,ZlF,<-hb]
   .cases h
  .cases h
 .cases h
def Zwk(x:V)(i:Nat):Option V:=match x with
 | .tup l=>match l[i]? with
  |some (true,cs)=>some (.agg cs)
  |some (false,[c])=>some (.one c)
  |_=>none
 |_=>none
theorem Zzu{P:Program}{S:Nat->Prop}{w:World}{m:Mp}{x v:V}{i:Nat}{px:Value}(hx:RepV S w m x px)(h:Zwk x i=some v):∃y,(Instr.extract px i).run P w=.ok y w/\RepV S w m v y:=by
 unfold Zwk at h;split at h
 .rename_i l;obtain⟨xs,rfl,h1,h2⟩:=hx;split at h
  .rename_i cs hl;cases h;obtain⟨y,h3,h4⟩:=h2 i _ hl;exact⟨y,by simp[Instr.extract,h3],h4⟩
  .rename_i c hl;cases h;obtain⟨y,h3,h4⟩:=h2 i _ hl;exact⟨y,by simp[Instr.extract,h3],h4⟩
  .cases h
 .cases h
def ZLW(T:Tab)(st:St)(t:Nat)(x:V):Option V:=match Zee T t with
 |some ti=>match ti.k,x with
  | .slice _,.one (.sl _ len _)=>some (.one (.lit (.int .i64 len)))
  | .slice _,.one (.lsl _ len _)=>some (.one (.lit (.int .i64 len)))
  | .slice _,.one (.osl _ len)=>some (.one (.lit (.int .i64 len)))
  | .slice _,.one (.osub _ _ _ len _)=>some (.one (.lit (.int .i64 len)))
  | .slice _,.one (.lit (.slice _ len _))=>some (.one (.lit (.int .i64 len)))
  | .str,.one (.lit (.string s))=>some (.one (.lit (.int .i64 s.size)))
  | .array n _,_=>some (.one (.lit (.int .i64 n)))
  |_,_=>none
 |none=>none
theorem ZLV{P:Program}{T:Tab}(hT:Zep P T){S:Nat->Prop}{w:World}{m:Mp}{st:St}{t ty:Nat}{x v:V}{px:Value}(hx:RepV S w m x px)(h:ZLW T st t x=some v) :
  ∃y,(Builtin.len_ #[t] ty #[px]).run P w=.ok y w/\RepV S w m v y:=by
 unfold ZLW at h;split at h
 .rename_i ti bt;obtain⟨d,hu,hf⟩:=hT.under bt;split at h
  .rename_i hk;rw[hk]at hf;cases d<;>simp only[TK.fits]at hf;cases h;cases hx;exact⟨_,by simp[Builtin.len_,Sem.run_bind,run_underlying hu,goInt],RepC.lit⟩
  .rename_i hk;rw[hk]at hf;cases d<;>simp only[TK.fits]at hf;cases h;cases hx;exact⟨_,by simp[Builtin.len_,Sem.run_bind,run_underlying hu,goInt],RepC.lit⟩
  .rename_i hk;rw[hk]at hf;cases d<;>simp only[TK.fits]at hf;cases h;cases hx;exact⟨_,by simp[Builtin.len_,Sem.run_bind,run_underlying hu,goInt],RepC.lit⟩
  .rename_i hk;rw[hk]at hf;cases d<;>simp only[TK.fits]at hf;cases h;cases hx;exact⟨_,by simp[Builtin.len_,Sem.run_bind,run_underlying hu,goInt],RepC.lit⟩
  .rename_i hk;rw[hk]at hf;cases d<;>simp only[TK.fits]at hf;cases h;cases hx;exact⟨_,by simp[Builtin.len_,Sem.run_bind,run_underlying hu,goInt],RepC.lit⟩
  .rename_i hk;rw[hk]at hf;cases d<;>simp only[TK.fits]at hf;cases h;cases hx;exact⟨_,by simp[Builtin.len_,Sem.run_bind,run_underlying hu,goInt],RepC.lit⟩
  .rename_i hk;rw[hk]at hf;cases d<;>simp only[TK.fits]at hf;obtain⟨rfl,rfl⟩:=hf;cases h;exact⟨_,by simp[Builtin.len_,Sem.run_bind,run_underlying hu,goInt],RepC.lit⟩
  .cases h
 .cases h
def ZGU(sz:Nat)(x:V)(l h:Option Int):Option (V×List Prop):=match x with
 | .one (.osl id len)=>some (.one (.osub id sz (l.getD 0).toNat ((h.getD len).toNat-(l.getD 0).toNat) len),[0<=l.getD 0/\l.getD 0<=h.getD len/\h.getD len<=(len:Int)])
 | .one (.osub id sz' lo len n)=>match Nat.beq sz' sz with
  |true=>some (.one (.osub id sz (lo+(l.getD 0).toNat) ((h.getD len).toNat-(l.getD 0).toNat) n),[0<=l.getD 0/\l.getD 0<=h.getD len/\(lo:Int)+h.getD len<=(n:Int)])
  |false=>none
 |_=>none
def ZBh:Option V->Option (Option Int)
 |none=>some none
 |some v=>match intV v with
  |some (_,n)=>some (some n)
  |none=>none
def ZFh(T:Tab)(t:Nat)(x:V)(lo hi mx:Option V):Option (V×List Prop):=match Zee T t with
 |some ti=>match ZBh lo,ZBh hi,mx with
  |some l,some h,none=>match ti.k,x with
   | .slice e,.one (.osl id len)=>match Zee T e with
    |some te=>ZGU te.size (.one (.osl id len)) l h
    |none=>none
   | .slice e,.one (.osub id sz lo len n)=>match Zee T e with
    |some te=>ZGU te.size (.one (.osub id sz lo len n)) l h
    |none=>none
   | .slice e,.one (.sl sz len cell)=>match Zee T e with
    |some te=>match Nat.beq sz te.size with
     |true=>match l,h with
      |none,none=>some (.one (.sl sz len cell),[])
      |some l,none=>some (.one (.sl sz (len-l.toNat) fun i=>cell (l.toNat+i)),[0<=l/\l<=len])
      |none,some h=>some (.one (.sl sz h.toNat cell),[0<=h/\h<=len])
      |some l,some h=>some (.one (.sl sz (h.toNat-l.toNat) fun i=>cell (l.toNat+i)),[0<=l/\l<=h/\h<=len])
     |false=>none
    |none=>none
   | .slice e,.one (.lsl sz len cell)=>match Zee T e with
    |some te=>match Nat.beq sz te.size,l,h with
     |true,some l,none=>some (.one (.lsl sz (len-l.toNat) fun i=>cell (l.toNat+i)),[0<=l/\l<=len])
     |_,_,_=>none
    |none=>none
   | .array n e,.one (.rp false q cell)=>match Zee T e,l,h with
    |some te,none,none=>match Nat.beq q (n*te.size),Nat.blt 0 n with
     |true,true=>some (.one (.sl te.size n fun i j=>cell (i*te.size+j)),[])
     |_,_=>none
    |_,_,_=>none
   | .str,.one (.lit (.string s))=>some (.one (.lit (.string (s.extract (l.getD 0).toNat (h.getD s.size).toNat))),[0<=l.getD 0/\l.getD 0<=h.getD s.size/\h.getD s.size<=s.size])
   |_,_=>none
  |some l,some h,some mv=>match ti.k,x,intV mv with
   | .slice e,.one (.osl id len),some (_,mm)=>match Zee T e,h with
    |some te,some hh=>some (.one .junk,[0<=l.getD 0/\l.getD 0<=hh/\hh<=mm/\mm<=(len:Int)])
    |_,_=>none
   |_,_,_=>none
  |_,_,_=>none
 |none=>none
theorem RepC.piece{S:Nat->Prop}{w:World}{m:Mp}{sz len:Nat}{cell:Nat->Nat->C}{a:Option Addr}{cap:Nat}(h:RepC S w m (.sl sz len cell) (.slice a len cap))(l n:Nat)(hn:l+n<=len)(m':Nat)(hm:n<=m')(f:Bool)(hf:f=true->l=len) :
  RepC S w m (.sl sz n fun i=>cell (l+i)) (.slice (if f=true then a else a.map (·.add (l*sz))) n m'):=by
 cases h with
 |sl b off vals hcap ha hc h1 hr=>
  refine .sl b (off+l*sz) (fun i=>vals (l+i)) hm (fun hl=>?_) (fun i j hi hj=>?_) (fun i j hi hj=>h1 _ _ (by omega) hj) (fun i j hi hj=>hr _ _ (by omega) hj)
  .obtain⟨rfl,hb⟩:=ha (by omega);refine⟨?_,hb⟩;have:¬(f=true):=fun e=>by have:=hf e;omega
   rw[if_neg this];simp[ZcZ]
  .rw[show off+l*sz+i*sz+j=off+(l+i)*sz+j by rw[Nat.add_mul];omega];exact hc _ _ (by omega) hj
theorem RepC.pieceL{S:Nat->Prop}{w:World}{m:Mp}{sz len:Nat}{cell:Nat->Nat->C}{a:Option Addr}{cap:Nat}(h:RepC S w m (.lsl sz len cell) (.slice a len cap))(l n:Nat)(hn:l+n<=len)(m':Nat)(hm:n<=m')(f:Bool)(hf:f=true->l=len) :
  RepC S w m (.lsl sz n fun i=>cell (l+i)) (.slice (if f=true then a else a.map (·.add (l*sz))) n m'):=by
 cases h with
 |lsl b off vals hcap ha hc h1 hr=>
  refine .lsl b (off+l*sz) (fun i=>vals (l+i)) hm (fun hl=>?_) (fun i j hi hj=>?_) (fun i j hi hj=>h1 _ _ (by omega) hj) (fun i j hi hj=>hr _ _ (by omega) hj)
  .obtain⟨rfl,hb⟩:=ha (by omega);refine⟨?_,hb⟩;have:¬(f=true):=fun e=>by have:=hf e;omega
   rw[if_neg this];simp[ZcZ]
  .rw[show off+l*sz+i*sz+j=off+(l+i)*sz+j by rw[Nat.add_mul];omega];exact hc _ _ (by omega) hj
theorem ZHS{S:Nat->Prop}{w:World}{m:Mp}{v:V}{x:Value}{l:Option Int}(h:RepV S w m v x)(hl:ZBh (some v)=some l):∃k n,l=some n/\x=.int k n:=by
 unfold ZBh at hl;simp only at hl;split at hl
 .rename_i k n hn;cases hl;exact⟨k,n,rfl,Zpx h hn⟩
 .cases hl
def RepO(S:Nat->Prop)(w:World)(m:Mp):Option V->Option Value->Prop|none,none=>True|some v,some x=>RepV S w m v x|_,_=>False
theorem Zpr{S:Nat->Prop}{w:World}{m:Mp}{v:Option V}{x:Option Value}{l:Option Int}(h:RepO S w m v x)(hl:ZBh v=some l):(l=none/\x=none)\/∃k n,l=some n/\x=some (.int k n):=by
 match v,x,h with
 |none,none,_=>cases hl;exact .inl ⟨rfl,rfl⟩
 |some v,some x,h=>
  obtain⟨k,n,rfl,rfl⟩:=ZHS h hl;exact .inr ⟨k,n,rfl,rfl⟩
theorem ZxY{P:Program}{w:World}{len cap:Nat}{l h:Option Int}{gH gI:Option Value}(e1:(l=none/\gH=none)\/∃k n,l=some n/\gH=some (.int k n))(e2:(h=none/\gI=none)\/∃k n,h=some n/\gI=some (.int k n))
  (o1:0<=l.getD 0) (o2:l.getD 0<=h.getD len) (o3:h.getD len<=(cap:Int)):(Instr.sliceBounds true len cap gH gI none).run P w=.ok ((l.getD 0).toNat,(h.getD len).toNat,cap) w:=by
 rcases e1 with⟨rfl,rfl⟩|⟨k1,n1,rfl,rfl⟩<;>rcases e2 with⟨rfl,rfl⟩|⟨k2,n2,rfl,rfl⟩<;>simp only[Option.getD_none,Option.getD_some]at o1 o2 o3 ⊢
 .simp[Instr.sliceBounds,Sem.run_bind]
 .simp[Instr.sliceBounds,Instr.sliceBound,asIntOf,Sem.run_bind,o2,o3]
 .simp[Instr.sliceBounds,Instr.sliceBound,asIntOf,Sem.run_bind,o1,o2]
 .have q2:0<=n2:=by omega
  have q3:n1<=max n2 0:=by omega
  simp[Instr.sliceBounds,Instr.sliceBound,asIntOf,Sem.run_bind,o1,o3,q2,q3]
theorem ZwF(a:Addr):a.add 0=a:=by simp[Addr.add]
theorem ZxK{P:Program}{S:Nat->Prop}{w:World}{m:Mp}{t e:TypeId}{sz:Nat}(hu:P.underlying t=some (.slice e))(aW:(sizeOf e).run P w=.ok sz w){x v:V}{l h:Option Int}{px:Value}{gH gI:Option Value}{obl:List Prop}
  (hx:RepV S w m x px) (e1:(l=none/\gH=none)\/∃k n,l=some n/\gH=some (.int k n)) (e2:(h=none/\gI=none)\/∃k n,h=some n/\gI=some (.int k n))
  (hv:ZGU sz x l h=some (v,obl)) (ho:∀q∈obl,q):∃y,(Instr.sliceAt t px gH gI none).run P w=.ok y w/\RepV S w m v y:=by
 unfold ZGU at hv;split at hv
 .rename_i id len;simp only[Option.some.injEq,Prod.mk.injEq]at hv;obtain⟨rfl,rfl⟩:=hv;obtain⟨o1,o2,o3⟩ : 0<=l.getD 0/\l.getD 0<=h.getD len/\h.getD len<=(len:Int):=ho _ (by simp);cases hx with
  |osl hm h00 hle=>
   rename_i a c;refine⟨.slice (if c=(l.getD 0).toNat then a else a.map (·.add ((l.getD 0).toNat*sz))) ((h.getD len).toNat-(l.getD 0).toNat) (c-(l.getD 0).toNat),?_,RepC.osub hm rfl (by omega) hle h00 (fun hlt=>?_) (fun h0=>?_)⟩
   .have hb:=ZxY (P:=P) (w:=w) (len:=len) (cap:=c) e1 e2 o1 o2 (by omega);simp[Instr.sliceAt,Instr.slice,Sem.run_bind,run_underlying hu,aW,hb]
   .rw[if_neg (by omega)]
   .rw[h0];split
    .rfl
    .cases a<;>simp[ZwF]
 .rename_i id sz' lo len n;split at hv
  .rename_i hb;obtain rfl:=ZaB hb;simp only[Option.some.injEq,Prod.mk.injEq]at hv;obtain⟨rfl,rfl⟩:=hv;obtain⟨o1,o2,o3⟩ : 0<=l.getD 0/\l.getD 0<=h.getD len/\(lo:Int)+h.getD len<=(n:Int):=ho _ (by simp);cases hx with
   |osub hm hc hl hn ha h0 h1=>
    rename_i c c' a a';subst hc;refine⟨.slice (if c-lo=(l.getD 0).toNat then a' else a'.map (·.add ((l.getD 0).toNat*sz'))) ((h.getD len).toNat-(l.getD 0).toNat) (c-lo-(l.getD 0).toNat),?_,RepC.osub hm (by omega) (by omega) hn ha (fun hlt=>?_) (fun h0'=>?_)⟩
    .have hb:=ZxY (P:=P) (w:=w) (len:=len) (cap:=c-lo) e1 e2 o1 o2 (by omega);simp[Instr.sliceAt,Instr.slice,Sem.run_bind,run_underlying hu,aW,hb]
    .rw[if_neg (by omega),h0 (by omega)];rcases ha with rfl|⟨b,rfl⟩
     .have e1:lo=0:=by omega
      have e2:(l.getD 0).toNat=0:=by omega
      rw[e1,e2];cases a<;>simp[ZwF]
     .simp only[Option.map_some,ZcZ];rw[Nat.add_mul,Nat.zero_add,Nat.zero_add]
    .have e1:lo=0:=by omega
     have e2:(l.getD 0).toNat=0:=by omega
     rw[e2,h1 e1];split
     .rfl
     .cases a<;>simp[ZwF]
  .cases hv
 .cases hv
theorem ZFg{P:Program}{T:Tab}(hT:Zep P T){S:Nat->Prop}{w:World}{m:Mp}{t:Nat}{x v:V}{lo hi mx:Option V}{px:Value}{gH gI jA:Option Value}{obl:List Prop}(hx:RepV S w m x px)
  (h1:RepO S w m lo gH) (h2:RepO S w m hi gI) (h3:RepO S w m mx jA) (h:ZFh T t x lo hi mx=some (v,obl)) (ho:∀q∈obl,q):∃y,(Instr.sliceAt t px gH gI jA).run P w=.ok y w/\RepV S w m v y:=by
 unfold ZFh at h;split at h
 .rename_i ti bt;obtain⟨d,hu,hf⟩:=hT.under bt;split at h
  .rename_i l hh hl dQ;obtain rfl:jA=none:=by cases jA<;>first|rfl|exact h3.elim
   have e1:=Zpr h1 hl;have e2:=Zpr h2 dQ;split at h
   .rename_i e id len hk;rw[hk]at hf;cases d<;>simp only[TK.fits]at hf;subst hf;split at h
    .rename_i te bR;exact ZxK hu (hT.size bR w) hx e1 e2 h ho
    .cases h
   .rename_i e id sz lo len n hk;rw[hk]at hf;cases d<;>simp only[TK.fits]at hf;subst hf;split at h
    .rename_i te bR;exact ZxK hu (hT.size bR w) hx e1 e2 h ho
    .cases h
   .rename_i e sz len cell hk;rw[hk]at hf;cases d<;>simp only[TK.fits]at hf;subst hf;split at h
    .rename_i te bR;have aW:=hT.size bR w;split at h
     .rename_i hb;obtain rfl:=ZaB hb;have dR:=hx;cases hx with
      |sl b off vals hcap ha hc h1' hr=>
       rename_i a cap;split at h
       .simp only[Option.some.injEq,Prod.mk.injEq]at h;obtain⟨rfl,rfl⟩:=h;obtain⟨_,rfl⟩ : _:=e1.resolve_right (by simp);obtain⟨_,rfl⟩ : _:=e2.resolve_right (by simp);refine⟨.slice a len cap,?_,dR⟩;by_cases hc0:cap=0
        .simp[Instr.sliceAt,Instr.slice,Instr.sliceBounds,Sem.run_bind,run_underlying hu,aW,hc0]
        .simp[Instr.sliceAt,Instr.slice,Instr.sliceBounds,Sem.run_bind,run_underlying hu,aW,hc0];cases a<;>simp[Addr.add]
       .rename_i l;simp only[Option.some.injEq,Prod.mk.injEq]at h;obtain⟨rfl,rfl⟩:=h;obtain⟨k1,n1,hq,rfl⟩:=e1.resolve_left (by simp);cases hq;obtain⟨_,rfl⟩ : _:=e2.resolve_right (by simp);obtain⟨fQ,dS⟩ : 0<=l/\l<=len:=ho _ (by simp);have hrep:=RepC.piece dR l.toNat (len-l.toNat) (by omega) (cap-l.toNat) (by omega) (decide (cap=l.toNat)) (by intro hq;simp at hq;omega);refine⟨_,?_,hrep⟩;simp[Instr.sliceAt,Instr.slice,Instr.sliceBounds,Instr.sliceBound,asIntOf,Sem.run_bind,run_underlying hu,aW,fQ,dS]
       .rename_i hh;simp only[Option.some.injEq,Prod.mk.injEq]at h;obtain⟨rfl,rfl⟩:=h;obtain⟨_,rfl⟩ : _:=e1.resolve_right (by simp);obtain⟨k2,n2,hq,rfl⟩:=e2.resolve_left (by simp);cases hq;obtain⟨fQ,dS⟩ : 0<=hh/\hh<=len:=ho _ (by simp);have hrep:=RepC.piece dR 0 hh.toNat (by omega) cap (by omega) (decide (cap=0)) (by intro hq;simp at hq;omega);refine⟨_,?_,(by simp only[Nat.zero_add]at hrep;exact hrep)⟩;have:hh<=cap:=by omega
        simp[Instr.sliceAt,Instr.slice,Instr.sliceBounds,Instr.sliceBound,asIntOf,Sem.run_bind,run_underlying hu,aW,fQ,this]
       .rename_i l hh;simp only[Option.some.injEq,Prod.mk.injEq]at h;obtain⟨rfl,rfl⟩:=h;obtain⟨k1,n1,hq,rfl⟩:=e1.resolve_left (by simp);cases hq;obtain⟨k2,n2,hq,rfl⟩:=e2.resolve_left (by simp);cases hq;obtain⟨fQ,dS,ky⟩ : 0<=l/\l<=hh/\hh<=len:=ho _ (by simp);have hrep:=RepC.piece dR l.toNat (hh.toNat-l.toNat) (by omega) (cap-l.toNat) (by omega) (decide (cap=l.toNat)) (by intro hq;simp at hq;omega);refine⟨_,?_,hrep⟩;have q1:hh<=cap:=by omega
        have q2:0<=hh:=by omega
        have q3:l<=max hh 0:=by omega
        simp[Instr.sliceAt,Instr.slice,Instr.sliceBounds,Instr.sliceBound,asIntOf,Sem.run_bind,run_underlying hu,aW,fQ,q1,q2,q3]
     .cases h
    .cases h
   .rename_i e sz len cell hk;rw[hk]at hf;cases d<;>simp only[TK.fits]at hf;subst hf;split at h;rotate_left
    .cases h
    rename_i te bR;have aW:=hT.size bR w;split at h;rotate_left
    .cases h
    rename_i l hb;obtain rfl:=ZaB hb;have dR:=hx;cases hx with
    |lsl b off vals hcap ha hc h1' hr=>
     rename_i a cap;simp only[Option.some.injEq,Prod.mk.injEq]at h;obtain⟨rfl,rfl⟩:=h;obtain⟨k1,n1,hq,rfl⟩:=e1.resolve_left (by simp);cases hq;obtain⟨_,rfl⟩ : _:=e2.resolve_right (by simp);obtain⟨fQ,dS⟩ : 0<=l/\l<=len:=ho _ (by simp);have hrep:=RepC.pieceL dR l.toNat (len-l.toNat) (by omega) (cap-l.toNat) (by omega) (decide (cap=l.toNat)) (by intro hq;simp at hq;omega);refine⟨_,?_,hrep⟩;simp[Instr.sliceAt,Instr.slice,Instr.sliceBounds,Instr.sliceBound,asIntOf,Sem.run_bind,run_underlying hu,aW,fQ,dS]
   .rename_i n e q cell hk;rw[hk]at hf;cases d<;>simp only[TK.fits]at hf;obtain⟨rfl,rfl⟩:=hf;split at h;rotate_left
    .cases h
    rename_i te bR;have aW:=hT.size bR w;split at h;rotate_left
    .cases h
    rename_i hq hn;simp only[Option.some.injEq,Prod.mk.injEq]at h;obtain⟨rfl,rfl⟩:=h;have hq:=Nat.eq_of_beq_eq_true hq;have hn:0<n:=Nat.le_of_ble_eq_true hn;obtain⟨_,rfl⟩ : _:=e1.resolve_right (by simp);obtain⟨_,rfl⟩ : _:=e2.resolve_right (by simp);cases hx with
    |rp b off vals ha hc h1' hr=>
     have hlt:∀i j,i<n->j<te.size->i*te.size+j<q:=fun i j hi hj=>by
      rw[hq]
      calc i*te.size+j<i*te.size+te.size:=by omega
       _=(i+1)*te.size:=by rw[Nat.add_mul,Nat.one_mul]
       _<=n*te.size:=Nat.mul_le_mul_right _ hi
     refine⟨.slice (some ⟨b,off,none⟩) n n,?_,RepC.sl b off (fun i j=>vals (i*te.size+j)) (Nat.le_refl _) (fun _=>⟨rfl,ha⟩) (fun i j hi hj=>?_) (fun i j hi hj=>h1' _ (hlt i j hi hj)) (fun i j hi hj=>hr _ (hlt i j hi hj))⟩
     .simp[Instr.sliceAt,Instr.sureAddr,Instr.sliceBounds,Sem.run_bind,run_underlying hu,aW,Addr.add]
     .rw[Nat.add_assoc];exact hc _ (hlt i j hi hj)
   .rename_i s hk;rw[hk]at hf;cases d<;>simp only[TK.fits]at hf;simp only[Option.some.injEq,Prod.mk.injEq]at h;obtain⟨rfl,rfl⟩:=h;obtain⟨fQ,dS,ky⟩ : 0<=l.getD 0/\l.getD 0<=hh.getD s.size/\hh.getD s.size<=s.size:=ho _ (by simp);cases hx;refine⟨_,?_,RepC.lit⟩;rcases e1 with⟨rfl,rfl⟩|⟨k1,n1,rfl,rfl⟩<;>rcases e2 with⟨rfl,rfl⟩|⟨k2,n2,rfl,rfl⟩<;>simp only[Option.getD_none,Option.getD_some]at fQ dS ky ⊢
    .simp[Instr.sliceAt,Instr.slice,Instr.sliceBounds,Instr.sliceBound,asIntOf,Sem.run_bind,run_underlying hu]
    .simp[Instr.sliceAt,Instr.slice,Instr.sliceBounds,Instr.sliceBound,asIntOf,Sem.run_bind,run_underlying hu,dS,ky]
    .simp[Instr.sliceAt,Instr.slice,Instr.sliceBounds,Instr.sliceBound,asIntOf,Sem.run_bind,run_underlying hu,fQ,dS]
    .have q2:0<=n2:=by omega
     have q3:n1<=max n2 0:=by omega
     simp[Instr.sliceAt,Instr.slice,Instr.sliceBounds,Instr.sliceBound,asIntOf,Sem.run_bind,run_underlying hu,fQ,ky,q2,q3]
   .cases h
  .rename_i l hh mv hl dQ;have e1:=Zpr h1 hl;have e2:=Zpr h2 dQ;split at h
   .rename_i e id len mm0 mm hk jB;rw[hk]at hf;cases d<;>simp only[TK.fits]at hf;subst hf;split at h
    .rename_i te jC bR;have aW:=hT.size bR w;simp only[Option.some.injEq,Prod.mk.injEq]at h;obtain⟨rfl,rfl⟩:=h;obtain⟨o1,o2,o3,o4⟩ : 0<=l.getD 0/\l.getD 0<=jC/\jC<=mm/\mm<=(len:Int):=ho _ (by simp)
     match jA,h3 with
     |some pm,h3=>
      obtain rfl:=Zpx h3 jB;obtain⟨k2,n2,hq,rfl⟩:=e2.resolve_left (by simp);cases hq;cases hx with
      |osl hm h00 hle=>
       rename_i a c;have q1:0<=mm:=by omega
       have q2:mm<=(c:Int):=by omega
       have q3:0<=jC:=by omega
       have q4:jC<=max mm 0:=by omega
       rcases e1 with⟨rfl,rfl⟩|⟨k1,n1,rfl,rfl⟩<;>simp only[Option.getD_none,Option.getD_some]at o1 o2
       .exact⟨_,by simp[Instr.sliceAt,Instr.slice,Instr.sliceBounds,Instr.sliceBound,asIntOf,Sem.run_bind,run_underlying hu,aW,q1,q2,q3,q4];rfl,RepC.junk⟩
       .have q5:n1<=max jC 0:=by omega
        exact⟨_,by simp[Instr.sliceAt,Instr.slice,Instr.sliceBounds,Instr.sliceBound,asIntOf,Sem.run_bind,run_underlying hu,aW,q1,q2,q3,q4,o1,q5];rfl,RepC.junk⟩
    .cases h
   .cases h
  .cases h
 .cases h
end Go.Proofs.YtlpdogaifdeomaaGreat
