import Derived.Test.YtnigiacmmedkhaaGreatGAmD
namespace Go.Proofs.YtnigiacmmedkhaaGreat
open Go.RowKit
set_option linter.unusedSimpArgs false
set_option linter.unusedVariables false
theorem ZhR(b o j:Nat):(⟨b,o,none⟩ : Addr).add j=⟨b,o+j,none⟩:=by
 unfold Addr.add;split
 .rename_i h;subst h;rfl
 .rfl
def ZFc(o:Nat):V->Option V
 | .one (.ptr id off)=>some (.one (.ptr id (off+o)))
 | .one (.rp false n cell)=>match o with
  | 0=>some (.one (.rp false n cell))
  |o+1=>match Nat.ble (o+1) n with
   |true=>some (.one (.rp false (n-(o+1)) fun j=>cell (o+1+j)))
   |false=>none
 | .one (.eptr id sz i off)=>some (.one (.eptr id sz i (off+o)))
 |_=>none
theorem Zvm{S:Nat->Prop}{w:World}{m:Mp}{o:Nat}{p v:V}{px:Value}(hp:RepV S w m p px)(h:ZFc o p=some v):∃b off,px=.pointer (some ⟨b,off,none⟩)/\RepV S w m v (.pointer (some ⟨b,off+o,none⟩)):=by
 unfold ZFc at h;split at h
 .cases h;cases hp with
  |ptr hm=>exact⟨_,_,rfl,RepC.ptr hm⟩
 .rename_i n cell;split at h
  .cases h;cases hp with
   |rp b off vals ha hc h1 hr=>exact⟨b,off,rfl,RepC.rp b off vals ha hc h1 hr⟩
  .rename_i o;split at h
   .rename_i hb;have hle:=Nat.le_of_ble_eq_true hb;cases h;cases hp with
    |rp b off vals ha hc h1 hr=>
     refine⟨b,off,rfl,RepC.rp b (off+(o+1)) (fun j=>vals (o+1+j)) ha (fun j hj=>?_) (fun j hj=>h1 _ (by omega)) (fun j hj=>hr _ (by omega))⟩;rw[Nat.add_assoc];exact hc _ (by omega)
   .cases h
 .cases h;cases hp with
  |eptr hm=>rename_i b n c;exact⟨b,_,rfl,by rw[Nat.add_assoc];exact RepC.eptr hm⟩
 .cases h
def ZqR(T:Tab)(t:TypeId)(f:Nat)(p:V):Option V:=match ZeV T t with
 |some ti=>match ti.k with
  | .struct fs=>match fs[f]? with
   |some (o,ty)=>match ZeV T ty with
    |some ti'=>match Nat.ble 1 ti'.size with
     |true=>ZFc o p
     |false=>none
    |none=>none
   |none=>none
  |_=>none
 |none=>none
theorem Zso{fields:Array Field}{fs:List (Nat×TypeId)}(h:fields.toList.map (fun f=>(f.offset,f.type))=fs){f o ty:Nat}(hf:fs[f]?=some (o,ty)):∃gg,fields[f]?=some gg/\gg.offset=o/\gg.type=ty:=by
 subst h;simp only[List.getElem?_map,Option.map_eq_some_iff,Prod.mk.injEq,Array.getElem?_toList]at hf;obtain⟨gg,h1,h2,h3⟩:=hf;exact⟨gg,h1,h2,h3⟩
theorem Zul{P:Program}{T:Tab}(hT:Zes P T){S:Nat->Prop}{w:World}{m:Mp}{t f:Nat}{p v:V}{px:Value}(hp:RepV S w m p px)(h:ZqR T t f p=some v) :
  ∃x,(Instr.fieldAt t px f).run P w=.ok x w/\RepV S w m v x:=by
 unfold ZqR at h;split at h
 .rename_i ti a7;obtain⟨d,hu,hf⟩:=hT.under a7;split at h
  .rename_i fs hk;rw[hk]at hf;split at h
   .rename_i o ty ig;split at h
    .rename_i ti' jF;split at h
     .rename_i hb;have hz:=Nat.le_of_ble_eq_true hb;cases d<;>simp only[TK.fits]at hf;rename_i fields;obtain⟨gg,h1,h2,h3⟩:=Zso hf ig;obtain⟨b,off,rfl,hv⟩:=Zvm hp h;refine⟨_,?_,hv⟩;have aU:=hT.size jF w;rw[<-h3]at aU;have c8:ti'.size≠0:=by omega
      simp[Instr.fieldAt,Sem.run_bind,run_underlying hu,h1,Instr.sureAddr,fieldPlace,aU,c8,ZhR,h2]
     .cases h
    .cases h
   .cases h
  .cases h
 .cases h
def intV:V->Option (IntKind×Int) | .one (.lit (.int k n))=>some (k,n)|_=>none
theorem ZoD{S:Nat->Prop}{w:World}{m:Mp}{v:V}{x:Value}{k:IntKind}{n:Int}(h:RepV S w m v x)(hv:intV v=some (k,n)):x=.int k n:=by
 unfold intV at hv;split at hv
 .cases hv;cases h;rfl
 .cases hv
def ZqP(T:Tab)(t:TypeId)(x i:V):Option (V×List Prop):=match ZeV T t with
 |some ti=>match intV i with
  |some (k,n)=>match ti.k with
   | .slice e=>match ZeV T e with
    |some te=>match Nat.ble 1 te.size with
     |true=>match x with
      | .one (.sl sz len cell)=>match Nat.beq sz te.size with
       |true=>some (.one (.rp false sz (cell n.toNat)),[0<=n/\n<len])
       |false=>none
      | .one (.lsl sz len cell)=>match Nat.beq sz te.size with
       |true=>some (.one (.lrp sz (cell n.toNat)),[0<=n/\n<len])
       |false=>none
      | .one (.osl id len)=>some (.one (.eptr id te.size n.toNat 0),[0<=n/\n<len])
      | .one (.osub id sz lo len n0)=>match Nat.beq sz te.size with
       |true=>some (.one (.eptr id te.size (lo+n.toNat) 0),[0<=n/\n<len])
       |false=>none
      |_=>none
     |false=>none
    |none=>none
   | .array len e=>match ZeV T e with
    |some te=>match ZFc (n.toNat*te.size) x with
     |some v=>some (v,[0<=n/\n<len])
     |none=>none
    |none=>none
   |_=>none
  |none=>none
 |none=>none
theorem Zui{P:Program}{T:Tab}(hT:Zes P T){S:Nat->Prop}{m:Mp}{w:World}{t:TypeId}{x i v:V}{px pi:Value}{obl:List Prop}
  (hx:RepV S w m x px) (hi:RepV S w m i pi) (h:ZqP T t x i=some (v,obl)) (ho:∀q∈obl,q):∃y,(Instr.indexAt t px pi).run P w=.ok y w/\RepV S w m v y:=by
 unfold ZqP at h;split at h
 .rename_i ti a7;obtain⟨d,hu,hf⟩:=hT.under a7;split at h
  .rename_i k n hn;obtain rfl:=ZoD hi hn;split at h
   .rename_i e hk;rw[hk]at hf;cases d<;>simp only[TK.fits]at hf;subst hf;split at h
    .rename_i te bF;have aU:=hT.size bF w;split at h
     .rename_i bo;have hz:=Nat.le_of_ble_eq_true bo;split at h
      .rename_i sz len cell;split at h
       .rename_i hb;obtain rfl:=ZaH hb;simp only[Option.some.injEq,Prod.mk.injEq]at h;obtain⟨rfl,rfl⟩:=h;obtain⟨h0,hl⟩ : 0<=n/\n<len:=ho _ (by simp);cases hx with
        |sl b off vals hcap ha hc h1 hr=>
         obtain⟨rfl,hb⟩:=ha (by omega);refine⟨.pointer (some ⟨b,off+n.toNat*te.size,none⟩),?_,RepC.rp b _ (vals n.toNat) hb (fun j hj=>hc _ j (by omega) hj) (fun j hj=>h1 _ j (by omega) hj) (fun j hj=>hr _ j (by omega) hj)⟩;simp[Instr.indexAt,asIntOf,Sem.run_bind,run_underlying hu,h0,hl,aU,ZhR]
       .cases h
      .rename_i sz len cell;split at h
       .rename_i hb;obtain rfl:=ZaH hb;simp only[Option.some.injEq,Prod.mk.injEq]at h;obtain⟨rfl,rfl⟩:=h;obtain⟨h0,hl⟩ : 0<=n/\n<len:=ho _ (by simp);cases hx with
        |lsl b off vals hcap ha hc h1 hr=>
         obtain⟨rfl,hb⟩:=ha (by omega);refine⟨.pointer (some ⟨b,off+n.toNat*te.size,none⟩),?_,RepC.lrp b _ (vals n.toNat) hb (fun j hj=>hc _ j (by omega) hj) (fun j hj=>h1 _ j (by omega) hj) (fun j hj=>hr _ j (by omega) hj)⟩;simp[Instr.indexAt,asIntOf,Sem.run_bind,run_underlying hu,h0,hl,aU,ZhR]
       .cases h
      .rename_i id len;simp only[Option.some.injEq,Prod.mk.injEq]at h;obtain⟨rfl,rfl⟩:=h;obtain⟨h0,hl⟩ : 0<=n/\n<len:=ho _ (by simp);cases hx with
       |osl hm h00=>
        rcases h00 with h00|⟨b,rfl⟩
        .omega
        .refine⟨.pointer (some ⟨b,n.toNat*te.size+0,none⟩),?_,RepC.eptr hm⟩;simp[Instr.indexAt,asIntOf,Sem.run_bind,run_underlying hu,h0,hl,aU,ZhR]
      .rename_i id sz lo len n0;split at h
       .rename_i hb;obtain rfl:=ZaH hb;simp only[Option.some.injEq,Prod.mk.injEq]at h;obtain⟨rfl,rfl⟩:=h;obtain⟨h0,hl⟩ : 0<=n/\n<len:=ho _ (by simp);cases hx with
        |osub hm hc hl2 hn ha h00 h1=>
         obtain⟨b,rfl⟩:=ha.resolve_left (by omega);have e0:=h00 (by omega);rw[Option.map_some,ZhR,Nat.zero_add]at e0;subst e0;refine⟨.pointer (some ⟨b,(lo+n.toNat)*te.size+0,none⟩),?_,RepC.eptr hm⟩;have e:lo*te.size+n.toNat*te.size=(lo+n.toNat)*te.size:=by rw[Nat.add_mul]
         simp[Instr.indexAt,asIntOf,Sem.run_bind,run_underlying hu,h0,hl,aU,ZhR,e]
       .cases h
      .cases h
     .cases h
    .cases h
   .rename_i len e hk;rw[hk]at hf;cases d<;>simp only[TK.fits]at hf;obtain⟨rfl,rfl⟩:=hf;split at h
    .rename_i te bF;have aU:=hT.size bF w;split at h
     .rename_i v' hv;simp only[Option.some.injEq,Prod.mk.injEq]at h;obtain⟨rfl,rfl⟩:=h;obtain⟨h0,hl⟩ : 0<=n/\n<(len:Int):=ho _ (by simp);obtain⟨b,off,rfl,hr⟩:=Zvm hx hv;refine⟨_,?_,hr⟩;simp[Instr.indexAt,asIntOf,Instr.sureAddr,Sem.run_bind,run_underlying hu,h0,hl,aU,ZhR]
     .cases h
    .cases h
   .cases h
  .cases h
 .cases h
def ZGd(T:Tab)(ty:TypeId)(l:List C)(o:Nat):Option V:=match ZeV T ty with
 |some ti=>match ti.k.known with
  |true=>match cut l o ti.size with
   |some l'=>mkV ti.isAgg l'
   |none=>none
  |false=>none
 |none=>none
theorem Zwd{P:Program}{T:Tab}(hT:Zes P T){S:Nat->Prop}{w:World}{m:Mp}{ty o:Nat}{l:List C}{v:V}{xs:Array Value}(hl:RepL S w m l xs.toList)(h:ZGd T ty l o=some v) :
  ∃x,(part ty xs o).run P w=.ok x w/\RepV S w m v x:=by
 unfold ZGd at h;split at h
 .rename_i ti a7;split at h
  .rename_i hk;have cz:=hT.isAgg a7 (TK.known_ne hk) w;have aU:=hT.size a7 w;split at h
   .rename_i l' ic;obtain⟨hle,rfl⟩:=ZGj ic;obtain⟨h1,h2,h3⟩:=hl;have hget:∀(j:Nat)(c:C),((l.drop o).take ti.size)[j]?=some c->∃x,xs.toList[o+j]?=some x/\RepC S w m c x:=by
     intro j c hj;rw[List.getElem?_take]at hj;split at hj
     .rw[List.getElem?_drop]at hj;exact h2 _ c hj
     .cases hj
    cases ha:ti.isAgg with
    |true=>
     rw[ha]at h cz;simp only[mkV,Option.some.injEq]at h;subst h;refine⟨.agg (xs.extract o (o+ti.size)),by simp[part,Sem.run_bind,cz,aU],_,rfl,?_,fun j c hj=>?_,fun x hx=>h3 x ?_⟩
     .simp at h1;simp;omega
     .obtain⟨x,h4,h5⟩:=hget j c hj;refine⟨x,?_,h5⟩;have hj2:j<ti.size:=by
       have:=(List.getElem?_eq_some_iff.1 hj).1;simp at this;omega
      simp only[Array.toList_extract,List.extract_eq_take_drop,List.getElem?_take,List.getElem?_drop];rw[if_pos (by omega)];exact h4
     .simp only[Array.toList_extract,List.extract_eq_take_drop]at hx;exact List.mem_of_mem_drop (List.mem_of_mem_take hx)
    |false=>
     rw[ha]at h cz
     match hq:(l.drop o).take ti.size,h with
     | [c],h=>
      simp only[mkV,Option.some.injEq]at h;subst h;obtain⟨x,h4,h5⟩:=hget 0 c (by rw[hq];rfl);refine⟨x,?_,h5⟩;simp only[Nat.add_zero,Array.getElem?_toList]at h4;simp[part,Sem.run_bind,cz,h4]
   .cases h
  .cases h
 .cases h
def ZEs(T:Tab)(t f:Nat)(x:V):Option V:=match ZeV T t with
 |some ti=>match ti.k,x with
  | .struct fs,.agg l=>match fs[f]? with
   |some (o,ty)=>ZGd T ty l o
   |none=>none
  |_,_=>none
 |none=>none
theorem ZEr{P:Program}{T:Tab}(hT:Zes P T){S:Nat->Prop}{w:World}{m:Mp}{t f:Nat}{x v:V}{px:Value}(hx:RepV S w m x px)(h:ZEs T t f x=some v) :
  ∃y,(Instr.field t px f).run P w=.ok y w/\RepV S w m v y:=by
 unfold ZEs at h;split at h
 .rename_i ti a7;obtain⟨d,hu,hf⟩:=hT.under a7;split at h
  .rename_i fs l hk;rw[hk]at hf;cases d<;>simp only[TK.fits]at hf;split at h
   .rename_i o ty ig;obtain⟨gg,h1,h2,h3⟩:=Zso hf ig;obtain⟨xs,rfl,hl⟩:=hx;obtain⟨y,h4,h5⟩:=Zwd hT hl h;refine⟨y,?_,h5⟩;simp[Instr.field,Sem.run_bind,run_underlying hu,h1,asAgg,h2,h3,h4]
   .cases h
  .cases h
 .cases h
def ZkA(s:ByteArray)(n:Nat):Nat:=(s.data.toList.getD n 0).toNat
def ZEl(T:Tab)(t:Nat)(x i:V):Option (V×List Prop):=match ZeV T t with
 |some ti=>match intV i with
  |some (k,n)=>match ti.k,x with
   | .array len e,.agg l=>match ZeV T e with
    |some te=>match ZGd T e l (n.toNat*te.size)with
     |some v=>some (v,[0<=n/\n<len])
     |none=>none
    |none=>none
   | .str,.one (.lit (.string s))=>some (.one (.lit (.int .u8 (ZkA s n.toNat))),[0<=n/\n<s.size])
   |_,_=>none
  |none=>none
 |none=>none
theorem ZEk{P:Program}{T:Tab}(hT:Zes P T){S:Nat->Prop}{w:World}{m:Mp}{t:Nat}{x i v:V}{px pi:Value}{obl:List Prop}(hx:RepV S w m x px)(hi:RepV S w m i pi)(h:ZEl T t x i=some (v,obl))(ho:∀q∈obl,q) :
  ∃y,(Instr.index t px pi).run P w=.ok y w/\RepV S w m v y:=by
 unfold ZEl at h;split at h
 .rename_i ti a7;obtain⟨d,hu,hf⟩:=hT.under a7;split at h
  .rename_i k n hn;obtain rfl:=ZoD hi hn;split at h
   .rename_i len e l hk;rw[hk]at hf;cases d<;>simp only[TK.fits]at hf;obtain⟨rfl,rfl⟩:=hf;split at h
    .rename_i te bF;have aU:=hT.size bF w;split at h
     .rename_i v' hv;simp only[Option.some.injEq,Prod.mk.injEq]at h;obtain⟨rfl,rfl⟩:=h;obtain⟨h0,hl⟩ : 0<=n/\n<(len:Int):=ho _ (by simp);obtain⟨xs,rfl,hl2⟩:=hx;obtain⟨y,h4,h5⟩:=Zwd hT hl2 hv;refine⟨y,?_,h5⟩;simp[Instr.index,asIntOf,Sem.run_bind,run_underlying hu,h0,hl,aU,h4]
     .cases h
    .cases h
   .rename_i s hk;rw[hk]at hf;cases d<;>simp only[TK.fits]at hf;simp only[Option.some.injEq,Prod.mk.injEq]at h;obtain⟨rfl,rfl⟩:=h;obtain⟨h0,hl⟩ : 0<=n/\n<(s.size:Int):=ho _ (by simp);cases hx;refine⟨_,?_,RepC.lit⟩;have hlt:n.toNat<s.size:=by omega
    have hlt2:n.toNat<s.data.toList.length:=by simpa using hlt
    have:s[n.toNat]?=some s[n.toNat]:=by simp[hlt]
    have hb:(s.data.toList.getD n.toNat 0)=s[n.toNat]:=by
     rw[List.getD_eq_getElem?_getD,List.getElem?_eq_getElem hlt2];simp[ByteArray.getElem_eq_getElem_data]
    simp[Instr.index,asIntOf,Sem.run_bind,run_underlying hu,h0,this,ZkA,<-hb]
   .cases h
  .cases h
 .cases h
def Zum(x:V)(i:Nat):Option V:=match x with
 | .tup l=>match l[i]? with
  |some (true,cs)=>some (.agg cs)
  |some (false,[c])=>some (.one c)
  |_=>none
 |_=>none
theorem ZxJ{P:Program}{S:Nat->Prop}{w:World}{m:Mp}{x v:V}{i:Nat}{px:Value}(hx:RepV S w m x px)(h:Zum x i=some v):∃y,(Instr.extract px i).run P w=.ok y w/\RepV S w m v y:=by
 unfold Zum at h;split at h
 .rename_i l;obtain⟨xs,rfl,h1,h2⟩:=hx;split at h
  .rename_i cs hl;cases h;obtain⟨y,h3,h4⟩:=h2 i _ hl;exact⟨y,by simp[Instr.extract,h3],h4⟩
  .rename_i c hl;cases h;obtain⟨y,h3,h4⟩:=h2 i _ hl;exact⟨y,by simp[Instr.extract,h3],h4⟩
  .cases h
 .cases h
def ZKv(T:Tab)(st:St)(t:Nat)(x:V):Option V:=match ZeV T t with
 |some ti=>match ti.k,x with
  | .slice _,.one (.sl _ len _)=>some (.one (.lit (.int .i64 len)))
  | .slice _,.one (.lsl _ len _)=>some (.one (.lit (.int .i64 len)))
  | .slice _,.one (.osl _ len)=>some (.one (.lit (.int .i64 len)))
  | .slice _,.one (.osub _ _ _ len _)=>some (.one (.lit (.int .i64 len)))
  | .slice _,.one (.lit (.slice _ len _))=>some (.one (.lit (.int .i64 len)))
  | .str,.one (.lit (.string s))=>some (.one (.lit (.int .i64 s.size)))
  | .array n _,_=>some (.one (.lit (.int .i64 n)))
  |_,_=>none
 |none=>none
theorem ZKu{P:Program}{T:Tab}(hT:Zes P T){S:Nat->Prop}{w:World}{m:Mp}{st:St}{t ty:Nat}{x v:V}{px:Value}(hx:RepV S w m x px)(h:ZKv T st t x=some v) :
  ∃y,(Builtin.len_ #[t] ty #[px]).run P w=.ok y w/\RepV S w m v y:=by
 unfold ZKv at h;split at h
 .rename_i ti a7;obtain⟨d,hu,hf⟩:=hT.under a7;split at h
  .rename_i hk;rw[hk]at hf;cases d<;>simp only[TK.fits]at hf;cases h;cases hx;exact⟨_,by simp[Builtin.len_,Sem.run_bind,run_underlying hu,goInt],RepC.lit⟩
  .rename_i hk;rw[hk]at hf;cases d<;>simp only[TK.fits]at hf;cases h;cases hx;exact⟨_,by simp[Builtin.len_,Sem.run_bind,run_underlying hu,goInt],RepC.lit⟩
  .rename_i hk;rw[hk]at hf;cases d<;>simp only[TK.fits]at hf;cases h;cases hx;exact⟨_,by simp[Builtin.len_,Sem.run_bind,run_underlying hu,goInt],RepC.lit⟩
  .rename_i hk;rw[hk]at hf;cases d<;>simp only[TK.fits]at hf;cases h;cases hx;exact⟨_,by simp[Builtin.len_,Sem.run_bind,run_underlying hu,goInt],RepC.lit⟩
  .rename_i hk;rw[hk]at hf;cases d<;>simp only[TK.fits]at hf;cases h;cases hx;exact⟨_,by simp[Builtin.len_,Sem.run_bind,run_underlying hu,goInt],RepC.lit⟩
  .rename_i hk;rw[hk]at hf;cases d<;>simp only[TK.fits]at hf;cases h;cases hx;exact⟨_,by simp[Builtin.len_,Sem.run_bind,run_underlying hu,goInt],RepC.lit⟩
  .rename_i hk;rw[hk]at hf;cases d<;>simp only[TK.fits]at hf;obtain⟨rfl,rfl⟩:=hf;cases h;exact⟨_,by simp[Builtin.len_,Sem.run_bind,run_underlying hu,goInt],RepC.lit⟩
  .cases h
 .cases h
def ZGc(sz:Nat)(x:V)(l h:Option Int):Option (V×List Prop):=match x with
 | .one (.osl id len)=>some (.one (.osub id sz (l.getD 0).toNat ((h.getD len).toNat-(l.getD 0).toNat) len),[0<=l.getD 0/\l.getD 0<=h.getD len/\h.getD len<=(len:Int)])
 | .one (.osub id sz' lo len n)=>match Nat.beq sz' sz with
  |true=>some (.one (.osub id sz (lo+(l.getD 0).toNat) ((h.getD len).toNat-(l.getD 0).toNat) n),[0<=l.getD 0/\l.getD 0<=h.getD len/\(lo:Int)+h.getD len<=(n:Int)])
  |false=>none
 |_=>none
def ZzO:Option V->Option (Option Int)
 |none=>some none
 |some v=>match intV v with
  |some (_,n)=>some (some n)
  |none=>none
def ZEc(T:Tab)(t:Nat)(x:V)(lo hi mx:Option V):Option (V×List Prop):=match ZeV T t with
 |some ti=>match ZzO lo,ZzO hi,mx with
  |some l,some h,none=>match ti.k,x with
   | .slice e,.one (.osl id len)=>match ZeV T e with
    |some te=>ZGc te.size (.one (.osl id len)) l h
    |none=>none
   | .slice e,.one (.osub id sz lo len n)=>match ZeV T e with
    |some te=>ZGc te.size (.one (.osub id sz lo len n)) l h
    |none=>none
   | .slice e,.one (.sl sz len cell)=>match ZeV T e with
    |some te=>match Nat.beq sz te.size with
     |true=>match l,h with
      |none,none=>some (.one (.sl sz len cell),[])
      |some l,none=>some (.one (.sl sz (len-l.toNat) fun i=>cell (l.toNat+i)),[0<=l/\l<=len])
      |none,some h=>some (.one (.sl sz h.toNat cell),[0<=h/\h<=len])
      |some l,some h=>some (.one (.sl sz (h.toNat-l.toNat) fun i=>cell (l.toNat+i)),[0<=l/\l<=h/\h<=len])
     |false=>none
    |none=>none
   | .slice e,.one (.lsl sz len cell)=>match ZeV T e with
    |some te=>match Nat.beq sz te.size,l,h with
     |true,some l,none=>some (.one (.lsl sz (len-l.toNat) fun i=>cell (l.toNat+i)),[0<=l/\l<=len])
     |_,_,_=>none
    |none=>none
   | .array n e,.one (.rp false q cell)=>match ZeV T e,l,h with
    |some te,none,none=>match Nat.beq q (n*te.size),Nat.blt 0 n with
     |true,true=>some (.one (.sl te.size n fun i j=>cell (i*te.size+j)),[])
     |_,_=>none
    |_,_,_=>none
   | .str,.one (.lit (.string s))=>some (.one (.lit (.string (s.extract (l.getD 0).toNat (h.getD s.size).toNat))),[0<=l.getD 0/\l.getD 0<=h.getD s.size/\h.getD s.size<=s.size])
   |_,_=>none
  |some l,some h,some mv=>match ti.k,x,intV mv with
   | .slice e,.one (.osl id len),some (_,mm)=>match ZeV T e,h with
    |some te,some hh=>some (.one .junk,[0<=l.getD 0/\l.getD 0<=hh/\hh<=mm/\mm<=(len:Int)])
    |_,_=>none
   |_,_,_=>none
  |_,_,_=>none
 |none=>none
theorem RepC.piece{S:Nat->Prop}{w:World}{m:Mp}{sz len:Nat}{cell:Nat->Nat->C}{a:Option Addr}{cap:Nat}(h:RepC S w m (.sl sz len cell) (.slice a len cap))(l n:Nat)(hn:l+n<=len)(m':Nat)(hm:n<=m')(f:Bool)(hf:f=true->l=len) :
  RepC S w m (.sl sz n fun i=>cell (l+i)) (.slice (if f=true then a else a.map (·.add (l*sz))) n m'):=by
 cases h with
 |sl b off vals hcap ha hc h1 hr=>
  refine .sl b (off+l*sz) (fun i=>vals (l+i)) hm (fun hl=>?_) (fun i j hi hj=>?_) (fun i j hi hj=>h1 _ _ (by omega) hj) (fun i j hi hj=>hr _ _ (by omega) hj)
  .obtain⟨rfl,hb⟩:=ha (by omega);refine⟨?_,hb⟩;have:¬(f=true):=fun e=>by have:=hf e;omega
   rw[if_neg this];simp[ZhR]
  .rw[show off+l*sz+i*sz+j=off+(l+i)*sz+j by rw[Nat.add_mul];omega];exact hc _ _ (by omega) hj
theorem RepC.pieceL{S:Nat->Prop}{w:World}{m:Mp}{sz len:Nat}{cell:Nat->Nat->C}{a:Option Addr}{cap:Nat}(h:RepC S w m (.lsl sz len cell) (.slice a len cap))(l n:Nat)(hn:l+n<=len)(m':Nat)(hm:n<=m')(f:Bool)(hf:f=true->l=len) :
  RepC S w m (.lsl sz n fun i=>cell (l+i)) (.slice (if f=true then a else a.map (·.add (l*sz))) n m'):=by
 cases h with
 |lsl b off vals hcap ha hc h1 hr=>
  refine .lsl b (off+l*sz) (fun i=>vals (l+i)) hm (fun hl=>?_) (fun i j hi hj=>?_) (fun i j hi hj=>h1 _ _ (by omega) hj) (fun i j hi hj=>hr _ _ (by omega) hj)
  .obtain⟨rfl,hb⟩:=ha (by omega);refine⟨?_,hb⟩;have:¬(f=true):=fun e=>by have:=hf e;omega
   rw[if_neg this];simp[ZhR]
  .rw[show off+l*sz+i*sz+j=off+(l+i)*sz+j by rw[Nat.add_mul];omega];exact hc _ _ (by omega) hj
theorem ZHe{S:Nat->Prop}{w:World}{m:Mp}{v:V}{x:Value}{l:Option Int}(h:RepV S w m v x)(hl:ZzO (some v)=some l):∃k n,l=some n/\x=.int k n:=by
 unfold ZzO at hl;simp only at hl;split at hl
 .rename_i k n hn;cases hl;exact⟨k,n,rfl,ZoD h hn⟩
 .cases hl
def RepO(S:Nat->Prop)(w:World)(m:Mp):Option V->Option Value->Prop|none,none=>True|some v,some x=>RepV S w m v x|_,_=>False
theorem Zox{S:Nat->Prop}{w:World}{m:Mp}{v:Option V}{x:Option Value}{l:Option Int}(h:RepO S w m v x)(hl:ZzO v=some l):(l=none/\x=none)\/∃k n,l=some n/\x=some (.int k n):=by
 match v,x,h with
 |none,none,_=>cases hl;exact .inl ⟨rfl,rfl⟩
 |some v,some x,h=>
  obtain⟨k,n,rfl,rfl⟩:=ZHe h hl;exact .inr ⟨k,n,rfl,rfl⟩
theorem Zwo{P:Program}{w:World}{len cap:Nat}{l h:Option Int}{fF fG:Option Value}(e1:(l=none/\fF=none)\/∃k n,l=some n/\fF=some (.int k n))(e2:(h=none/\fG=none)\/∃k n,h=some n/\fG=some (.int k n))
  (o1:0<=l.getD 0) (o2:l.getD 0<=h.getD len) (o3:h.getD len<=(cap:Int)):(Instr.sliceBounds true len cap fF fG none).run P w=.ok ((l.getD 0).toNat,(h.getD len).toNat,cap) w:=by
 rcases e1 with⟨rfl,rfl⟩|⟨k1,n1,rfl,rfl⟩<;>rcases e2 with⟨rfl,rfl⟩|⟨k2,n2,rfl,rfl⟩<;>simp only[Option.getD_none,Option.getD_some]at o1 o2 o3 ⊢
 .simp[Instr.sliceBounds,Sem.run_bind]
 .simp[Instr.sliceBounds,Instr.sliceBound,asIntOf,Sem.run_bind,o2,o3]
 .simp[Instr.sliceBounds,Instr.sliceBound,asIntOf,Sem.run_bind,o1,o2]
 .have q2:0<=n2:=by omega
  have q3:n1<=max n2 0:=by omega
  simp[Instr.sliceBounds,Instr.sliceBound,asIntOf,Sem.run_bind,o1,o3,q2,q3]
theorem ZuG(a:Addr):a.add 0=a:=by simp[Addr.add]
theorem Zwb{P:Program}{S:Nat->Prop}{w:World}{m:Mp}{t e:TypeId}{sz:Nat}(hu:P.underlying t=some (.slice e))(aU:(sizeOf e).run P w=.ok sz w){x v:V}{l h:Option Int}{px:Value}{fF fG:Option Value}{obl:List Prop}
  (hx:RepV S w m x px) (e1:(l=none/\fF=none)\/∃k n,l=some n/\fF=some (.int k n)) (e2:(h=none/\fG=none)\/∃k n,h=some n/\fG=some (.int k n))
  (hv:ZGc sz x l h=some (v,obl)) (ho:∀q∈obl,q):∃y,(Instr.sliceAt t px fF fG none).run P w=.ok y w/\RepV S w m v y:=by
 unfold ZGc at hv;split at hv
 .rename_i id len;simp only[Option.some.injEq,Prod.mk.injEq]at hv;obtain⟨rfl,rfl⟩:=hv;obtain⟨o1,o2,o3⟩ : 0<=l.getD 0/\l.getD 0<=h.getD len/\h.getD len<=(len:Int):=ho _ (by simp);cases hx with
  |osl hm h00 hle=>
   rename_i a c;refine⟨.slice (if c=(l.getD 0).toNat then a else a.map (·.add ((l.getD 0).toNat*sz))) ((h.getD len).toNat-(l.getD 0).toNat) (c-(l.getD 0).toNat),?_,RepC.osub hm rfl (by omega) hle h00 (fun hlt=>?_) (fun h0=>?_)⟩
   .have hb:=Zwo (P:=P) (w:=w) (len:=len) (cap:=c) e1 e2 o1 o2 (by omega);simp[Instr.sliceAt,Instr.slice,Sem.run_bind,run_underlying hu,aU,hb]
   .rw[if_neg (by omega)]
   .rw[h0];split
    .rfl
    .cases a<;>simp[ZuG]
 .rename_i id sz' lo len n;split at hv
  .rename_i hb;obtain rfl:=ZaH hb;simp only[Option.some.injEq,Prod.mk.injEq]at hv;obtain⟨rfl,rfl⟩:=hv;obtain⟨o1,o2,o3⟩ : 0<=l.getD 0/\l.getD 0<=h.getD len/\(lo:Int)+h.getD len<=(n:Int):=ho _ (by simp);cases hx with
   |osub hm hc hl hn ha h0 h1=>
    rename_i c c' a a';subst hc;refine⟨.slice (if c-lo=(l.getD 0).toNat then a' else a'.map (·.add ((l.getD 0).toNat*sz'))) ((h.getD len).toNat-(l.getD 0).toNat) (c-lo-(l.getD 0).toNat),?_,RepC.osub hm (by omega) (by omega) hn ha (fun hlt=>?_) (fun h0'=>?_)⟩
    .have hb:=Zwo (P:=P) (w:=w) (len:=len) (cap:=c-lo) e1 e2 o1 o2 (by omega);simp[Instr.sliceAt,Instr.slice,Sem.run_bind,run_underlying hu,aU,hb]
    .rw[if_neg (by omega),h0 (by omega)];rcases ha with rfl|⟨b,rfl⟩
     .have e1:lo=0:=by omega
      have e2:(l.getD 0).toNat=0:=by omega
      rw[e1,e2];cases a<;>simp[ZuG]
     .simp only[Option.map_some,ZhR];rw[Nat.add_mul,Nat.zero_add,Nat.zero_add]
    .have e1:lo=0:=by omega
     have e2:(l.getD 0).toNat=0:=by omega
     rw[e2,h1 e1];split
     .rfl
     .cases a<;>simp[ZuG]
  .cases hv
 .cases hv
theorem ZEb{P:Program}{T:Tab}(hT:Zes P T){S:Nat->Prop}{w:World}{m:Mp}{t:Nat}{x v:V}{lo hi mx:Option V}{px:Value}{fF fG ii:Option Value}{obl:List Prop}(hx:RepV S w m x px)
  (h1:RepO S w m lo fF) (h2:RepO S w m hi fG) (h3:RepO S w m mx ii) (h:ZEc T t x lo hi mx=some (v,obl)) (ho:∀q∈obl,q):∃y,(Instr.sliceAt t px fF fG ii).run P w=.ok y w/\RepV S w m v y:=by
 unfold ZEc at h;split at h
 .rename_i ti a7;obtain⟨d,hu,hf⟩:=hT.under a7;split at h
  .rename_i l hh hl hhi;obtain rfl:ii=none:=by cases ii<;>first|rfl|exact h3.elim
   have e1:=Zox h1 hl;have e2:=Zox h2 hhi;split at h
   .rename_i e id len hk;rw[hk]at hf;cases d<;>simp only[TK.fits]at hf;subst hf;split at h
    .rename_i te bF;exact Zwb hu (hT.size bF w) hx e1 e2 h ho
    .cases h
   .rename_i e id sz lo len n hk;rw[hk]at hf;cases d<;>simp only[TK.fits]at hf;subst hf;split at h
    .rename_i te bF;exact Zwb hu (hT.size bF w) hx e1 e2 h ho
    .cases h
   .rename_i e sz len cell hk;rw[hk]at hf;cases d<;>simp only[TK.fits]at hf;subst hf;split at h
    .rename_i te bF;have aU:=hT.size bF w;split at h
     .rename_i hb;obtain rfl:=ZaH hb;have eh:=hx;cases hx with
      |sl b off vals hcap ha hc h1' hr=>
       rename_i a cap;split at h
       .simp only[Option.some.injEq,Prod.mk.injEq]at h;obtain⟨rfl,rfl⟩:=h;obtain⟨_,rfl⟩ : _:=e1.resolve_right (by simp);obtain⟨_,rfl⟩ : _:=e2.resolve_right (by simp);refine⟨.slice a len cap,?_,eh⟩;by_cases hc0:cap=0
        .simp[Instr.sliceAt,Instr.slice,Instr.sliceBounds,Sem.run_bind,run_underlying hu,aU,hc0]
        .simp[Instr.sliceAt,Instr.slice,Instr.sliceBounds,Sem.run_bind,run_underlying hu,aU,hc0];cases a<;>simp[Addr.add]
       .rename_i l;simp only[Option.some.injEq,Prod.mk.injEq]at h;obtain⟨rfl,rfl⟩:=h;obtain⟨k1,n1,hq,rfl⟩:=e1.resolve_left (by simp);cases hq;obtain⟨_,rfl⟩ : _:=e2.resolve_right (by simp);obtain⟨eY,dx⟩ : 0<=l/\l<=len:=ho _ (by simp);have hrep:=RepC.piece eh l.toNat (len-l.toNat) (by omega) (cap-l.toNat) (by omega) (decide (cap=l.toNat)) (by intro hq;simp at hq;omega);refine⟨_,?_,hrep⟩;simp[Instr.sliceAt,Instr.slice,Instr.sliceBounds,Instr.sliceBound,asIntOf,Sem.run_bind,run_underlying hu,aU,eY,dx]
       .rename_i hh;simp only[Option.some.injEq,Prod.mk.injEq]at h;obtain⟨rfl,rfl⟩:=h;obtain⟨_,rfl⟩ : _:=e1.resolve_right (by simp);obtain⟨k2,n2,hq,rfl⟩:=e2.resolve_left (by simp);cases hq;obtain⟨eY,dx⟩ : 0<=hh/\hh<=len:=ho _ (by simp);have hrep:=RepC.piece eh 0 hh.toNat (by omega) cap (by omega) (decide (cap=0)) (by intro hq;simp at hq;omega);refine⟨_,?_,(by simp only[Nat.zero_add]at hrep;exact hrep)⟩;have:hh<=cap:=by omega
        simp[Instr.sliceAt,Instr.slice,Instr.sliceBounds,Instr.sliceBound,asIntOf,Sem.run_bind,run_underlying hu,aU,eY,this]
       .rename_i l hh;simp only[Option.some.injEq,Prod.mk.injEq]at h;obtain⟨rfl,rfl⟩:=h;obtain⟨k1,n1,hq,rfl⟩:=e1.resolve_left (by simp);cases hq;obtain⟨k2,n2,hq,rfl⟩:=e2.resolve_left (by simp);cases hq;obtain⟨eY,dx,jg⟩ : 0<=l/\l<=hh/\hh<=len:=ho _ (by simp);have hrep:=RepC.piece eh l.toNat (hh.toNat-l.toNat) (by omega) (cap-l.toNat) (by omega) (decide (cap=l.toNat)) (by intro hq;simp at hq;omega);refine⟨_,?_,hrep⟩;have q1:hh<=cap:=by omega
        have q2:0<=hh:=by omega
        have q3:l<=max hh 0:=by omega
        simp[Instr.sliceAt,Instr.slice,Instr.sliceBounds,Instr.sliceBound,asIntOf,Sem.run_bind,run_underlying hu,aU,eY,q1,q2,q3]
     .cases h
    .cases h
   .rename_i e sz len cell hk;rw[hk]at hf;cases d<;>simp only[TK.fits]at hf;subst hf;split at h;rotate_left
    .cases h
    rename_i te bF;have aU:=hT.size bF w;split at h;rotate_left
    .cases h
    rename_i l hb;obtain rfl:=ZaH hb;have eh:=hx;cases hx with
    |lsl b off vals hcap ha hc h1' hr=>
     rename_i a cap;simp only[Option.some.injEq,Prod.mk.injEq]at h;obtain⟨rfl,rfl⟩:=h;obtain⟨k1,n1,hq,rfl⟩:=e1.resolve_left (by simp);cases hq;obtain⟨_,rfl⟩ : _:=e2.resolve_right (by simp);obtain⟨eY,dx⟩ : 0<=l/\l<=len:=ho _ (by simp);have hrep:=RepC.pieceL eh l.toNat (len-l.toNat) (by omega) (cap-l.toNat) (by omega) (decide (cap=l.toNat)) (by intro hq;simp at hq;omega);refine⟨_,?_,hrep⟩;simp[Instr.sliceAt,Instr.slice,Instr.sliceBounds,Instr.sliceBound,asIntOf,Sem.run_bind,run_underlying hu,aU,eY,dx]
   .rename_i n e q cell hk;rw[hk]at hf;cases d<;>simp only[TK.fits]at hf;obtain⟨rfl,rfl⟩:=hf;split at h;rotate_left
    .cases h
    rename_i te bF;have aU:=hT.size bF w;split at h;rotate_left
    .cases h
    rename_i hq hn;simp only[Option.some.injEq,Prod.mk.injEq]at h;obtain⟨rfl,rfl⟩:=h;have hq:=Nat.eq_of_beq_eq_true hq;have hn:0<n:=Nat.le_of_ble_eq_true hn;obtain⟨_,rfl⟩ : _:=e1.resolve_right (by simp);obtain⟨_,rfl⟩ : _:=e2.resolve_right (by simp);cases hx with
    |rp b off vals ha hc h1' hr=>
     have hlt:∀i j,i<n->j<te.size->i*te.size+j<q:=fun i j hi hj=>by
      rw[hq]
      calc i*te.size+j<i*te.size+te.size:=by omega
       _=(i+1)*te.size:=by rw[Nat.add_mul,Nat.one_mul]
       _<=n*te.size:=Nat.mul_le_mul_right _ hi
     refine⟨.slice (some ⟨b,off,none⟩) n n,?_,RepC.sl b off (fun i j=>vals (i*te.size+j)) (Nat.le_refl _) (fun _=>⟨rfl,ha⟩) (fun i j hi hj=>?_) (fun i j hi hj=>h1' _ (hlt i j hi hj)) (fun i j hi hj=>hr _ (hlt i j hi hj))⟩
     .simp[Instr.sliceAt,Instr.sureAddr,Instr.sliceBounds,Sem.run_bind,run_underlying hu,aU,Addr.add]
     .rw[Nat.add_assoc];exact hc _ (hlt i j hi hj)
   .rename_i s hk;rw[hk]at hf;cases d<;>simp only[TK.fits]at hf;simp only[Option.some.injEq,Prod.mk.injEq]at h;obtain⟨rfl,rfl⟩:=h;obtain⟨eY,dx,jg⟩ : 0<=l.getD 0/\l.getD 0<=hh.getD s.size/\hh.getD s.size<=s.size:=ho _ (by simp);cases hx;refine⟨_,?_,RepC.lit⟩;rcases e1 with⟨rfl,rfl⟩|⟨k1,n1,rfl,rfl⟩<;>rcases e2 with⟨rfl,rfl⟩|⟨k2,n2,rfl,rfl⟩<;>simp only[Option.getD_none,Option.getD_some]at eY dx jg ⊢
    .simp[Instr.sliceAt,Instr.slice,Instr.sliceBounds,Instr.sliceBound,asIntOf,Sem.run_bind,run_underlying hu]
    .simp[Instr.sliceAt,Instr.slice,Instr.sliceBounds,Instr.sliceBound,asIntOf,Sem.run_bind,run_underlying hu,dx,jg]
    .simp[Instr.sliceAt,Instr.slice,Instr.sliceBounds,Instr.sliceBound,asIntOf,Sem.run_bind,run_underlying hu,eY,dx]
    .have q2:0<=n2:=by omega
     have q3:n1<=max n2 0:=by omega
     simp[Instr.sliceAt,Instr.slice,Instr.sliceBounds,Instr.sliceBound,asIntOf,Sem.run_bind,run_underlying hu,eY,jg,q2,q3]
   .cases h
  .rename_i l hh mv hl hhi;have e1:=Zox h1 hl;have e2:=Zox h2 hhi;split at h
   .rename_i e id len mm0 mm hk ij;rw[hk]at hf;cases d<;>simp only[TK.fits]at hf;subst hf;split at h
    .rename_i te im bF;have aU:=hT.size bF w;simp only[Option.some.injEq,Prod.mk.injEq]at h;obtain⟨rfl,rfl⟩:=h;obtain⟨o1,o2,o3,o4⟩ : 0<=l.getD 0/\l.getD 0<=im/\im<=mm/\mm<=(len:Int):=ho _ (by simp)
     match ii,h3 with
     |some pm,h3=>
      obtain rfl:=ZoD h3 ij;obtain⟨k2,n2,hq,rfl⟩:=e2.resolve_left (by simp);cases hq;cases hx with
      |osl hm h00 hle=>
       rename_i a c;have q1:0<=mm:=by omega
       have q2:mm<=(c:Int):=by omega
       have q3:0<=im:=by omega
       have q4:im<=max mm 0:=by omega
       rcases e1 with⟨rfl,rfl⟩|⟨k1,n1,rfl,rfl⟩<;>simp only[Option.getD_none,Option.getD_some]at o1 o2
       .exact⟨_,by simp[Instr.sliceAt,Instr.slice,Instr.sliceBounds,Instr.sliceBound,asIntOf,Sem.run_bind,run_underlying hu,aU,q1,q2,q3,q4];rfl,RepC.junk⟩
       .have q5:n1<=max im 0:=by omega
        exact⟨_,by simp[Instr.sliceAt,Instr.slice,Instr.sliceBounds,Instr.sliceBound,asIntOf,Sem.run_bind,run_underlying hu,aU,q1,q2,q3,q4,o1,q5];rfl,RepC.junk⟩
    .cases h
   .cases h
  .cases h
 .cases h
end Go.Proofs.YtnigiacmmedkhaaGreat
