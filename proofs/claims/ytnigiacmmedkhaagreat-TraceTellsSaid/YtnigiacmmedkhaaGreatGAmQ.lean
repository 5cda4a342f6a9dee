import Derived.Test.YtnigiacmmedkhaaGreatGAmP
namespace Go.Proofs.YtnigiacmmedkhaaGreat
open Go.RowKit
set_option linter.unusedSimpArgs false
set_option linter.unusedVariables false
def Zcn:Op->List Operand | .move x | .assign x | .box _ x | .load _ x | .nilCheck x | .makeInterface _ x | .unOp _ _ x | .convert _ _ x | .fieldAddr _ x _ | .field _ x _ | .extract x _=>[x] | .pick c x y=>[c,x,y] | .build _ ps | .buildSlice _ _ ps=>ps.toList.map (·.2) | .store _ p x=>[p,x] | .binOp _ _ x y _=>[x,y] | .lookup _ x k _=>[x,k] | .mapEntry _ x k=>[x,k] | .entryStore _ x s v=>[x,s,v] | .makeSlice _ l c=>[l,c] | .slice _ x lo hi mx=>x :: (lo.toList++hi.toList++mx.toList) | .indexAddr _ x i | .index _ x i=>[x,i] | .makeFunc _ a b=>a.toList++b.toList | .call { callee:=.value f,args,.. }=>f :: args.toList | .call { callee:=.builtin _,args,.. }=>args.toList | .call { callee:=.invoke r _,args,.. }=>r :: args.toList|_=>[]
def Zfm(ra:RA)(i:Nat):Op->Nat
 | .move _ | .assign _=>match Zcw ra.an i with
  |some (.c _ _)=>4
  |_=>0
 | .pick .. | .binOp .. | .unOp .. | .convert .. | .extract .. | .field .. | .fieldAddr .. | .nilCheck _ | .indexAddr .. | .index .. | .build .. | .slice .. | .makeFunc .. | .makeInterface ..=>0
 | .call { callee:=.builtin .len,.. } | .call { callee:=.builtin .min,.. } | .call { callee:=.builtin .max,.. }=>0
 | .buildSlice ..=>match Zcw ra.an i with
  |some (.c _ _)=>3
  |_=>0
 | .load .. | .lookup ..=>1
 | .call { callee:=.value _,.. }=>1
 | .store .. | .mapEntry .. | .entryStore ..=>2
 | .makeSlice ..=>match Zcw ra.an i with
  |some (.r _ _)=>0
  |_=>3
 | .alloc _ | .box ..=>3
 | .call { callee:=.builtin .append,.. }=>match Zcw ra.an i with
  |some (.r _ _)=>2
  |_=>3
 |_=>4
theorem Zxf{st st2:St}{l:List Operand}(h:∀x∈l,evo st2 x=evo st x):l.map (evo st2)=l.map (evo st):=List.map_congr_left h
theorem Zrj{st st2:St}{l:List (Nat×Operand)}(h:∀x∈l.map (·.2),evo st2 x=evo st x):(l.map fun p=>(p.1,evo st2 p.2))=l.map fun p=>(p.1,evo st p.2):=
 List.map_congr_left fun p hp=>by rw[h p.2 (List.mem_map.2 ⟨p,hp,rfl⟩)]
theorem ZwV{st st2:St}{x:Option Operand}(h:∀y∈x.toList,evo st2 y=evo st y):optV st2 x=optV st x:=by
 cases x with
 |none=>rfl
 |some x=>simp only[optV];rw[h x (by simp)]
theorem Zuy{st st2:St}(hh:st2.heap=st.heap)(c:C):borC st2 c=borC st c:=by
 unfold borC;rw[hh]
theorem ZCg{st st2:St}(hh:st2.heap=st.heap):∀l,borL st2 l=borL st l
 | []=>rfl
 |c :: l=>by simp only[borL,Zuy hh,ZCg hh l]
theorem ZCd{st st2:St}(hh:st2.heap=st.heap)(v:V):borV st2 v=borV st v:=by
 unfold borV;simp only[Zuy hh,ZCg hh]
theorem ZuA{st st2:St}(hh:st2.heap=st.heap):∀l,borA st2 l=borA st l
 | []=>rfl
 |v :: l=>by simp only[borA,ZCd hh,ZuA hh l]
theorem Zih{st st2:St}{l:List Operand}(h:∀x∈l,evo st2 x=evo st x)(a b:List C):ZbS st2 l a b=ZbS st l a b:=by
 unfold ZbS;rw[Zxf h]
theorem ZEu{P:Program}{st st2:St}{f:Operand}{args:List Operand}(h:∀x∈f :: args,evo st2 x=evo st x)(hh:st2.heap=st.heap)(r:V):ZrF P st2 f args r=ZrF P st f args r:=by
 have hf:evo st2 f=evo st f:=h f (by simp);have ha:∀x∈args,evo st2 x=evo st x:=fun x hx=>h x (by simp[hx]);unfold ZrF ZjS;simp only[hf,Zih ha,ZuA hh]
theorem ZBM{N:Nat}{T:Tab}{st st2:St}{d t n:Nat}{ps:List (Nat×V)}:∀{an:Option Ans},(∀k c,an≠some (.c k c))->Zfs N T st2 d t n ps an=(Zfs N T st d t n ps an).map fun p=>(p.1,p.2.1,st2):=by
 intro an bt;cases an with
 |none=>
  unfold Zfs
  repeat' split
  all_goals first|rfl|contradiction | (exfalso;exact bt _ _ (by assumption))
 |some a=>
  cases a with
  |c k c=>exact absurd rfl (bt k c)
  |_=>
   unfold Zfs
   repeat' split
   all_goals first|rfl|contradiction | (exfalso;exact bt _ _ (by assumption))
theorem ZKn{T:Tab}{st st2:St}(hh:st2.heap=st.heap)(t:Nat)(p v:V)(an:Option Ans):ZnE T st2 t p v an=(ZnE T st t p v an).map fun q=>(q.1,{ st2 with heap:=q.2.heap }):=by
 unfold ZnE;rw[hh]
 repeat' split
 all_goals rfl
theorem ZuY{st st2:St}(hh:st2.heap=st.heap)(x s v:V)(an:Option Ans):Zig st2 x s v an=(Zig st x s v an).map fun q=>(q.1,{ st2 with heap:=q.2.heap }):=by
 unfold Zig Zqo;rw[hh]
 repeat' split
 all_goals first|rfl | (simp_all;done)
theorem ZNT{P:Program}{N:Nat}{T:Tab}{st st2:St}{o:Oper}{ra:RA}{i:Nat}(hc:Zfm ra i o.op=0)(h:∀x∈Zcn o.op,evo st2 x=evo st x) :
  evOp P N T o st2 (Zcw ra.an i)=(evOp P N T o st (Zcw ra.an i)).map fun p=>(p.1,p.2.1,st2):=by
 obtain⟨dst,op,type,dS,after,guard⟩:=o;simp only at hc h;cases op<;>(try (simp only[Zfm]at hc))<;>(try (exact absurd hc (by decide)))
 case move x=>
  split at hc
  .cases hc
  .rename_i bt;simp only[evOp,h x (by simp[Zcn])]
   repeat' split
   all_goals first|rfl | (rename_i n c hk;exact absurd hk (bt n c))
 case assign x=>
  split at hc
  .cases hc
  .rename_i bt;simp only[evOp,h x (by simp[Zcn])]
   repeat' split
   all_goals first|rfl | (rename_i n c hk;exact absurd hk (bt n c))
 case pick c x y=>
  simp only[evOp,h x (by simp[Zcn]),h y (by simp[Zcn]),h c (by simp[Zcn])]
  repeat' split
  all_goals rfl
 case build t ps=>
  simp only[evOp,Zrj (st2:=st2) (st:=st) (l:=ps.toList) (by simpa[Zcn]using h)];have:∀q,Zun T st2 t q=Zun T st t q:=fun q=>rfl;rw[this]
  repeat' split
  all_goals rfl
 case buildSlice t n ps=>
  split at hc
  .cases hc
  .rename_i bt;simp only[evOp,Zrj (st2:=st2) (st:=st) (l:=ps.toList) (by simpa[Zcn]using h)];exact ZBM fun k c hk=>bt k c hk
 case makeSlice t l c=>
  split at hc
  .rename_i v0 l0 hk;simp only[evOp,h l (by simp[Zcn]),h c (by simp[Zcn]),hk];split
   .unfold Zuf;split<;>rfl
   .rfl
   .rename_i hx;exact absurd rfl (hx _ _)
  .cases hc
 case nilCheck x=>
  simp only[evOp,h x (by simp[Zcn])]
  repeat' split
  all_goals rfl
 case makeInterface t x=>simp only[evOp,h x (by simp[Zcn])];split<;>rfl
 case binOp op t x y u=>
  simp only[evOp,h x (by simp[Zcn]),h y (by simp[Zcn])]
  repeat' split
  all_goals rfl
 case unOp op t x=>simp only[evOp,h x (by simp[Zcn])];split<;>rfl
 case convert s d x=>simp only[evOp,h x (by simp[Zcn])];split<;>rfl
 case slice t x lo hi mx=>
  have hx:=h x (by simp[Zcn]);have h1:optV st2 lo=optV st lo:=ZwV fun y hy=>h y (by simp only[Zcn,List.mem_cons,List.mem_append];exact .inr (.inl (.inl hy)));have h2:optV st2 hi=optV st hi:=ZwV fun y hy=>h y (by simp only[Zcn,List.mem_cons,List.mem_append];exact .inr (.inl (.inr hy)));have h3:optV st2 mx=optV st mx:=ZwV fun y hy=>h y (by simp only[Zcn,List.mem_cons,List.mem_append];exact .inr (.inr hy));simp only[evOp,hx,h1,h2,h3];split<;>rfl
 case fieldAddr t x f=>simp only[evOp,h x (by simp[Zcn])];split<;>rfl
 case field t x f=>simp only[evOp,h x (by simp[Zcn])];split<;>rfl
 case indexAddr t x j=>simp only[evOp,h x (by simp[Zcn]),h j (by simp[Zcn])];split<;>rfl
 case index t x j=>simp only[evOp,h x (by simp[Zcn]),h j (by simp[Zcn])];split<;>rfl
 case extract x j=>simp only[evOp,h x (by simp[Zcn])];split<;>rfl
 case makeFunc fn a b=>
  have h1:a.toList.map (evo st2)=a.toList.map (evo st):=Zxf fun x hx=>h x (by simp only[Zcn,List.mem_append];exact .inl hx);have h2:b.toList.map (evo st2)=b.toList.map (evo st):=Zxf fun x hx=>h x (by simp only[Zcn,List.mem_append];exact .inr hx);simp only[evOp,h1,h2];split<;>rfl
 case call c=>
  obtain⟨callee,args,a9⟩:=c;cases callee with
  |value f=>simp only[Zfm]at hc;cases hc
  |invoke r n=>simp only[Zfm]at hc;cases hc
  |builtin b=>
   have hm:args.toList.map (evo st2)=args.toList.map (evo st):=Zxf fun x hx=>h x (by simpa[Zcn]using hx);cases b<;>(try (simp only[Zfm]at hc))<;>(try (exact absurd hc (by decide)))
   case append=>split at hc<;>cases hc
   case len=>
    simp only[evOp];split
    .rename_i x t hx ht;rw[h x (by simp[Zcn,hx])];have:∀q,ZKv T st2 t q=ZKv T st t q:=fun q=>rfl;rw[this];split<;>rfl
    .rfl
   case max=>simp only[evOp,hm];split<;>rfl
   case min=>simp only[evOp,hm];split<;>rfl
theorem ZNU{P:Program}{N:Nat}{T:Tab}{st st2:St}{o:Oper}{ra:RA}{i:Nat}(hc:Zfm ra i o.op=1)(h:∀x∈Zcn o.op,evo st2 x=evo st x)(hh:st2.heap=st.heap) :
  evOp P N T o st2 (Zcw ra.an i)=(evOp P N T o st (Zcw ra.an i)).map fun p=>(p.1,p.2.1,st2):=by
 obtain⟨dst,op,type,dS,after,guard⟩:=o;simp only at hc h;cases op<;>(try (simp only[Zfm]at hc))<;>(try (exact absurd hc (by decide)))
 case move x=>split at hc<;>cases hc
 case assign x=>split at hc<;>cases hc
 case buildSlice t n ps=>split at hc<;>cases hc
 case makeSlice t l c=>split at hc<;>cases hc
 case lookup t x k ok=>
  have:∀q r,ZiW P T st2 t q r ok (Zcw ra.an i)=ZiW P T st t q r ok (Zcw ra.an i):=fun q r=>by unfold ZiW Zqo;rw[hh]
  simp only[evOp,h x (by simp[Zcn]),h k (by simp[Zcn]),this];split<;>rfl
 case load t p=>
  have:∀q,Zky T st2 t q (Zcw ra.an i)=Zky T st t q (Zcw ra.an i):=fun q=>ZBL hh t q _;simp only[evOp,h p (by simp[Zcn]),this];split<;>rfl
 case call c=>
  obtain⟨callee,args,a9⟩:=c;cases callee with
  |value f=>
   simp only[evOp];have:=fun r=>ZEu (P:=P) (f:=f) (args:=args.toList) (by simpa[Zcn]using h) hh r;simp only[this]
   repeat' split
   all_goals rfl
  |invoke r n=>simp only[Zfm]at hc;cases hc
  |builtin b=>
   cases b<;>simp only[Zfm]at hc
   case append=>split at hc<;>cases hc
   all_goals cases hc
theorem ZQk{P:Program}{N:Nat}{T:Tab}{st st2:St}{o:Oper}{ra:RA}{i:Nat}(hc:Zfm ra i o.op=2)(h:∀x∈Zcn o.op,evo st2 x=evo st x)(hh:st2.heap=st.heap) :
  evOp P N T o st2 (Zcw ra.an i)=(evOp P N T o st (Zcw ra.an i)).map fun p=>(p.1,p.2.1,{ st2 with heap:=p.2.2.heap }):=by
 obtain⟨dst,op,type,dS,after,guard⟩:=o;simp only at hc h;cases op<;>(try (simp only[Zfm]at hc))<;>(try (exact absurd hc (by decide)))
 case move x=>split at hc<;>cases hc
 case assign x=>split at hc<;>cases hc
 case buildSlice t n ps=>split at hc<;>cases hc
 case makeSlice t l c=>split at hc<;>cases hc
 case store t p x=>
  simp only[evOp,h p (by simp[Zcn]),h x (by simp[Zcn]),ZKn hh];cases ZnE T st t (evo st p) (evo st x) (Zcw ra.an i)<;>rfl
 case mapEntry t x k=>
  simp only[evOp,h x (by simp[Zcn]),h k (by simp[Zcn]),ZiG,Zqo,hh]
  repeat' split
  all_goals first|rfl | (simp_all;done)
 case entryStore t x s v=>
  simp only[evOp,h x (by simp[Zcn]),h s (by simp[Zcn]),h v (by simp[Zcn]),ZuY hh];cases Zig st (evo st x) (evo st s) (evo st v) (Zcw ra.an i)<;>rfl
 case call c=>
  obtain⟨callee,args,a9⟩:=c;cases callee with
  |value f=>simp only[Zfm]at hc;cases hc
  |invoke r n=>simp only[Zfm]at hc;cases hc
  |builtin b=>
   cases b<;>simp only[Zfm]at hc
   case append=>
    split at hc
    .rename_i v0 fz0 hk;simp only[evOp,hk];split
     .rename_i s x t t' hx ht;rw[h s (by simp[Zcn,hx]),h x (by simp[Zcn,hx])];split
      .unfold ZBP ZBQ Zuo;rw[hh]
       repeat' split
       all_goals first|rfl | (simp only[*];done)|skip
      .rfl
     .rfl
    .cases hc
   all_goals cases hc
theorem ZGM{st st2:St}(hh:st2.heap=st.heap)(n:Nat)(v:V):ZDh st2 n v=ZDh st n v:=by
 unfold ZDh;rw[hh]
theorem ZQl{P:Program}{N:Nat}{T:Tab}{st st2:St}{o:Oper}{ra:RA}{i:Nat}(hc:Zfm ra i o.op=3)(h:∀x∈Zcn o.op,evo st2 x=evo st x)(hh:st2.heap=st.heap)(hq:ZdC N (o.dst.getD 0) st2=ZdC N (o.dst.getD 0) st) :
  evOp P N T o st2 (Zcw ra.an i)=(evOp P N T o st (Zcw ra.an i)).map fun p=>(p.1,p.2.1,{ st2 with heap:=p.2.2.heap }):=by
 obtain⟨dst,op,type,dS,after,guard⟩:=o;simp only at hc h hq;have cf:∀l,ZpG N st2 (dst.getD 0) l=(ZpG N st (dst.getD 0) l).map fun p=>(p.1,p.2.1,{ st2 with heap:=p.2.2.heap }):=by
  intro l;unfold ZpG St.new;rw[hq,hh];split<;>rfl
 cases op<;>(try (simp only[Zfm]at hc))<;>(try (exact absurd hc (by decide)))
 case move x=>split at hc<;>cases hc
 case assign x=>split at hc<;>cases hc
 case alloc e=>
  simp only[evOp,cf]
  repeat' split
  all_goals rfl
 case box e x=>
  simp only[evOp,cf,h x (by simp[Zcn])]
  repeat' split
  all_goals rfl
 case makeSlice t l c=>
  split at hc
  .cases hc
  rename_i hx;simp only[evOp,h l (by simp[Zcn]),h c (by simp[Zcn])];split
  .rename_i hk;exact absurd hk (hx _ _)
  .rfl
  unfold Zme St.new;rw[hq,hh]
  repeat' split
  all_goals rfl
 case buildSlice t n ps=>
  split at hc
  .rename_i n' c' bt;simp only[evOp,Zrj (st2:=st2) (st:=st) (l:=ps.toList) (by simpa[Zcn]using h)];unfold Zfs St.new;rw[hq,hh,bt]
   repeat' split
   all_goals first|rfl | (rename_i hx _ _;exact absurd rfl (hx _ _))
  .cases hc
 case call c=>
  obtain⟨callee,args,a9⟩:=c;cases callee with
  |value f=>simp only[Zfm]at hc;cases hc
  |invoke r n=>simp only[Zfm]at hc;cases hc
  |builtin b=>
   cases b<;>(try (simp only[Zfm]at hc))<;>(try (exact absurd hc (by decide)))
   case append=>
    split at hc
    .cases hc
    rename_i bt;simp only[evOp];split
    .rename_i s x t t' hx ht;rw[h s (by simp[Zcn,hx]),h x (by simp[Zcn,hx])];split
     .unfold ZjR St.new;rw[hq,hh];simp only[ZGM hh]
      repeat' split
      all_goals rfl
     .rfl
    .rfl
theorem ZGe {P:Program} {N:Nat} {T:Tab} {st st' : St} {o:Oper} {an:Option Ans} {v:V} {obl:List Prop} (h:evOp P N T o st an = some (v,obl,st')):st'.env = st.env:=by
  obtain ⟨dst,op,type,dS,after,guard⟩:=o
  have cf : ∀ l,ZpG N st (dst.getD 0) l = some (v,obl,st')->st'.env = st.env:=by
    intro l hb
    unfold ZpG at hb
    split at hb
    . cases hb; rfl
    . cases hb
  unfold evOp at h
  cases op <;> (try simp only at h) <;> (try (cases h; done)) <;> (try (cases h; rfl))
  case move =>
    unfold ZHC at h
    repeat' split at h
    all_goals first | (cases h; done) | (cases h; rfl)
  case assign =>
    unfold ZHC at h
    repeat' split at h
    all_goals first | (cases h; done) | (cases h; rfl)
  case pick => repeat' split at h
               all_goals first | (cases h; done) | (cases h; rfl)
  case alloc => repeat' split at h
                all_goals first | (cases h; done) | exact cf _ h
  case box => repeat' split at h
              all_goals first | (cases h; done) | exact cf _ h
  case buildSlice =>
    unfold Zfs at h
    repeat' split at h
    all_goals first | (cases h; done) | (cases h; rfl)
  case makeSlice =>
    split at h
    . unfold Zuf at h
      split at h
      . cases h; rfl
      . cases h
    . cases h
    unfold Zme at h
    repeat' split at h
    all_goals first | (cases h; done) | (cases h; rfl)
  case makeMap =>
    unfold ZrC at h
    repeat' split at h
    all_goals first | (cases h; done) | (cases h; rfl)
  case mapUpdate =>
    split at h
    . rename_i hv
      cases h
      unfold ZxE at hv
      repeat' split at hv
      all_goals first | (cases hv; done) | (cases hv; rfl)
    . cases h
  case mapEntry =>
    unfold ZiG at h
    repeat' split at h
    all_goals first | (cases h; done) | (cases h; rfl)
  case entryStore =>
    split at h
    . rename_i hv
      cases h
      unfold Zig at hv
      repeat' split at hv
      all_goals first | (cases hv; done) | (cases hv; rfl)
    . cases h
  case store =>
    split at h
    . rename_i hv
      cases h
      unfold ZnE at hv
      repeat' split at hv
      all_goals first | (cases hv; done) | (cases hv; rfl)
    . cases h
  case call c =>
    obtain ⟨callee,args,a9⟩:=c
    cases callee with
    | invoke r n =>cases h
    | value f =>
      simp only at h
      repeat' split at h
      all_goals first | (cases h; done) | (cases h; rfl)
    | builtin b =>
      cases b <;> (try simp only at h) <;> (try (cases h; done))
      case append =>
        unfold ZjR ZBP ZBQ Zuo at h
        repeat' split at h
        all_goals first | (cases h; done) | (cases h; rfl)
      case clear =>
        unfold ZxK at h
        repeat' split at h
        all_goals first | (cases h; done) | (cases h; rfl)
      case delete =>
        split at h
        . split at h
          . rename_i hv
            cases h
            unfold Zta at hv
            repeat' split at hv
            all_goals first | (cases hv; done) | (cases hv; rfl)
          . cases h
        . cases h
      all_goals
        repeat' split at h
        all_goals first | (cases h; done) | (cases h; rfl)
  all_goals
    repeat' split at h
    all_goals first | (cases h; done) | (cases h; rfl)
def Has(st st2:St)(says:Nat->Bool):Prop:=∀id b,says id=true->hget st.heap id=some b->hget st2.heap id=some b
theorem ZCi{st st2:St}{c c':C}(hm:Has st st2 fun id=>c.says id)(h:borC st c=some c'):borC st2 c=some c':=by
 unfold borC at h ⊢;split at h
 .split at h
  .rename_i hh;cases h;rw[hm _ _ (by simp[C.says]) hh]
  .cases h
 .split at h
  .rename_i hh;rw[hm _ _ (by simp[C.says]) hh];exact h
  .cases h
 .exact h
theorem ZCf{st st2:St}:∀{l l':List C},(∀c∈l,Has st st2 fun id=>c.says id)->borL st l=some l'->borL st2 l=some l'
 | [],l',_,h=>h
 |c :: l,l',hm,h=>by
  simp only[borL]at h ⊢
  split at h
  .rename_i c1 l1 h1 h2
   cases h
   rw[ZCi (hm c (by simp)) h1,ZCf (fun c hc=>hm c (by simp[hc])) h2]
  .cases h
theorem ZKU{st st2:St}{v v':V}(hm:Has st st2 fun id=>v.says id)(h:borV st v=some v'):borV st2 v=some v':=by
 unfold borV at h ⊢;split at h
 .exact h
 .split at h
  .split at h
   .rename_i h1;cases h;rw[ZCi hm h1]
   .cases h
  .split at h
   .rename_i l l' h1;cases h;rw[ZCf (fun c hc id b hs=>hm id b (by simp only[V.says];exact List.any_eq_true.2 ⟨c,hc,hs⟩)) h1]
   .cases h
  .cases h
theorem Zuz{st st2:St}:∀{l l':List V},(∀v∈l,Has st st2 fun id=>v.says id)->borA st l=some l'->borA st2 l=some l'
 | [],l',_,h=>h
 |c :: l,l',hm,h=>by
  simp only[borA]at h ⊢
  split at h
  .rename_i c1 l1 h1 h2
   cases h
   rw[ZKU (hm c (by simp)) h1,Zuz (fun c hc=>hm c (by simp[hc])) h2]
  .cases h
theorem ZEh{T:Tab}{st st2:St}{t:Nat}{p:V}{r:V×List Prop}(hm:Has st st2 fun id=>p.says id)(h:Zqy T st t p=some r):Zqy T st2 t p=some r:=by
 unfold Zqy at h ⊢;split at h
 .cases h
 split at h
 .cases h
 split at h
 .split at h
  .rename_i hh;rw[hm _ _ (by simp[V.says,C.says]) hh];exact h
  .cases h
 .exact h
 .exact h
 .split at h
  .rename_i hh;rw[hm _ _ (by simp[V.says,C.says]) hh];exact h
  .cases h
 .cases h
theorem ZBK{T:Tab}{st st2:St}{t:Nat}{p:V}{an:Option Ans}{r:V×List Prop}(hm:Has st st2 fun id=>p.says id)(h:Zky T st t p an=some r):Zky T st2 t p an=some r:=by
 unfold Zky at h ⊢;split
 .simp only at h;unfold Zug at h ⊢;split at h;rotate_left
  .cases h
  split at h;rotate_left
  .cases h
  rename_i h1 h2 h3 h4 h5 hh;rw[h1];simp only[h2,h3,h4,h5,hm _ _ (by simp[V.says,C.says]) hh];exact h
 .rename_i hn;split at h
  .rename_i hit;exact absurd rfl (hn hit)
  .exact ZEh hm h
theorem ZEv{P:Program}{st st2:St}{f:Operand}{args:List Operand}(he:∀x∈f :: args,evo st2 x=evo st x)(hm:∀x∈f :: args,Has st st2 fun id=>(evo st x).says id){r:V}{obl:List Prop}(h:ZrF P st f args r=some obl):ZrF P st2 f args r=some obl:=by
 have hf:evo st2 f=evo st f:=he f (by simp);have ha:∀x∈args,evo st2 x=evo st x:=fun x hx=>he x (by simp[hx]);have hc:ZjS st2 f=ZjS st f:=by unfold ZjS;rw[hf]
 unfold ZrF at h ⊢;rw[hc];split at h
 .rename_i g a b bA;rw[Zih ha];split at h
  .exact h
  .split at h
   .rename_i vs hb fK;have dB:∀v∈ZbS st args a b,Has st st2 fun id=>v.says id:=by
     intro v hv;unfold ZbS at hv;simp only[List.mem_append,List.mem_map]at hv;have iE:∀c,c∈a\/c∈b->Has st st2 fun id=>c.says id:=by
      intro c ji id bb hs;refine hm f (by simp) id bb ?_;unfold ZjS at bA;split at bA
      .split at bA
       .cases bA;simp at ji
       .cases bA
      .rename_i g' na nb fa fb cD;cases bA;rw[cD];simp only[V.says,C.says,Bool.or_eq_true,List.any_eq_true,List.mem_range];simp only[Zer,List.mem_map,List.mem_range]at ji;rcases ji with⟨k,hk,rfl⟩|⟨k,hk,rfl⟩
       .exact .inl ⟨k,hk,hs⟩
       .exact .inr ⟨k,hk,hs⟩
      .cases bA
     rcases hv with (⟨c,h1,rfl⟩|⟨x,h1,rfl⟩)|⟨c,h1,rfl⟩
     .intro id bb hs;exact iE c (.inl h1) id bb (by show C.says id c=true;rw[<-C.toV_says];exact hs)
     .exact hm x (by simp[h1])
     .intro id bb hs;exact iE c (.inr h1) id bb (by show C.says id c=true;rw[<-C.toV_says];exact hs)
    rw[Zuz dB hb,fK];exact h
   .cases h
 .cases h
theorem ZxG{P:Program}{T:Tab}{st st2:St}{t:Nat}{x k:V}{ok:Bool}{an:Option Ans}{r:V×List Prop}(hm:Has st st2 fun id=>x.says id)(h:ZiW P T st t x k ok an=some r):ZiW P T st2 t x k ok an=some r:=by
 unfold ZiW at h ⊢;split at h;rotate_left
 .cases h
 rename_i kt vt id kt' l kv v' fz dR dI eG;obtain⟨rfl,hl⟩:=ZoA dI;have jY:Zqo st2 (.one (.mp id))=some (id,kt',l):=by
  have:=hm id _ (by simp[V.says,C.says]) hl;simp only[Zqo,this]
 rw[dR,jY,eG];exact h
theorem ZQm{P:Program}{N:Nat}{T:Tab}{st st2:St}{o:Oper}{ra:RA}{i:Nat}(hc:Zfm ra i o.op=1)(h:∀x∈Zcn o.op,evo st2 x=evo st x)(hm:∀x∈Zcn o.op,Has st st2 fun id=>(evo st x).says id){v:V}{obl:List Prop}{st1:St}
  (he:evOp P N T o st (Zcw ra.an i)=some (v,obl,st1)):evOp P N T o st2 (Zcw ra.an i)=some (v,obl,st2):=by
 obtain⟨dst,op,type,dS,after,guard⟩:=o;simp only at hc h hm;cases op<;>(try (simp only[Zfm]at hc))<;>(try (exact absurd hc (by decide)))
 case move x=>split at hc<;>cases hc
 case assign x=>split at hc<;>cases hc
 case buildSlice t n ps=>split at hc<;>cases hc
 case makeSlice t l c=>split at hc<;>cases hc
 case lookup t x k ok=>
  simp only[evOp,h x (by simp[Zcn]),h k (by simp[Zcn])]at he ⊢;split at he
  .rename_i v' obl' hv;cases he;rw[ZxG (hm x (by simp[Zcn])) hv]
  .cases he
 case load t p=>
  simp only[evOp,h p (by simp[Zcn])]at he ⊢;split at he
  .rename_i r hr;cases he;rw[ZBK (hm p (by simp[Zcn])) hr]
  .cases he
 case call c=>
  obtain⟨callee,args,a9⟩:=c;cases callee with
  |value f=>
   simp only[evOp]at he ⊢;split at he
   .rename_i r fz han;split at he
    .rename_i obl' hv;cases he;rw[ZEv (by simpa[Zcn]using h) (by simpa[Zcn]using hm) hv]
    .cases he
   .cases he
  |invoke r n=>simp only[Zfm]at hc;cases hc
  |builtin b=>
   cases b<;>simp only[Zfm]at hc
   case append=>split at hc<;>cases hc
   all_goals cases hc
theorem Zwg{N:Nat}{st:St}{d:Nat}{l:List C}{p:V×List Prop×St}(h:ZpG N st d l=some p):∀id b,hget p.2.2.heap id=some b->id=d\/hget st.heap id=some b:=by
 unfold ZpG at h;split at h
 .cases h;intro id b hb;simp only[St.new,Zfb]at hb;split at hb
  .rename_i e;exact .inl e.symm
  .exact .inr hb
 .cases h
theorem ZEd{P:Program}{N:Nat}{T:Tab}{st:St}{o:Oper}{ra:RA}{i:Nat}{p:V×List Prop×St}(hc:Zfm ra i o.op=3)(h:evOp P N T o st (Zcw ra.an i)=some p):∀id b,hget p.2.2.heap id=some b->id=o.dst.getD 0\/hget st.heap id=some b:=by
 obtain⟨dst,op,type,dS,after,guard⟩:=o;simp only at hc;have cT:∀{d:Nat}{b0:B},∀id b,hget (st.new d b0).heap id=some b->id=d\/hget st.heap id=some b:=by
  intro d b0 id b hb;simp only[St.new,Zfb]at hb;split at hb
  .rename_i e;exact .inl e.symm
  .exact .inr hb
 cases op<;>(try (simp only[Zfm]at hc))<;>(try (exact absurd hc (by decide)))
 case move x=>split at hc<;>cases hc
 case assign x=>split at hc<;>cases hc
 case alloc e=>
  simp only[evOp]at h
  repeat' split at h
  all_goals first | (cases h;done)|exact Zwg h
 case box e x=>
  simp only[evOp]at h
  repeat' split at h
  all_goals first | (cases h;done)|exact Zwg h
 case makeSlice t l c=>
  split at hc
  .cases hc
  rename_i hx;simp only[evOp]at h;split at h
  .rename_i hk;exact absurd hk (hx _ _)
  .cases h
  unfold Zme at h
  repeat' split at h
  all_goals first | (cases h;done) | (cases h;exact cT)
 case buildSlice t n ps=>
  split at hc
  .rename_i n' c' bt;simp only[evOp]at h;unfold Zfs at h;rw[bt]at h
   repeat' split at h
   all_goals first | (cases h;done) | (cases h;exact cT) | (cases h;exact fun id b hb=>.inr hb)
  .cases hc
 case call c=>
  obtain⟨callee,args,a9⟩:=c;cases callee with
  |value f=>simp only[Zfm]at hc;cases hc
  |invoke r n=>simp only[Zfm]at hc;cases hc
  |builtin b=>
   cases b<;>(try (simp only[Zfm]at hc))<;>(try (exact absurd hc (by decide)))
   case append=>
    split at hc
    .cases hc
    rename_i bt;simp only[evOp]at h;split at h;rotate_left
    .cases h
    split at h;rotate_left
    .cases h
    unfold ZjR at h
    repeat' split at h
    all_goals first | (cases h;done) | (cases h;exact cT)|skip
    all_goals
     cases h;intro id b hb;simp only[Zbk,Zlk]at hb;split at hb
     .rename_i e;exact .inl e.symm
     .split at hb
      .cases hb
      .exact .inr hb
def ZFH:Op->Bool | .alloc _ | .box .. | .makeSlice .. | .buildSlice ..=>true|_=>false
theorem ZBG{P:Program}{N:Nat}{T:Tab}{st:St}{o:Oper}{ra:RA}{i:Nat}{p:V×List Prop×St}(hc:Zfm ra i o.op=3)(hk:ZFH o.op=true)(hq:hget st.heap (o.dst.getD 0)=none)(h:evOp P N T o st (Zcw ra.an i)=some p) :
  ∀id b,hget st.heap id=some b->hget p.2.2.heap id=some b:=by
 obtain⟨dst,op,type,dS,after,guard⟩:=o;simp only at hc hk hq;have cT:∀{b0:B},∀id b,hget st.heap id=some b->hget (st.new (dst.getD 0) b0).heap id=some b:=by
  intro b0 id b hb;simp only[St.new,Zfb];rw[if_neg]
  .exact hb
  .rintro rfl;rw[hq]at hb;cases hb
 have cf:∀{l:List C}{p:V×List Prop×St},ZpG N st (dst.getD 0) l=some p->∀id b,hget st.heap id=some b->hget p.2.2.heap id=some b:=by
  intro l p h;unfold ZpG at h;split at h
  .cases h;exact cT
  .cases h
 cases op<;>(try (simp only[ZFH]at hk))<;>(try (exact absurd hk (by decide)))
 case alloc e=>
  simp only[evOp]at h
  repeat' split at h
  all_goals first | (cases h;done)|exact cf h
 case box e x=>
  simp only[evOp]at h
  repeat' split at h
  all_goals first | (cases h;done)|exact cf h
 case makeSlice t l c=>
  simp only[Zfm]at hc;split at hc
  .cases hc
  rename_i hx;simp only[evOp]at h;split at h
  .rename_i hk;exact absurd hk (hx _ _)
  .cases h
  unfold Zme at h
  repeat' split at h
  all_goals first | (cases h;done) | (cases h;exact cT)
 case buildSlice t n ps=>
  simp only[Zfm]at hc;split at hc
  .rename_i n' c' bt;simp only[evOp]at h;unfold Zfs at h;rw[bt]at h
   repeat' split at h
   all_goals first | (cases h;done) | (cases h;exact cT) | (cases h;exact fun id b hb=>hb)
  .cases hc
theorem ZvC(x:Value)(d:Nat):(V.ofVal x).says d=false:=by
 unfold V.ofVal;split
 .split
  .simp only[V.says];rw[<-Bool.not_eq_true,List.any_eq_true];rintro ⟨c,hc,h2⟩;obtain⟨y,_,rfl⟩:=List.mem_map.1 hc;simp[C.says]at h2
  .simp[V.says,C.says]
 .simp[V.says,C.says]
 .simp[V.says,C.says]
end Go.Proofs.YtnigiacmmedkhaaGreat
