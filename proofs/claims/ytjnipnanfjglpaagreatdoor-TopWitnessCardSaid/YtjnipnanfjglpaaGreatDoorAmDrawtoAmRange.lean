/- Texts. -/
import Derived.Test.YtjnipnanfjglpaaGreatDoorAmPuretoAmRun
import Derived.Defers
import Derived.Lib.SliceRun
import Derived.WalkSpells
import Derived.Test.YtjnipnanfjglpaaGreatDoorAmBasetoAmTok
import Derived.LoopN
set_option linter.unusedSimpArgs false
set_option linter.unusedVariables false
namespace Go.Am
section
noncomputable section
section congr
variable {P:Program} {obj fV:Nat→Option aY} {ix:Nat}
theorem uY {agg:Bool}{n:Nat}{x:SV}(h:∀ob,x.aM ob=false→obj ob=fV ob):x.cellsOf agg n ix obj=x.cellsOf agg n ix fV:=by
 unfold SV.cellsOf;split
 ·rfl
 ·cases x <;> try rfl
  ·rename_i y s;cases s <;> rfl
  ·rename_i o;simp only;rw[h o (by simp[SV.aM])]
theorem Jq {t:TypeId}{x:SV}(h:∀ob,x.aM ob=false→obj ob=fV ob)(hh:(∃e s,x=.e e s)→obj br=fV br):Fo P t x obj ix=Fo P t x fV ix:=by
 unfold Fo hOf;cases x <;> try rfl
 ·rw[hh ⟨_,_,rfl⟩]
 ·rename_i ob off;simp only;rw[h ob (by simp[SV.aM])]
 ·rename_i ob i sz off;simp only;rw[h ob (by simp[SV.aM])]
theorem GQ {t:TypeId}{x y:SV}(h:∀ob,x.aM ob=false→obj ob=fV ob)(h':∀ob,y.aM ob=false→obj ob=fV ob)(hh:(∃e s,x=.e e s)→obj br=fV br):yX P t x y obj ix=yX P t x y fV ix:=by
 unfold yX;have hc:∀agg n,y.cellsOf agg n ix obj=y.cellsOf agg n ix fV:=fun agg n=>uY h';cases x <;> try rfl
 ·rw[hh ⟨_,_,rfl⟩]
 ·rename_i ob off;simp only[hc];rw[h ob (by simp[SV.aM])]
 ·rename_i ob i sz off;simp only;rw[h ob (by simp[SV.aM])]
theorem y_ {t:TypeId}{x i:SV}(h:∀ob,x.aM ob=false→obj ob=fV ob):lS P t x i obj ix=lS P t x i fV ix:=by
 unfold lS;cases x <;> try rfl
 rename_i ob;simp only;rw[h ob (by simp[SV.aM])]
theorem Mp {t:TypeId}{x:SV}(h:∀ob,x.aM ob=false→obj ob=fV ob):Qg P t x obj ix=Qg P t x fV ix:=by
 unfold Qg;cases x <;> try rfl
 rename_i ob;simp only;rw[h ob (by simp[SV.aM])]
theorem Mw {t:TypeId}{x:SV}{dst:Option Tmp}(h:∀ob,x.aM ob=false→obj ob=fV ob):Mx P t x dst obj ix=Mx P t x dst fV ix:=by
 unfold Mx;split
 ·rw[uY h]
 ·rfl
theorem FO {obj:Nat→Option aY}{cf:cF}(h:gC obj=some cf):∃x,obj br=some (.store cf x):=by
 unfold gC at h;split at h
 ·rename_i x hx;cases h;exact⟨_,hx⟩
 ·cases h
theorem Jd {o:Oper} {bh eO:List (E×Bool)→Operand→SV} {act:List (E×Bool)} (hv:∀act x,x∈o.op.operands→eO act x=bh act x)
  (ho:∀x ob,x∈o.op.operands→(bh act x).aM ob=false→obj ob=fV ob) {m:Operand→Bool} (hM:∀act x,x∈o.op.operands→(∃e s,bh act x=.e e s)→m x=true) (hF:∀act g,bh act (.func g)=.func (.func g) []) (hC:gC obj=gC fV) (hH:fk o m (gC obj)=true→obj br=fV br):w8 P o eO act fV ix=w8 P o bh act obj ix:=by
 unfold w8;unfold fk at hH;generalize oI:o.op=op at *;cases op <;> try rfl
 all_goals try simp only[Op.operands] at hv ho hM
 case move x=>simp[hv]
 case assign x=>simp[hv]
 case pick c a b=>simp[hv]
 case box t x=>simp only;rw[hv act x (by simp),Mw (fun ob h=>ho x ob (by simp) h)]
 case load t x=>simp only;rw[hv act x (by simp),Jq (fun ob h=>ho x ob (by simp) h) (fun he=>hH (hM act x (by simp) he))]
 case store t x y=>simp only;rw[hv act x (by simp),hv act y (by simp),GQ (fun ob h=>ho x ob (by simp) h) (fun ob h=>ho y ob (by simp) h) (fun he=>hH (hM act x (by simp) he))]
 case nilCheck x=>simp[hv]
 case binOp=>simp[hv]
 case unOp=>simp[hv]
 case convert=>simp[hv]
 case fieldAddr=>simp[hv]
 case indexAddr t x i=>simp only;rw[hv act x (by simp),hv act i (by simp),y_ (fun ob h=>ho x ob (by simp) h)]
 case extract=>simp[hv]
 case call c=>
  obtain⟨callee,args,ts⟩:=c;simp only;have eF:∀x,x∈args→x∈(Call.mk callee args ts).operands:=by intro x hx;unfold Call.operands;simp;cases callee <;> simp[hx]
  split
  ·split
   ·rename_i x t hx ht;have:x∈args:=by
     have:x∈args.toList:=by rw[hx];simp
     simpa using this
    rw[hv act x (eF x this),Mp (fun ob h=>ho x ob (eF x this) h)]
   ·rfl
  rotate_left
  ·rename_i rc name;have hr:rc∈(Call.mk (.invoke rc name) args ts).operands:=by unfold Call.operands;simp
   rw[hv act rc hr];have:args.toList.map (eO act)=args.toList.map (bh act):=B0s fun x hx=>hv act x (eF x (by simpa using hx));rw[this];have hHH:=hH rfl;unfold XM qf hOf;rw[hHH]
  rotate_left
  ·rename_i f;have hf:f∈(Call.mk (.value f) args ts).operands:=by unfold Call.operands;simp
   rw[hv act f hf];have:args.toList.map (eO act)=args.toList.map (bh act):=B0s fun x hx=>hv act x (eF x (by simpa using hx));rw[this];cases mL:Bj (gC obj) (.value f) with
   | false=>
    have hHH:=hH (by simp only[mL];rfl);unfold qf G2;rw[hHH]
   | true=>
    unfold Bj at mL;split at mL
    ·rename_i g hg;cases hg;split at mL
     ·rename_i cf yw;rw[hF act g];simp only;obtain⟨h1,e1⟩:=FO yw;obtain⟨h2,e2⟩:=FO (hC ▸ yw);unfold qf;rw[e1,e2];split
      ·split
       ·rfl
       ·cases scalars P _ with
        | none=>rfl
        | some rs=>
         cases toEAll (List.map (bh act) args.toList) with
         | none=>rfl
         | some xs=>simp only[mL,B0d]
      ·rfl
     ·cases mL
    ·cases mL
  ·rfl
 case build t parts=>
  simp only;have h1:parts.toList.map (fun p=>(p.1,rV fV (eO act p.2)))=parts.toList.map fun p=>(p.1,rV obj (bh act p.2)):=B0s fun p hp=>by
   have hm:p.2∈(parts.toList.map (·.2)).toArray:=by simp;exact⟨p.1,by simpa using hp⟩
   rw[hv act p.2 hm];congr 1;unfold rV;split <;> try rfl
   rename_i k hk;rw[ho p.2 k hm (by rw[hk];simp[SV.aM])]
  unfold Bl;rw[h1]
 case makeFunc fn first cr=>
  simp only;have h1:first.toList.map (eO act)=first.toList.map (bh act):=B0s fun x hx=>hv act x (by simp;exact .inl (by simpa using hx))
  have h2:cr.toList.map (eO act)=cr.toList.map (bh act):=B0s fun x hx=>hv act x (by simp;exact .inr (by simpa using hx));rw[h1,h2]
theorem Ey {t:TypeId}{s x:SV}{dst:Option Tmp}(h:∀ob,s.aM ob=false→obj ob=fV ob):uc P t s x dst obj ix=uc P t s x dst fV ix:=by
 unfold uc;split
 ·rename_i k _;rw[h k (by simp[SV.aM])]
 ·rfl
theorem CE {nz:Bool}{o:Oper}{bh eO:Operand→SV}(hv:∀x,x∈o.op.operands→eO x=bh x)(ho:∀x ob,x∈o.op.operands→(bh x).aM ob=false→obj ob=fV ob):CF nz P o eO fV ix=CF nz P o bh obj ix:=by
 unfold CF;generalize oI:o.op=op at *;cases op <;> try rfl
 case buildSlice t len parts=>
  simp only;have:parts.toList.map (fun p=>eO p.2)=parts.toList.map fun p=>bh p.2:=B0s fun p hp=>hv p.2 (by simp only[Op.operands,D0m,A0F];exact⟨p,hp,rfl⟩);unfold CG;rw[this]
 case makeSlice t n c=>simp only;rw[hv n (by simp[Op.operands]),hv c (by simp[Op.operands])]
 case call c=>
  obtain⟨callee,args,ts⟩:=c;simp only[Op.operands] at hv ho ⊢;have eF:∀x,x∈args→x∈(Call.mk callee args ts).operands:=by intro x hx;unfold Call.operands;simp;cases callee <;> simp[hx]
  split
  ·split
   ·rename_i s x t t' hx ht;have h1:s∈args:=by
     have:s∈args.toList:=by rw[hx];simp
     simpa using this
    have h2:x∈args:=by
     have:x∈args.toList:=by rw[hx];simp
     simpa using this
    rw[hv s (eF s h1),hv x (eF x h2),Ey (fun ob h=>ho s ob (eF s h1) h)]
   ·rfl
  ·rfl
theorem wT (hC:gC obj=gC fV):Cm fV=Cm obj:=by unfold Cm;rw[hC]
theorem w9 {nz:Bool}{o:Oper}{bh eO:Operand→SV}(hv:∀x,x∈o.op.operands→eO x=bh x):yY P nz o eO ix=yY P nz o bh ix:=by
 unfold yY;split
 ·rename_i t parts ho;have:parts.toList.map (fun p=>(p.1,eO p.2))=parts.toList.map fun p=>(p.1,bh p.2):=B0s fun p hp=>by rw[hv p.2 (by rw[ho];simp only[Op.operands,D0m,A0F];exact⟨p,hp,rfl⟩)]
  unfold G4;rw[this]
 ·rw[Ms hv,Jg hv]
theorem CL {o:Oper}{bh eO:Operand→SV}{act:List (E×Bool)}(hv:∀x,x∈o.op.operands→eO x=bh x)(hC:gC obj=gC fV):Qi P o eO act fV ix=Qi P o bh act obj ix:=by
 unfold Qi;generalize oI:o.op=op at *;cases op <;> try (simp;done)
 case box t x=>
  have h2:=hv x (by simp[Op.operands]);simp only[T1,hC,h2]
 case buildSlice t len parts=>
  have:parts.toList.map (fun p=>eO p.2)=parts.toList.map fun p=>bh p.2:=B0s fun p hp=>hv p.2 (by simp only[Op.operands,D0m,A0F];exact⟨p,hp,rfl⟩);simp only[T1,hC,CG,this]
theorem fT (obj:Nat→Option aY):gC obj=uq (obj br):=by unfold gC uq;split <;> rfl
theorem Ji {o:Oper}{bh eO:Operand→SV}{hO:Option aY}(hv:∀x,x∈o.op.operands→eO x=bh x):sX P o eO hO ix=sX P o bh hO ix:=by
 unfold sX;generalize oI:o.op=op at *;cases op <;> try rfl
 case box t x=>simp only[hv x (by simp[Op.operands])]
 case makeSlice t n c=>simp only[hv n (by simp[Op.operands]),hv c (by simp[Op.operands])]
 case buildSlice t len parts=>
  have:parts.toList.map (fun p=>eO p.2)=parts.toList.map fun p=>bh p.2:=B0s fun p hp=>hv p.2 (by simp only[Op.operands,D0m,A0F];exact⟨p,hp,rfl⟩);simp only[CG,this]
 case call c=>
  obtain⟨callee,args,ts⟩:=c;have eF:∀x,x∈args.toList→eO x=bh x:=fun x hx=>hv x (by
   have:x∈args:=by simpa using hx
   simp only[Op.operands,Call.operands];simp;cases callee <;> simp[this])
  simp only;split
  ·split
   ·rfl
   ·split
    ·split
     ·rename_i s x t t' hx _;rw[eF s (by rw[hx];simp),eF x (by rw[hx];simp)]
     ·rfl
    ·rfl
  ·rfl
theorem Jh {o:Oper}{bh:Operand→SV}{hO Yx:Option aY}{m:Operand→Bool}(hC:uq hO=uq Yx)(hM:∀x,x∈o.op.operands→(∃e s,bh x=.e e s)→m x=true)(hH:fk o m (uq hO)=true→hO=Yx):sX P o bh Yx ix=sX P o bh hO ix:=by
 have other:∀{hO:Option aY},uq hO=none→sX P o bh hO ix=none:=by
  intro hO h;unfold sX;split
  ·simp[uq] at h
  ·rfl
 cases hc:uq hO with
 | none=>rw[other hc,other (hC ▸ hc)]
 | some cf=>
  obtain⟨h1,rfl⟩:∃h1,hO=some (.store cf h1):=by
   unfold uq at hc;split at hc
   ·cases hc;exact⟨_,rfl⟩
   ·cases hc
  obtain⟨h2,rfl⟩:∃h2,Yx=some (.store cf h2):=by
   rw[hc] at hC;unfold uq at hC;split at hC
   ·cases hC;exact⟨_,rfl⟩
   ·cases hC
  simp only[uq] at hH;unfold sX;unfold fk at hH;generalize oI:o.op=op at *;cases hd:o.dst with
  | none=>rfl
  | some d=>
   rw[hd] at hH;have pub:∀{α:Type} {A B:Option α},(cf.B_.contains d=true→(some (aY.store cf h1)=some (aY.store cf h2)))→(h1=h2→A=B)→(if cf.B_.contains d=true then A else none)=(if cf.B_.contains d=true then B else none):=by
    intro α A B h3 h4;split
    ·rename_i hp;have:=h3 hp;simp only[A0x,aY.store.injEq,E0m] at this;exact h4 this
    ·rfl
   by_cases fQ:cf.ro=true
   ·simp only[fQ,B0d]
   simp only[fQ];cases op <;> try rfl
   case alloc t=>exact pub hH fun e=>by subst e;rfl
   case box t x=>exact pub hH fun e=>by subst e;rfl
   case makeSlice t n c=>exact pub hH fun e=>by subst e;rfl
   case buildSlice t len parts=>exact pub hH fun e=>by subst e;rfl
   case call c=>
    obtain⟨callee,args,ts⟩:=c;cases callee <;> try rfl
    rename_i b;cases b <;> try rfl
    simp only at hH ⊢;have key:∀s r,args.toList=s :: r→(∃e q,IY s (bh s)=.e e q)→h1=h2:=by
     intro s r hx he;have hm:(m s||Fh s)=true:=by
      by_cases hn:Fh s=true
      ·simp[hn]
      ·rw[IY,A0B hn] at he;rw[hM s (by
        have:s∈args:=by
         have:s∈args.toList:=by rw[hx];simp
         simpa using this
        simp only[Op.operands,Call.operands];simp[this]) he]
       rfl
     rw[hx] at hH;have:=hH hm;simpa using this
    clear hH;cases hx:args.toList with
    | nil=>rfl
    | cons s r=>
     have key:=key s r hx;cases hs:IY s (bh s) with
     | e e q=>
      have:=key ⟨_,_,hs⟩;subst this;rfl
     | _=>
      cases r with
      | nil=>rfl
      | cons x r=>
       cases r with
       | cons _ _=>rfl
       | nil=>
        cases ht:ts.toList with
        | nil=>rfl
        | cons t q=>
         cases q with
         | nil=>rfl
         | cons t' q=>
          cases q with
          | cons _ _=>rfl
          | nil=>simp only[hs]
theorem Mh {o:Oper}{bh eO:Operand→SV}(hv:∀x,x∈o.op.operands→eO x=bh x){m:Operand→Bool}(hM:∀x,x∈o.op.operands→(∃e s,bh x=.e e s)→m x=true)(hC:gC obj=gC fV)(hH:fk o m (gC obj)=true→obj br=fV br):Jj P o eO fV ix=Jj P o bh obj ix:=by
 unfold Jj;split
 ·rw[Ji hv];rw[fT,fT] at hC;rw[fT] at hH;exact Jh hC hM hH
 ·rfl
theorem Jn {o:Oper}{bh eO:Operand→SV}(hv:∀x,x∈o.op.operands→eO x=bh x){m:Operand→Bool}(hC:gC obj=gC fV)(hH:fk o m (gC obj)=true→obj br=fV br):mP P o eO (fV br) ix=mP P o bh (obj br) ix:=by
 have ZH:∀{hO Yx:Option aY},uq hO=uq Yx→(∀cf h,hO=some (.store cf h)→∀h',mP P o eO (some (.store cf h')) ix=mP P o bh (some (.store cf h)) ix)→mP P o eO Yx ix=mP P o bh hO ix:=by
  intro hO Yx hc hs;cases yw:uq hO with
  | none=>
   have other:∀{bh:Operand→SV} {hO:Option aY},uq hO=none→mP P o bh hO ix=none:=by
    intro bh hO h;unfold mP;split
    ·simp[uq] at h
    ·rfl
   rw[other yw,other (hc ▸ yw)]
  | some cf=>
   obtain⟨h1,rfl⟩:∃h1,hO=some (.store cf h1):=by
    unfold uq at yw;split at yw
    ·cases yw;exact⟨_,rfl⟩
    ·cases yw
   obtain⟨h2,rfl⟩:∃h2,Yx=some (.store cf h2):=by
    rw[yw] at hc;unfold uq at hc;split at hc
    ·cases hc;exact⟨_,rfl⟩
    ·cases hc
   exact hs cf h1 rfl h2
 have same:fk o m (gC obj)=true→mP P o eO (fV br) ix=mP P o bh (obj br) ix:=by
  intro hu;rw[hH hu];unfold mP;generalize oI:o.op=op at *;cases op <;> try rfl
  case mapUpdate t m k x=>simp only[hv m (by simp[Op.operands]),hv k (by simp[Op.operands]),hv x (by simp[Op.operands])]
  case insert t m k x=>simp only[hv m (by simp[Op.operands]),hv k (by simp[Op.operands]),hv x (by simp[Op.operands])]
  case makeMap t r=>cases r <;> rfl
  case lookup t m k ok=>simp only[hv m (by simp[Op.operands]),hv k (by simp[Op.operands])]
  case range t m=>simp only[hv m (by simp[Op.operands])]
  case entry it=>simp only[hv it (by simp[Op.operands])]
  case mapEntry t m k=>simp only[hv m (by simp[Op.operands]),hv k (by simp[Op.operands])]
  case entryStore t m s x=>simp only[hv m (by simp[Op.operands]),hv s (by simp[Op.operands]),hv x (by simp[Op.operands])]
  case call c=>
   obtain⟨callee,args,ts⟩:=c;cases callee <;> try rfl
   rename_i b;cases b <;> try rfl
   simp only
   match hx:args.toList with
   | [x]=>
    have JH:=hv x (by
     have:x∈args:=by
      have:x∈args.toList:=by rw[hx];simp
      simpa using this
     simp only[Op.operands,Call.operands];simp[this])
    match ts.toList with
    | [t]=>simp only[JH]
    | []=>rfl
    | _ :: _ :: _=>rfl
   | []=>rfl
   | _ :: _ :: _=>rfl
 rw[fT,fT] at hC;cases oI:o.op
 case makeMap=>exact same (by unfold fk;rw[oI])
 case mapUpdate=>exact same (by unfold fk;rw[oI])
 case insert=>exact same (by unfold fk;rw[oI])
 case lookup=>exact same (by unfold fk;rw[oI])
 case range=>exact same (by unfold fk;rw[oI])
 case entry=>exact same (by unfold fk;rw[oI])
 case mapEntry=>exact same (by unfold fk;rw[oI])
 case entryStore=>exact same (by unfold fk;rw[oI])
 case call c=>
  by_cases hu:fk o m (gC obj)=true
  ·exact same hu
  ·refine ZH hC fun zF h e h'=>?_;unfold fk at hu;rw[oI,fT,e] at hu;have off:∀{bh:Operand→SV} {h:E},mP P o bh (some (.store zF h)) ix=none:=by
    intro bh h;unfold mP;rw[oI];simp only;split
    ·rename_i hb;simp only[hb,uq,A0P] at hu;split
     ·rename_i x t _ ht;rw[ht] at hu;simp only[E0Q,List.any_nil,C0J] at hu;rw[A0B (by rw[hu];simp)]
     ·rfl
    ·rfl
   rw[off,off]
 all_goals exact ZH hC fun cf h _ h'=>by unfold mP;rw[oI]
theorem Jb {o:Oper}{bh eO:Operand→SV}(hv:∀x,x∈o.op.operands→eO x=bh x){m:Operand→Bool}(hH:fk o m (gC obj)=true→obj br=fV br):wZ P o eO (fV br) ix=wZ P o bh (obj br) ix:=by
 have off:∀{bh:Operand→SV} {hO:Option aY},(∀t m,o.op≠.range t m)→(∀it,o.op≠.next it true)→wZ P o bh hO ix=none:=by
  intro bh hO h1 h2;unfold wZ;split
  ·split
   ·rfl
   ·split
    ·rename_i h;exact absurd h (h1 _ _)
    ·rename_i h;exact absurd h (h2 _)
    ·rfl
  ·rfl
 by_cases h1:∃t x,o.op=.range t x
 ·obtain⟨t,x,h1⟩:=h1;rw[hH (by unfold fk;rw[h1])];unfold wZ;rw[h1];simp only[hv x (by rw[h1];simp[Op.operands])]
 ·by_cases h2:∃x,o.op=.next x true
  ·obtain⟨x,h2⟩:=h2;rw[hH (by unfold fk;rw[h2])];unfold wZ;rw[h2];simp only[hv x (by rw[h2];simp[Op.operands])]
  ·rw[off (fun t x h=>h1 ⟨t,x,h⟩) (fun x h=>h2 ⟨x,h⟩),off (fun t x h=>h1 ⟨t,x,h⟩) (fun x h=>h2 ⟨x,h⟩)]
theorem Jt {o:Oper}{bh eO:Operand→SV}(hv:∀x,x∈o.op.operands→eO x=bh x){m:Operand→Bool}(hM:∀x,x∈o.op.operands→(∃e s,bh x=.e e s)→m x=true)(hC:gC obj=gC fV)(hH:fk o m (gC obj)=true→obj br=fV br):sY P o eO (fV br) ix=sY P o bh (obj br) ix:=by
 have afG:∀hO:Option aY,sY P o eO hO ix=sY P o bh hO ix:=by
  intro hO;unfold sY;generalize oI:o.op=op at *;split
  ·cases op <;> try rfl
   case convert s t x=>simp only[hv x (by simp[Op.operands])]
   case indexAddr t x i=>cases x <;> first | rfl | simp only[hv i (by simp[Op.operands])]
   case call c=>
    obtain⟨callee,args,ts⟩:=c;have eF:∀x,x∈args.toList→eO x=bh x:=fun x hx=>hv x (by
     simp only[Op.operands,Call.operands];have:x∈args:=by simpa using hx
     simp[this])
    cases callee <;> try rfl
    rename_i b;cases b <;> try rfl
    all_goals
     simp only;cases hl:args.toList with
     | nil=>rfl
     | cons x r=>
      cases r with
      | nil=>rfl
      | cons y r=>
       cases r with
       | cons _ _=>rfl
       | nil=>
        have hx:=eF x (by rw[hl];simp);have hy:=eF y (by rw[hl];simp);have hap:∀cf h t t',z8 P cf h x eO (eO y) t t' ix=z8 P cf h x bh (bh y) t t' ix:=by intro cf h t t';unfold z8;rw[hx,hy]
        cases ts.toList with
        | nil=>rfl
        | cons t q=>
         cases q with
         | nil=>rfl
         | cons t' q=>
          cases q with
          | cons _ _=>rfl
          | nil=>first | (simp only[hx,hy];done) | exact hap _ _ _ _
  ·rfl
 rw[afG]
 by_cases hu:fk o m (gC obj)=true
 ·rw[hH hu]
 ·rw[fT,fT] at hC;rw[fT] at hu;cases yw:uq (obj br) with
  | none=>
   have other:∀{hO:Option aY},uq hO=none→sY P o bh hO ix=none:=by
    intro hO h;unfold sY;split
    ·simp[uq] at h
    ·rfl
   rw[other yw,other (hC ▸ yw)]
  | some cf=>
   obtain⟨h1,e1⟩:∃h1,obj br=some (.store cf h1):=by
    unfold uq at yw;split at yw
    ·rename_i e;cases yw;exact⟨_,e⟩
    ·cases yw
   obtain⟨h2,e2⟩:∃h2,fV br=some (.store cf h2):=by
    rw[yw] at hC;unfold uq at hC;split at hC
    ·rename_i e;cases hC;exact⟨_,e⟩
    ·cases hC
   rw[e1,e2];rw[yw] at hu;unfold fk at hu;unfold sY;generalize oI:o.op=op at *;cases op <;> try rfl
   case convert s t x=>
    simp only at hu ⊢;have:abc cf o=false:=by
     unfold abc;cases hd:o.dst with
     | none=>rfl
     | some d=>rw[hd] at hu;simpa using hu
    simp only[this];rfl
   case indexAddr t x i=>
    cases x <;> first | rfl | exact absurd rfl hu
   case call c=>
    obtain⟨callee,args,ts⟩:=c;cases callee <;> try rfl
    rename_i b;cases b <;> first | rfl | exact absurd rfl hu | skip
    simp only at hu ⊢;cases hl:args.toList with
    | nil=>rfl
    | cons s r=>
     rw[hl] at hu;simp only[B0v,E0G,A0P] at hu;have hn:∀h,∀x t t',z8 P cf h s bh x t t' ix=none:=by
      intro h x t t';unfold z8;split
      ·rfl
      ·split
       ·rename_i s' sb _ _ hs _ _ _;rw[IY,A0B (by simp[hu.2])] at hs;have:=hM s (by
         simp only[Op.operands,Call.operands];have:s∈args:=by
          have:s∈args.toList:=by rw[hl];simp
          simpa using this
         simp[this]) ⟨_,_,hs⟩
        rw[hu.1] at this;cases this
       ·rfl
     cases r with
     | nil=>rfl
     | cons x r=>
      cases r with
      | cons _ _=>rfl
      | nil=>
       cases ts.toList with
       | nil=>rfl
       | cons t q=>
        cases q with
        | nil=>rfl
        | cons t' q=>
         cases q with
         | cons _ _=>rfl
         | nil=>simp only[hn]
theorem Mm {o:Oper}{bh eO:Operand→SV}(hv:∀x,x∈o.op.operands→eO x=bh x){m:Operand→Bool}(hM:∀x,x∈o.op.operands→(∃e s,bh x=.e e s)→m x=true)(hC:gC obj=gC fV)(hH:fk o m (gC obj)=true→obj br=fV br):lmap P o eO fV ix=lmap P o bh obj ix:=by
 unfold lmap;split
 ·rw[Jn hv hC hH,Jb hv hH,Jt hv hM hC hH]
 ·rfl
theorem CM {o:Oper}{bh eO:Operand→SV}(hv:∀x,x∈o.op.operands→eO x=bh x)(ho:∀x ob,x∈o.op.operands→(bh x).aM ob=false→obj ob=fV ob):mA P o eO fV ix=mA P o bh obj ix:=by
 unfold mA;split
 ·rename_i t parts oI;have h1:pP fV eO parts.toList=pP obj bh parts.toList:=B0s fun p hp=>by
   have hm:p.2∈o.op.operands:=by rw[oI];simp only[Op.operands,D0m,A0F];exact⟨p,hp,rfl⟩
   rw[hv p.2 hm];congr 2;unfold rV;split <;> try rfl
   rename_i k hk;rw[ho p.2 k hm (by rw[hk];simp[SV.aM])]
  rw[h1]
 ·rfl
theorem Kl {o:Oper} {bh eO:List (E×Bool)→Operand→SV} {act:List (E×Bool)} (hv:∀act x,x∈o.op.operands→eO act x=bh act x)
  (ho:∀act x ob,x∈o.op.operands→(bh act x).aM ob=false→obj ob=fV ob) {m:Operand→Bool} (hM:∀act x,x∈o.op.operands→(∃e s,bh act x=.e e s)→m x=true) (hF:∀act g,bh act (.func g)=.func (.func g) []) (hC:gC obj=gC fV) (hH:fk o m (gC obj)=true→obj br=fV br):tG P o eO act fV ix=tG P o bh act obj ix:=by
 unfold tG;rw[CL (hv act) hC,Mh (hv []) (hM []) hC hH,Mm (hv act) (hM act) hC hH,wT hC,CE (hv []) (ho []),w9 (hv act),CM (hv act) (ho act),Jd hv (ho act) hM hF hC hH]
end congr
end
end
section
noncomputable section
structure Rec where
 dF:jg
 seen:List SV
 ix:Nat
 deriving Inhabited
def lI (ops:Array Oper)(j:Nat):Option Tmp:=(ops[j]?).bind (·.dst)
def fW (R:List Rec)(j:Nat):jg:=((R[j]?).map (·.dF)).getD ⟨.cz,none,none,none⟩
def jg.targets (e:jg):List Nat:=(match e.cm with | some u=>[u.1] | none=>[])++(match e.del with | some k=>[k] | none=>[])
def cq (ops:Array Oper)(R:List Rec)(D:Nat→Bool)(σ:ah):Nat→ah
 | 0=>σ
 | n+1=>if D n=true then(cq ops R D σ n).app (lI ops n) (fW R n) else cq ops R D σ n
def sF (ops:Array Oper)(o:Oper)(σ:ah):List SV:=(o.looksAt ops).map σ.tmp++(if fk o (fun x=>(σ.zZ x).L_) (gC σ.obj) then[.mE br] else[])
def zA (P:Program)(ops:Array Oper):List Oper→ah→Nat→Option (ah×List Bind×List Rec)
 | [],σ,_=>some (σ,[],[])
 | o :: r,σ,ix=>match lN P ops o σ ix with
  | none=>none
  | some e=>match e.bind with
   | none=>(zA P ops r (σ.app o.dst e) ix).map fun x=>(x.1,x.2.1,⟨e,sF ops o σ,ix⟩ :: x.2.2)
   | some b=>(zA P ops r (σ.app o.dst e) (ix+1)).map fun x=>(x.1,b :: x.2.1,⟨e,sF ops o σ,ix⟩ :: x.2.2)
theorem jv (ops:Array Oper)(R:List Rec)(D:Nat→Bool)(σ:ah):∀n,(cq ops R D σ n).tmps.length=σ.tmps.length∧(cq ops R D σ n).mem.length=σ.mem.length
 | 0=>⟨rfl,rfl⟩
 | n+1=>by
  have h:=jv ops R D σ n;unfold cq;split
  ·have:=HP (cq ops R D σ n) (lI ops n) (fW R n);exact⟨this.1.trans h.1,this.2.trans h.2⟩
  ·exact h
theorem LF {σ:ah}{dst:Option Tmp}{sv:SV}{t:Nat}(h:dst≠some t):(σ.put dst sv).tmp t=σ.tmp t:=by
 cases dst with
 | none=>rfl
 | some d=>
  have:d≠t:=fun e=>h (by rw[e]);simp[ah.ff,ah.gD,A0k,this]
theorem LG {σ:ah}{sv:SV}{t:Nat}:(σ.put (some t) sv).tmp t=if t<σ.tmps.length then sv else .cz:=by simp only[ah.ff,ah.gD,A0k,A0N];simp only[B0d];split <;> rfl
theorem VE (σ:ah)(k:Option Nat)(t:Nat):(σ.iT k).tmp t=σ.tmp t:=by cases k;rfl;exact σ.fz _ _ t
theorem SD (σ:ah)(u:Option (Nat×aY))(t:Nat):(σ.sets u).tmp t=σ.tmp t:=by cases u;rfl;exact σ.fz _ _ t
theorem QZ (σ:ah)(k:Option Nat):(σ.iT k).tmps=σ.tmps:=by cases k;rfl;exact σ.aP _ _
theorem PI (σ:ah)(u:Option (Nat×aY)):(σ.sets u).tmps=σ.tmps:=by cases u;rfl;exact σ.aP _ _
theorem ND {σ:ah}{dst:Option Tmp}{e:jg}{t:Nat}(h:dst≠some t):(σ.app dst e).tmp t=σ.tmp t:=by unfold ah.app;rw[LF h,SD,VE]
theorem D0 {σ:ah}{e:jg}{t:Nat}:(σ.app (some t) e).tmp t=if t<σ.tmps.length then e.val else .cz:=by unfold ah.app;rw[LG,PI,QZ]
theorem dM {σ:ah}{o o':Nat}{x:Option aY}(h:o≠o'):(σ.setObj o x).obj o'=σ.obj o':=σ.dM x (B0O h)
theorem fu {σ:ah}{o:Nat}{x:Option aY}:(σ.setObj o x).obj o=if o=br∨o<σ.mem.length then x else none:=by
 split
 ·rename_i h;rw[ah.eC h,A0z rfl]
 ·rename_i h;rw[E0G] at h;simp only[ah.eU,ah.ey];simp only[h.1,B0n,A0k];rw[C0Y (by simpa using h.2)];rfl
theorem Kq (σ:ah)(k:Option Nat):(σ.iT k).mem.length=σ.mem.length:=by cases k <;> simp[ah.iT,ah.fE]
theorem vX {σ:ah}{dst:Option Tmp}{e:jg}{ob:Nat}(h:ob∉e.targets):(σ.app dst e).obj ob=σ.obj ob:=by
 unfold ah.app;rw[ah.Bc];unfold jg.targets at h;cases hu:e.cm with
 | none=>
  cases hk:e.del with
  | none=>rfl
  | some k=>
   rw[hu,hk] at h;simp only[ah.sets,ah.iT];exact dM fun e=>h (by simp[e])
 | some u=>
  rw[hu] at h;simp only[ah.sets];rw[dM fun e=>h (by simp[e])];cases hk:e.del with
  | none=>rfl
  | some k=>
   rw[hk] at h;simp only[ah.iT];exact dM fun e=>h (by simp[e])
theorem NF {σ τ:ah}{dst:Option Tmp}{e:jg}{ob:Nat}(h:ob∈e.targets)(hl:σ.mem.length=τ.mem.length):(σ.app dst e).obj ob=(τ.app dst e).obj ob:=by
 unfold ah.app;rw[ah.Bc,ah.Bc];unfold jg.targets at h;have zi:∀(e':jg),e'.del=e.del→(∃k,e.del=some k∧k=ob)→(σ.iT e.del).obj ob=(τ.iT e.del).obj ob:=by
  rintro _ _ ⟨k,hk,rfl⟩
  rw[hk];simp only[ah.iT];rw[fu,fu,hl]
 cases hu:e.cm with
 | none=>
  rw[hu] at h;cases hk:e.del with
  | none=>rw[hk] at h;simp at h
  | some k=>
   rw[hk] at h;simp only[ah.sets];have:=zi e rfl ⟨k,hk,by simp at h;exact h.symm⟩;rwa [hk] at this
 | some u=>
  rw[hu] at h;simp only[ah.sets]
  by_cases cO:u.1=ob
  ·subst cO;rw[fu,fu,Kq,Kq,hl]
  ·rw[dM cO,dM cO];cases hk:e.del with
   | none=>rw[hk] at h;simp at h;exact absurd h.symm cO
   | some k=>
    rw[hk] at h;have:=zi e rfl ⟨k,hk,by simp at h;exact(h.resolve_left fun e=>cO e.symm).symm⟩;rwa [hk] at this
section
variable {ops:Array Oper} {R:List Rec} {D D':Nat→Bool} {σ:ah}
theorem E5 {t:Nat}:∀n,(∀j,j<n→lI ops j=some t→D j=D' j)→(cq ops R D σ n).tmp t=(cq ops R D' σ n).tmp t
 | 0,_=>rfl
 | n+1,h=>by
  have ih:=E5 n fun j hj=>h j (by omega);unfold cq
  by_cases hd:lI ops n=some t
  ·rw[←h n (by omega) hd];split
   ·rw[hd,D0,D0,(jv ..).1,(jv ..).1]
   ·exact ih
  ·split <;> split <;> (try simp only[ND hd]) <;> exact ih
theorem yP {ob:Nat}:∀n,(∀j,j<n→ob∈(fW R j).targets→D j=D' j)→(cq ops R D σ n).obj ob=(cq ops R D' σ n).obj ob
 | 0,_=>rfl
 | n+1,h=>by
  have ih:=yP n fun j hj=>h j (by omega);unfold cq
  by_cases hd:ob∈(fW R n).targets
  ·rw[←h n (by omega) hd];split
   ·exact NF hd (by rw[(jv ..).2,(jv ..).2])
   ·exact ih
  ·split <;> split <;> (try simp only[vX hd]) <;> exact ih
theorem kJ:∀n,(∀j,j<n→D j=D' j)→cq ops R D σ n=cq ops R D' σ n
 | 0,_=>rfl
 | n+1,h=>by unfold cq;rw[kJ n fun j hj=>h j (by omega),h n (by omega)]
theorem mq {i : Nat} : ∀ n, i ≤ n → (∀ j, j < n → i ≤ j → D j = false) → cq ops R D σ n = cq ops R D σ i
  | 0, h, _ => by have : i = 0 := by omega
                  subst this; rfl
  | n + 1, h, hD => by
    rcases A0U i (n + 1) with hlt | hge
    · unfold cq
      rw [hD n (by omega) (by omega)];simp only [A0S, B0n];rw [mq n (by omega) fun j hj => hD j (by omega)];cases i <;> rfl
    · have : i = n + 1 := by omega
      subst this; rfl
theorem wI {i n t:Nat}(hi:i≤n)(h:∀j,j<n→lI ops j=some t→D j=decide (j<i)):(cq ops R D σ n).tmp t=(cq ops R (fun _=>true) σ i).tmp t:=by rw[E5 (D':=fun j=>decide (j<i)) n h,mq n hi (fun j _ hj=>by simp;omega),kJ (D':=fun _=>true) i (fun j hj=>by simp[hj])]
theorem qT {i n ob:Nat}(hi:i≤n)(h:∀j,j<n→ob∈(fW R j).targets→D j=decide (j<i)):(cq ops R D σ n).obj ob=(cq ops R (fun _=>true) σ i).obj ob:=by rw[yP (D':=fun j=>decide (j<i)) n h,mq n hi (fun j _ hj=>by simp;omega),kJ (D':=fun _=>true) i (fun j hj=>by simp[hj])]
theorem mo (σ:ah){o o':Nat}(x y:Option aY)(h:o≠o'):(σ.setObj o x).setObj o' y=(σ.setObj o' y).setObj o x:=by
 simp only[ah.eU]
 by_cases h1:o=br <;> by_cases h2:o'=br
 ·exact absurd (h1.trans h2.symm) h
 ·simp[h1,h2]
 ·simp[h1,h2]
 ·simp only[h1,h2,B0n];rw[List.set_comm _ _ h]
theorem put_comm (σ:ah){d d':Option Tmp}(x y:SV)(h:∀t,d=some t→d'≠some t):(σ.put d x).put d' y=(σ.put d' y).put d x:=by
 cases d with
 | none=>rfl
 | some t=>cases d' with
  | none=>rfl
  | some t'=>
   have:t≠t':=fun e=>h t rfl (by rw[e]);simp[ah.ff,List.set_comm _ _ this]
theorem B8 (σ:ah)(d:Option Tmp)(x:SV)(o:Nat)(y:Option aY):(σ.put d x).setObj o y=(σ.setObj o y).put d x:=by simp only[ah.eU];cases d <;> simp only[ah.ff] <;> split <;> rfl
def mj (σ:ah)(l:List (Nat×Option aY)):ah:=l.foldl (fun σ u=>σ.setObj u.1 u.2) σ
theorem wF {o:Nat}{x:Option aY}:∀{l:List (Nat×Option aY)} {σ:ah},(∀u,u∈l→u.1≠o)→(mj σ l).setObj o x=mj (σ.setObj o x) l
 | [],_,_=>rfl
 | u :: l,σ,h=>by have:=wF (o:=o) (x:=x) (l:=l) (σ:=σ.setObj u.1 u.2) fun v hv=>h v (by simp[hv]);simp only[mj,B0Y] at this ⊢;rw[this,mo _ _ _ (h u (by simp))]
theorem BQ:∀{l l':List (Nat×Option aY)} {σ:ah},(∀u u',u∈l→u'∈l'→u.1≠u'.1)→mj (mj σ l) l'=mj (mj σ l') l
 | l,[],_,_=>rfl
 | l,u :: l',σ,h=>by have h1:mj (mj σ l) (u :: l')=mj ((mj σ l).setObj u.1 u.2) l':=rfl;have h2:mj σ (u :: l')=mj (σ.setObj u.1 u.2) l':=rfl;rw[h1,h2,wF fun v hv=>h v u hv (by simp),BQ fun v v' hv gQ=>h v v' hv (by simp[gQ])]
def jg.list (e:jg):List (Nat×Option aY):=(match e.del with | some k=>[(k,none)] | none=>[])++(match e.cm with | some u=>[(u.1,some u.2)] | none=>[])
theorem ya (σ:ah)(dst:Option Tmp)(e:jg):σ.app dst e=(mj σ e.list).put dst e.val:=by unfold ah.app jg.list;cases e.del <;> cases e.cm <;> rfl
theorem xf {e:jg}{u:Nat×Option aY}(h:u∈e.list):u.1∈e.targets:=by
 unfold jg.list at h;unfold jg.targets;cases hd:e.del <;> cases hu:e.cm <;> rw[hd,hu] at h <;> simp at h ⊢
 ·rw[h]
 ·rw[h]
 ·rcases h with h | h <;> rw[h] <;> simp
theorem yL (d:Option Tmp)(x:SV):∀(l:List (Nat×Option aY)) (σ:ah),mj (σ.put d x) l=(mj σ l).put d x
 | [],_=>rfl
 | u :: l,σ=>by have:=yL d x l (σ.setObj u.1 u.2);simp only[mj,B0Y] at this ⊢;rw[B8,this]
theorem Wa (σ:ah){d d':Option Tmp}{e e':jg}(hd:∀t,d=some t→d'≠some t)(hu:∀ob,ob∈e.targets→ob∉e'.targets):(σ.app d e).app d' e'=(σ.app d' e').app d e:=by rw[ya,ya,ya,ya,yL,yL,put_comm _ _ _ hd,BQ fun u u' h1 h2 h3=>hu u.1 (xf h1) (h3 ▸ xf h2)]
theorem yQ {i:Nat}(hi:D i=false):∀n,i<n→(∀j,j<n→i<j→D j=true→(∀t,lI ops i=some t→lI ops j≠some t)∧∀ob,ob∈(fW R i).targets→ob∉(fW R j).targets) →
  cq ops R (fun j=>D j||j==i) σ n=(cq ops R D σ n).app (lI ops i) (fW R i)
 | 0,h,_=>by omega
 | n+1,h,hc=>by
  unfold cq;rcases A0U i n with hlt | hge
  ·have ih:=yQ hi n hlt fun j hj=>hc j (by omega);have bQ:(n==i)=false:=by simp;omega
   rw[ih];simp only[bQ,C0J];split
   ·rename_i hD;obtain⟨h1,h2⟩:=hc n (by omega) hlt hD;exact Wa _ h1 h2
   ·rfl
  ·have:n=i:=by omega
   subst this;simp only[hi,BEq.rfl,E0b,B0d,A0S,B0n];rw[kJ (D':=D) n fun j hj=>by simp;omega]
end
end
end
section
noncomputable section
def Rec.cG (r:Rec)(ob:Nat):Bool:=
 r.seen.any (fun sv=>!sv.aM ob)||!r.dF.val.aM ob||r.dF.targets.contains ob||(match r.dF.cm with | some u=>!u.2.aM ob | none=>false)
def Rec.reader (r:Rec):Bool:=r.dF.cm.isNone&&r.dF.del.isNone
def vU (o:Oper):Bool:=o.guard.isNone&&match o.op with | .move _ | .nilCheck _ | .fieldAddr _ _ _=>true | _=>false
def lC (ow oy:Oper)(ry:Rec)(ob:Nat):Bool:=vU oy&&ry.reader&&decide (ob≠br)&&!ga ow
def uC (ops:Array Oper)(oj oi:Oper)(rj ri:Rec):Bool:=
 !oj.apart ops oi||rj.dF.targets.any (fun ob=>ri.cG ob&&!lC oj oi ri ob)||ri.dF.targets.any (fun ob=>rj.cG ob&&!lC oi oj rj ob)
def Tg (ms:List Nat)(o:Oper):Nat:=o.after.toList.foldl (fun s e=>if Region.binds .any e=true then s ||| 2 ^ e.on ||| ms.getD e.on 0 else s) 0
def jV:List Oper→List Nat→List Nat
 | [],ms=>ms
 | o :: r,ms=>jV r (ms++[Tg ms o])
def Rec.qJ (r:Rec):Bool:=match r.dF.targets with | [k]=>decide (k=br) | _=>false
def mi (ops:Array Oper)(oj oi:Oper)(rj ri:Rec):Bool:=oj.apart ops oi&&((rj.reader&&ri.qJ)||(ri.reader&&rj.qJ))
def SU (ops:Array Oper)(m:Nat)(oi:Oper)(ri:Rec)(j:Nat)(oj:Oper)(rj:Rec):Bool:=
 (!uC ops oj oi rj ri||m.testBit j||mi ops oj oi rj ri)&&(!ga oi||match ri.dF.cm with | some u=>decide (u.1=br)||!rj.cG u.1 | none=>true)
def afS (ops:Array Oper)(R:List Rec)(σ:ah)(m i:Nat):Bool:=
 match ops[i]?,R[i]? with
 | some oi,some ri=>oi.after.all (fun e=>!Region.binds .any e||decide (e.on<i))&&pF σ oi &&
   (!ga oi||match ri.dF.cm with | some u=>decide (u.1=br)||((σ.obj u.1).isNone&&σ.jF u.1) | none=>true) &&
   (List.range i).all fun j=>match ops[j]?,R[j]? with
    | some oj,some rj=>SU ops m oi ri j oj rj
    | _,_=>true
 | _,_=>false
def Nx (R:List Rec)(σ:ah):Bool:=
 R.all fun r=>decide (r.dF.del≠some br)&&match r.dF.cm with
  | some u=>decide (u.1=br→uq (some u.2)=gC σ.obj)
  | none=>true
def o7 (ops:Array Oper)(R:List Rec)(σ:ah):Bool:=Nx R σ &&
 (List.range ops.size).all fun i=>afS ops R σ ((jV ops.toList []).getD i 0) i
def Iy (ops:Array Oper)(R:List Rec)(ms:List Nat)(i:Nat):List Nat:=
 (List.range ops.size).filter fun j=>(match R[j]? with | some rj=>rj.qJ | none=>false)&&!(decide (j<i)&&(ms.getD i 0).testBit j)&&!(decide (i<j)&&(ms.getD j 0).testBit i)&&decide (j≠i)
def HQ (ops:Array Oper)(R:List Rec)(σ:ah)(i j:Nat):Option aY:=(cq ops R (fun k=>decide (k<i) != (k==j)) σ ops.size).obj br
def Pv (P:Program)(ops:Array Oper)(R:List Rec)(σ:ah)(ms:List Nat)(i:Nat):Option (List E):=
 match ops[i]?,R[i]? with
 | some o,some r=>if r.reader&&r.cG br then(match Iy ops R ms i with
   | []=>some []
   | [j]=>(match lN P ops o ((cq ops R (fun _=>true) σ i).setObj br (HQ ops R σ i j)) r.ix with
    | some e=>if e.val.same r.dF.val&&e.cm.isNone&&e.del.isNone then(match e.bind,r.dF.bind with
      | some (.ev b),some (.ev a)=>some [.m4 .same a b .nil .nil]
      | none,none=>some []
      | _,_=>none) else none
    | none=>none)
   | _=>none) else some []
 | _,_=>none
def xQ (P:Program)(ops:Array Oper)(R:List Rec)(σ:ah)(ms:List Nat):Nat→Option (List E)
 | 0=>some []
 | n+1=>(xQ P ops R σ ms n).bind fun xs=>(Pv P ops R σ ms n).map (xs++·)
def extras (P:Program)(ops:Array Oper)(R:List Rec)(σ:ah):Option (List E):=xQ P ops R σ (jV ops.toList []) ops.size
theorem FK {P:Program}{ops:Array Oper}{R:List Rec}{σ:ah}{ms:List Nat}:∀{n:Nat} {xs:List E},xQ P ops R σ ms n=some xs→∀i,i<n→∃ys,Pv P ops R σ ms i=some ys∧∀y,y∈ys→y∈xs
 | 0,_,_,i,hi=>by omega
 | n+1,xs,h,i,hi=>by
  simp only[xQ,A0b,A0a] at h;obtain⟨zs,h1,ys,h2,rfl⟩:=h;rcases A0U i n with hlt | hge
  ·obtain⟨ys',h3,h4⟩:=FK h1 i hlt;exact⟨ys',h3,fun y hy=>A0K.2 (.inl (h4 y hy))⟩
  ·obtain rfl:i=n:=by omega
   exact⟨ys,h2,fun y hy=>A0K.2 (.inr hy)⟩
theorem BM {r:Rec}(h:r.qJ=true):r.dF.targets=[br]:=by
 unfold Rec.qJ at h;split at h
 ·rename_i k hk;simp only[A0t] at h;rw[hk,h]
 ·cases h
theorem jq {r:Rec}(h:r.reader=true):r.dF.targets=[]:=by unfold Rec.reader at h;simp only[A0f,B0i] at h;unfold jg.targets;rw[h.1,h.2];rfl
section
variable {P:Program} {ops:Array Oper} {R:List Rec} {σ:ah} {D:Nat→Bool}
theorem Ge {act:List (E×Bool)}{sv:SV}{ob:Nat}(h:(sv.strip act).aM ob=false):sv.aM ob=false:=by
 unfold SV.strip at h;split at h
 ·split at h
  ·exact h
  ·simp[SV.aM] at h
 ·exact h
theorem Cg {act:List (E×Bool)}{x:Operand}{ob:Nat}(h:(σ.bh act x).aM ob=false):∃t,x=.tmp t∧(σ.tmp t).aM ob=false:=by
 have h:=Ge h;cases x with
 | tmp t=>exact⟨t,rfl,h⟩
 | const v=>
  simp only[ah.zZ,nC] at h;split at h <;> simp[SV.aM] at h
 | global g=>simp[ah.zZ,SV.aM] at h
 | func f=>simp[ah.zZ,SV.aM,SV.dL] at h
theorem o8 {o:Oper}{t:Tmp}(h:Operand.tmp t∈o.op.operands):t∈o.looksAt ops:=by unfold Oper.looksAt;refine A0K.2 (.inl (D0W.2 ⟨.tmp t,by simpa using h,rfl⟩))
theorem BY (h:Nx R σ=true):∀n,gC (cq ops R D σ n).obj=gC σ.obj
 | 0=>rfl
 | n+1=>by
  have ih:=BY h n;unfold cq;split
  ·have key:∀e:jg,(e.del≠some br∧∀u,e.cm=some u→u.1=br→uq (some u.2)=gC σ.obj)→gC ((cq ops R D σ n).app (lI ops n) e).obj=gC σ.obj:=by
    rintro e ⟨h1,h2⟩
    by_cases ht:br∈e.targets
    ·unfold jg.targets at ht;cases hu:e.cm with
     | none=>
      rw[hu] at ht;cases hk:e.del with
      | none=>rw[hk] at ht;simp at ht
      | some k=>rw[hk] at ht;simp at ht;exact absurd (by rw[hk,←ht]) h1
     | some u=>
      by_cases Lh:u.1=br
      ·have fC:((cq ops R D σ n).app (lI ops n) e).obj br=some u.2:=by unfold ah.app;rw[ah.Bc,hu];simp only[ah.sets];rw[Lh,fu,A0z (.inl rfl)]
       rw[fT,fC];exact h2 u hu Lh
      ·rw[hu] at ht;cases hk:e.del with
       | none=>rw[hk] at ht;simp at ht;exact absurd ht.symm Lh
       | some k=>
        rw[hk] at ht;simp at ht;rcases ht with ht | ht
        ·exact absurd ht.symm Lh
        ·exact absurd (by rw[hk,←ht]) h1
    ·rw[fT,vX ht,←fT];exact ih
   refine key _ ?_;unfold fW;cases hr:R[n]? with
   | none=>exact⟨by simp,by simp⟩
   | some r=>
    have:=A0C.1 h r (A0I hr);simp only[A0f,A0t] at this;refine⟨this.1,fun u hu hh=>?_⟩;have h2:=this.2;simp only[A0y,B0l] at hu;rw[hu] at h2;exact(of_decide_eq_true h2) hh
  ·exact ih
theorem qV {σ':ah}{o:Oper}{ix:Nat}(ht:∀t,t∈o.looksAt ops→σ'.tmp t=σ.tmp t)(ho:∀t ob,t∈o.looksAt ops→(σ.tmp t).aM ob=false→σ'.obj ob=σ.obj ob)(hC:gC σ'.obj=gC σ.obj)(hH:fk o (fun x=>(σ.zZ x).L_) (gC σ.obj)=true→σ'.obj br=σ.obj br):lN P ops o σ' ix=lN P ops o σ ix:=by
 have jj:AH ops σ' ix o.guard=AH ops σ ix o.guard:=by
  unfold AH;split
  ·rfl
  ·rename_i j want hg;split
   ·rename_i d hd;rw[ht d (by unfold Oper.looksAt;rw[hg];simp[hd])]
   ·rfl
 have hv:∀act x,x∈o.op.operands→σ'.bh act x=σ.bh act x:=by
  intro act x hx;unfold ah.bh;cases x with
  | tmp t=>simp only[ah.zZ];rw[ht t (o8 hx)]
  | _=>rfl
 have Ui:∀e,yM o σ' e=yM o σ e:=by
  intro e;unfold yM;cases e.cm with
  | none=>rfl
  | some u=>
   simp only;congr 1;congr 1;rw[C0Z,D0x,D0x];exact⟨fun h x hx=>by rw[←hv [] x hx];exact h x hx,fun h x hx=>by rw[hv [] x hx];exact h x hx⟩
 have Fx:∀act,tG P o σ'.bh act σ'.obj ix=tG P o σ.bh act σ.obj ix:=fun act=>Kl (bh:=σ.bh) (obj:=σ.obj) hv (fun act x ob hx mU=>by
  obtain⟨t,rfl,acK⟩:=Cg mU;exact(ho t ob (o8 hx) acK).symm) (m:=fun x=>(σ.zZ x).L_) (fun act x _ he=>by obtain⟨e,s,he⟩:=he;exact LK he) (fun act g=>rfl) hC.symm fun h=>(hH h).symm
 have RK:∀e,l7 o (σ'.obj br) ix e=l7 o (σ.obj br) ix e:=by
  intro e;have hC':uq (σ'.obj br)=uq (σ.obj br):=by rw[←fT,←fT];exact hC
  cases hl:Tq o (uq (σ.obj br)) with
  | true=>simp[l7,hl,hC']
  | false=>
  cases hc:Bm o with
  | false=>simp[l7,hc]
  | true=>
   rw[hH ?_];unfold Bm at hc;unfold fk;unfold Tq at hl;rw[←fT] at hl;split at hc
   ·rename_i c oI;rw[oI] at hl ⊢;simp only at hl ⊢;split at hc
    ·rename_i g Bp;rw[Bp] at hl ⊢;simp only;rw[hl];rfl
    ·cases hc
   ·cases hc
 have hln:∀act,CF false P o (σ'.bh act) σ'.obj ix=CF false P o (σ.bh act) σ.obj ix:=fun act=>CE (bh:=σ.bh act) (eO:=σ'.bh act) (obj:=σ.obj) (fV:=σ'.obj) (hv act) fun x ob hx mU=>by obtain⟨t,rfl,acK⟩:=Cg mU;exact(ho t ob (o8 hx) acK).symm
 have OV:∀act,MZ P o σ' act ix=MZ P o σ act ix:=fun act=>by
  cases act with
  | nil=>rfl
  | cons p r=>simp only[MZ,hln]
 unfold lN;rw[jj];split
 ·rfl
 ·rename_i act _;rw[OV act,Fx act];simp only[Ui,RK]
theorem LW {σ':ah}{o:Oper}{ix:Nat}{e:jg}(hb:vU o=true)(ht:∀t,t∈o.looksAt ops→σ'.tmp t=σ.tmp t)(hC:gC σ'.obj=gC σ.obj)(he:lN P ops o σ ix=some e)(hr:e.cm.isNone=true∧e.del.isNone=true):lN P ops o σ' ix=some e:=by
 unfold vU at hb;simp only[A0f,B0i] at hb;obtain⟨hg,hb⟩:=hb;have hv:∀act x,x∈o.op.operands→σ'.bh act x=σ.bh act x:=by
  intro act x hx;unfold ah.bh;cases x with
  | tmp t=>simp only[ah.zZ];rw[ht t (o8 hx)]
  | _=>rfl
 have Fx:∀act,tG P o σ'.bh act σ'.obj ix=tG P o σ.bh act σ.obj ix:=fun act=>by
  unfold tG;rw[CL (hv act) hC.symm,w9 (hv act),wT hC.symm];have h1:∀bh obj,Jj P o bh obj ix=none:=fun bh obj=>by unfold Jj;unfold sX;split at hb <;> rename_i oI <;> (try cases hb) <;> simp only[oI] <;> (repeat' split) <;> first | rfl | simp_all
  have h2:∀bh obj,lmap P o bh obj ix=none:=fun bh obj=>by
   have hU:NN o=false:=by unfold NN;split at hb <;> rename_i oI <;> (try cases hb) <;> simp only[oI]
   unfold lmap;rw[hU];simp
  have h3:∀nz bh obj,CF nz P o bh obj ix=none:=fun nz bh obj=>by unfold CF;split at hb <;> rename_i oI <;> (try cases hb) <;> simp only[oI]
  have h4:∀bh obj,mA P o bh obj ix=none:=fun bh obj=>by unfold mA;split at hb <;> rename_i oI <;> (try cases hb) <;> simp only[oI]
  simp only[h1,h2,h3,h4];have h5:w8 P o σ'.bh act σ'.obj ix=w8 P o σ.bh act σ.obj ix:=by
   unfold w8;split at hb <;> rename_i oI <;> (try cases hb) <;> simp only[oI]
   ·rw[hv act _ (by rw[oI];simp[Op.operands])]
   ·rw[hv act _ (by rw[oI];simp[Op.operands])]
   ·rw[hv act _ (by rw[oI];simp[Op.operands])]
  rw[h5]
 unfold lN at he ⊢;have ha:∀σ:ah,AH ops σ ix o.guard=some []:=fun σ=>by unfold AH;rw[hg]
 simp only[ha,MZ,Fx] at he ⊢;split at he
 ·cases he
 ·rename_i e' he';split at he
  ·rename_i hy;rw[A0z hy];exact he
  ·rename_i hn;split at he
   ·cases he;exact absurd (by rw[hr.1,hr.2];rfl) hn
   ·cases he
def jd (ops:Array Oper)(D:Nat→Bool):Prop:=∀k o,D k=true→ops[k]? = some o→∀e,e∈o.after→Region.binds .any e=true→D e.on=true
def NJ (ops:Array Oper)(D:Nat→Bool)(ms:List Nat):Prop:=
 ∀(i m:Nat),ms[i]? = some m→∃o:Oper,ops[i]? = some o∧((∀e,e∈o.after→Region.binds .any e=true→D e.on=true)→∀j,m.testBit j=true→D j=true)
theorem I_ (hD:jd ops D){ms:List Nat}(hg:NJ ops D ms){o:Oper}(ho:∀e,e∈o.after→Region.binds .any e=true→D e.on=true):∀j,(Tg ms o).testBit j=true→D j=true:=by
 have go:∀(l:List Edge) (s:Nat),(∀e,e∈l→Region.binds .any e=true→D e.on=true)→(∀j,s.testBit j=true→D j=true)→∀j,(l.foldl (fun s e=>if Region.binds .any e=true then s ||| 2 ^ e.on ||| ms.getD e.on 0 else s) s).testBit j=true→D j=true:=by
  intro l
  induction l with
  | nil=>intro s _ hs;exact hs
  | cons e l ih=>
   intro s hl hs;refine ih _ (fun e' he'=>hl e' (by simp[he'])) fun j hj=>?_
   dsimp only at hj
   split at hj
   ·rename_i hb;have hon:=hl e (by simp) hb;simp only[Nat.testBit_or,B0v] at hj;rcases hj with(hj | hj) | hj
    ·exact hs j hj
    ·rw[Nat.testBit_two_pow] at hj;simp at hj;rw[←hj];exact hon
    ·rw[A0k] at hj;cases hm:ms[e.on]? with
     | none=>rw[hm] at hj;simp at hj
     | some m=>
      rw[hm] at hj;obtain⟨o',C7,h'⟩:=hg e.on m hm;exact h' (hD e.on o' hon C7) j hj
   ·exact hs j hj
 exact go o.after.toList 0 (fun e he=>ho e (by simpa using he)) (by simp)
theorem Cy (hD:jd ops D):∀{l:List Oper} {ms:List Nat},ops.toList.drop ms.length=l→NJ ops D ms→NJ ops D (jV l ms)
 | [],ms,_,hg=>hg
 | o :: r,ms,hl,hg=>by
  unfold jV;have lE:ops[ms.length]? = some o:=by have:=B0q (fun l=>l[0]?) hl;simpa using this
  refine Cy hD ?_ ?_
  ·have:ops.toList.drop (ms.length+1)=r:=by rw[←D0F,hl];rfl
   simpa using this
  ·show ∀(i m:Nat),_;intro i m hi;rcases A0U i ms.length with h | h
   ·rw[A0g h] at hi;exact hg i m hi
   ·rw[A0o h] at hi;have hi0:i=ms.length:=by
     rcases Nat.eq_or_lt_of_le h with h | h
     ·exact h.symm
     ·rw[C0Y (by simp;omega)] at hi;cases hi
    subst hi0;simp at hi;subst hi;exact⟨o,lE,fun ho=>I_ hD hg ho⟩
theorem vr (hD:jd ops D){i:Nat}{o:Oper}(ho:ops[i]? = some o)(ha:∀e,e∈o.after→Region.binds .any e=true→D e.on=true){j:Nat}(hj:((jV ops.toList []).getD i 0).testBit j=true):D j=true:=by
 have hg:=Cy hD (l:=ops.toList) (ms:=[]) rfl (fun i m hi=>by simp at hi);rw[A0k] at hj;cases hm:(jV ops.toList [])[i]? with
 | none=>rw[hm] at hj;simp at hj
 | some m=>
  rw[hm] at hj;obtain⟨o',C7,h'⟩:=hg i m hm;rw[ho] at C7;cases C7;exact h' ha j hj
abbrev lex (ops:Array Oper)(R:List Rec)(σ:ah)(i:Nat):ah:=cq ops R (fun _=>true) σ i
theorem FL {env:List Am.D}:∀{l:List Oper} {k:Nat} {σk:ah} {ix:Nat} {σ':ah} {bs:List Bind} {rs:List Rec},zA P ops l σk ix=some (σ',bs,rs)→ops.toList.drop k=l→R.drop k=rs→k≤ops.size →
  lex ops R σ k=σk→uz P env ix bs→ix+bs.length≤env.length →
  lex ops R σ ops.size=σ'∧∀(i:Nat) (o:Oper),k≤i→ops[i]? = some o→∃r,R[i]? = some r∧lN P ops o (lex ops R σ i) r.ix=some r.dF∧r.seen=sF ops o (lex ops R σ i)∧bD P env r.ix r.dF.bind∧r.ix≤env.length
 | [],k,σk,ix,σ',bs,rs,h,hl,_,hk,hσ,_,_=>by
  simp[zA] at h;have:k=ops.size:=by have:=B0q List.length hl;simp at this;omega
  subst this;refine⟨hσ.trans h.1,fun i o hi ho=>?_⟩;have:=(A0l.1 ho).1;omega
 | o :: l,k,σk,ix,σ',bs,rs,h,hl,hr,hk,hσ,hb,cA=>by
  have lE:ops[k]? = some o:=by have:=B0q (fun l=>l[0]?) hl;simpa using this
  have Ln:k+1≤ops.size:=(A0l.1 lE).1;have iH:ops.toList.drop (k+1)=l:=by rw[←D0F,hl];rfl
  have go:∀{e:jg} {ix':Nat} {bs':List Bind} {yS:List Rec},lN P ops o σk ix=some e→zA P ops l (σk.app o.dst e) ix'=some (σ',bs',yS)→rs=⟨e,sF ops o σk,ix⟩ :: yS→bD P env ix e.bind→ix≤env.length→uz P env ix' bs'→ix'+bs'.length≤env.length →
    lex ops R σ ops.size=σ'∧∀(i:Nat) (o:Oper),k≤i→ops[i]? = some o→∃r,R[i]? = some r∧lN P ops o (lex ops R σ i) r.ix=some r.dF∧r.seen=sF ops o (lex ops R σ i)∧bD P env r.ix r.dF.bind∧r.ix≤env.length:=by
   intro e ix' bs' yS he hd kf Aj aom fI UE;have hRk:R[k]? = some ⟨e,sF ops o σk,ix⟩:=by have:=B0q (fun l=>l[0]?) (hr.trans kf);simpa using this
   have kg:R.drop (k+1)=yS:=by rw[←D0F,hr,kf];rfl
   have hσ':lex ops R σ (k+1)=σk.app o.dst e:=by unfold lex cq;simp only[B0d,lI,lE,fW,hRk,A0d,A0y,B0l];rw[show cq ops R (fun _=>true) σ k=σk from hσ]
   obtain⟨h1,h2⟩:=FL hd iH kg Ln hσ' fI UE;refine⟨h1,fun i o' hi C7=>?_⟩;rcases Nat.eq_or_lt_of_le hi with heq | hlt
   ·subst heq;rw[lE] at C7;cases C7;exact⟨_,hRk,by rw[hσ];exact he,by rw[hσ],Aj,aom⟩
   ·exact h2 i o' hlt C7
  simp only[zA] at h;split at h
  ·cases h
  ·rename_i e he;split at h
   ·rename_i gr;obtain⟨⟨τ,bs',yS⟩,h2,h3⟩:=A0a.1 h;cases h3;exact go he h2 rfl (by rw[gr];trivial) (by omega) hb cA
   ·rename_i b gr;obtain⟨⟨τ,bs',yS⟩,h2,h3⟩:=A0a.1 h;cases h3;simp only[B0a] at cA;refine go he h2 rfl (by rw[gr];simpa using hb 0 b rfl) (by omega) (fun i b' hi=>?_) (by omega);have:=hb (i+1) b' (by simpa using hi);rwa [show ix+(i+1)=ix+1+i from by omega] at this
theorem pW {ob:Nat}:∀{l:List SV},SV.dL ob l=true↔∀x,x∈l→x.aM ob=true
 | []=>by simp[SV.dL]
 | a :: l=>by simp[SV.dL,pW (l:=l)]
theorem Kc {ob:Nat}{τ:ah}{dst:Option Tmp}{e:jg}(h:nr τ ob)(hv:e.val.aM ob=true)(ht:ob∉e.targets)(hu:∀u,e.cm=some u→u.2.aM ob=true):nr (τ.app dst e) ob:=by
 obtain⟨h1,h2⟩:=h;refine⟨by rw[vX ht];exact h1,?_⟩;have gT:∀(τ:ah) (k:Nat) (x:Option aY),τ.jF ob=true→(∀y,x=some y→y.aM ob=true)→(τ.setObj k x).jF ob=true:=by
  intro τ k x ht hx;simp only[ah.eU];simp only[ah.jF,A0f,A0C] at ht ⊢;split
  ·refine⟨ht.1,?_⟩;cases x with
   | none=>rfl
   | some z=>exact hx z rfl
  ·refine⟨⟨ht.1.1,fun y hy=>?_⟩,ht.2⟩;rcases C0l hy with hy | rfl
   ·exact ht.1.2 y hy
   ·cases y with
    | none=>rfl
    | some z=>exact hx z rfl
 have h3:(τ.iT e.del).jF ob=true:=by
  cases e.del with
  | none=>exact h2
  | some k=>exact gT τ k none h2 fun y hy=>by cases hy
 have h4:((τ.iT e.del).sets e.cm).jF ob=true:=by
  cases kK:e.cm with
  | none=>exact h3
  | some u=>exact gT _ _ _ h3 fun y hy=>by cases hy;exact hu u kK
 unfold ah.app;cases dst with
 | none=>exact h4
 | some d=>
  simp only[ah.jF,A0f,ah.ff] at h4 ⊢;refine⟨⟨pW.2 fun x hx=>?_,h4.1.2⟩,h4.2⟩;rcases C0l hx with hx | rfl
  ·exact pW.1 h4.1.1 x hx
  ·exact hv
theorem uE {r:Rec}{ob:Nat}(h:r.cG ob=false):r.dF.val.aM ob=true∧ob∉r.dF.targets∧∀u,r.dF.cm=some u→u.2.aM ob=true:=by simp only[Rec.cG,C0c,Bool.not_eq_false'] at h;refine⟨h.1.1.2,by simpa using h.1.2,fun u hu=>?_⟩;have:=h.2;rw[hu] at this;simpa using this
theorem sI {ob:Nat}(h:nr σ ob):∀n,(∀j,j<n→D j=true→∃r,R[j]? = some r∧r.cG ob=false)→nr (cq ops R D σ n) ob
 | 0,_=>h
 | n+1,hj=>by
  have ih:=sI h n fun j hjn=>hj j (by omega);unfold cq;split
  ·rename_i hD;obtain⟨r,hr,ht⟩:=hj n (by omega) hD;obtain⟨h2,h3,h4⟩:=uE ht;have he:fW R n=r.dF:=by simp[fW,hr]
   rw[he];exact Kc ih h2 h3 h4
  ·exact ih
end
end
end
section
noncomputable section
section
variable {P:Program} {ops:Array Oper} {R:List Rec} {σ:ah} {w0:World} {X:jN} {env:List D}
structure aaK (P:Program)(ops:Array Oper)(R:List Rec)(σ:ah)(env:List D)(i:Nat)(o:Oper)(r:Rec):Prop where
 at_:R[i]? = some r
 dF:lN P ops o (lex ops R σ i) r.ix=some r.dF
 seen:r.seen=sF ops o (lex ops R σ i)
 bind:bD P env r.ix r.dF.bind
 ix:r.ix≤env.length
 alt:∃ys,Pv P ops R σ (jV ops.toList []) i=some ys∧∀y,y∈ys→∃d,y.eval env=some d
theorem qZ (h:o7 ops R σ=true){i:Nat}{o:Oper}{r:Rec}(ho:ops[i]? = some o)(hr:R[i]? = some r) :
  (∀e,e∈o.after→Region.binds .any e=true→e.on<i)∧pF σ o=true∧(ga o=true→∀u,r.dF.cm=some u→u.1=br∨nr σ u.1) ∧
  ∀(j:Nat) (oj:Oper) (rj:Rec),j<i→ops[j]? = some oj→R[j]? = some rj→(uC ops oj o rj r=true→mi ops oj o rj r=false→((jV ops.toList []).getD i 0).testBit j=true)∧(ga o=true→∀u,r.dF.cm=some u→u.1=br∨rj.cG u.1=false):=by
 have hi:=(A0l.1 ho).1;unfold o7 at h;rw[A0f] at h;replace h:=h.2;have h:=A0C.1 h i (A0X.2 hi);unfold afS at h;rw[ho,hr] at h;simp only[A0f,A0C,A0X] at h;obtain⟨⟨⟨h1,h2⟩,h3⟩,h4⟩:=h;refine⟨fun e he hb=>?_,h2,fun hn u hu=>?_,fun j oj rj hj p5 qm=>?_⟩
 ·have:=C0W.1 h1 e he;simpa[hb] using this
 ·rw[hn,hu] at h3;simpa[nr] using h3
 ·have:=h4 j hj;rw[p5,qm] at this;simp only[SU,A0f,B0v,B0j] at this;refine⟨fun hc hs=>by rw[hc,hs] at this;simpa using this.1,fun hn u hu=>?_⟩;have:=this.2;rw[hn,hu] at this;simpa using this
theorem Rf {oj oi:Oper}{rj ri:Rec}{t:Tmp}(hd:oj.dst=some t)(ht:t∈oi.looksAt ops):uC ops oj oi rj ri=true:=by
 have:oj.apart ops oi=false:=by rw[←A0P];intro h;exact(D0e h).1 t hd ht
 simp[uC,this]
theorem Nv {oj oi:Oper}{rj ri:Rec}{t:Tmp}(hd:oi.dst=some t)(ht:t∈oj.looksAt ops):uC ops oj oi rj ri=true:=by
 have:oj.apart ops oi=false:=by rw[←A0P];intro h;exact(D0e h).2.2 t hd ht
 simp[uC,this]
theorem KE {oj oi:Oper}{rj ri:Rec}{t:Tmp}(hd:oj.dst=some t)(ht:oi.dst=some t):uC ops oj oi rj ri=true:=by
 have:oj.apart ops oi=false:=by rw[←A0P];intro h;exact(D0e h).2.1 t hd ht
 simp[uC,this]
theorem xW {oj oi:Oper}{rj ri:Rec}{ob:Nat}(hu:ob∈rj.dF.targets)(ht:ri.cG ob=true)(hx:lC oj oi ri ob=false):uC ops oj oi rj ri=true:=by have:rj.dF.targets.any (fun ob=>ri.cG ob&&!lC oj oi ri ob)=true:=B0h.2 ⟨ob,hu,by simp[ht,hx]⟩;unfold uC;rw[this];simp
theorem uo {oj oi:Oper}{rj ri:Rec}{ob:Nat}(hu:ob∈ri.dF.targets)(ht:rj.cG ob=true)(hx:lC oi oj rj ob=false):uC ops oj oi rj ri=true:=by have:ri.dF.targets.any (fun ob=>rj.cG ob&&!lC oi oj rj ob)=true:=B0h.2 ⟨ob,hu,by simp[ht,hx]⟩;unfold uC;rw[this];simp
theorem DU {ow oy:Oper}{ry:Rec}:lC ow oy ry br=false:=by simp[lC]
theorem DT {ow oy:Oper}{ry:Rec}{ob:Nat}(h:ga ow=true):lC ow oy ry ob=false:=by simp[lC,h]
theorem FV {ow oy:Oper}{ry:Rec}{ob ob':Nat}(h:ob'∈ry.dF.targets):lC ow oy ry ob=false:=by
 have:ry.reader=false:=by rw[←A0P];intro hr;rw[jq hr] at h;cases h
 simp[lC,this]
theorem DS {ow oy:Oper}{ry:Rec}{ob:Nat}(h:¬(vU oy=true∧ry.reader=true)):lC ow oy ry ob=false:=by
 have:(vU oy&&ry.reader)=false:=by rw[←A0P,A0f];exact h
 simp[lC,this]
theorem mW {r:Rec}{sv:SV}{ob:Nat}(h:sv∈r.seen)(ha:sv.aM ob=false):r.cG ob=true:=by have:r.seen.any (fun sv=>!sv.aM ob)=true:=B0h.2 ⟨sv,h,by simp[ha]⟩;simp[Rec.cG,this]
theorem oR {r:Rec}{ob:Nat}(h:ob∈r.dF.targets):r.cG ob=true:=by simp[Rec.cG,h]
theorem u_ {e:jg}{u:Nat×aY}(h:e.cm=some u):u.1∈e.targets:=by simp[jg.targets,h]
theorem l6 {j:Nat}{t:Tmp}(h:lI ops j=some t):∃o,ops[j]? = some o∧o.dst=some t:=A0b.1 h
theorem qY {D:Nat→Bool} (hD:jd ops D) {i:Nat} {o:Oper} (ho:ops[i]? = some o) (hi:D i=false)
  (ha:∀e,e∈o.after→Region.binds .any e=true→D e.on=true) {j:Nat} {oj:Oper} (p5:ops[j]? = some oj) (h1:j<i→((jV ops.toList []).getD i 0).testBit j=true) (h2:i<j→((jV ops.toList []).getD j 0).testBit i=true):D j=decide (j<i):=by
 rcases D0j j i with h | h | h
 ·rw[vr hD ho ha (h1 h)];simp[h]
 ·subst h;rw[hi];simp
 ·have hm:=h2 h;have:D j=false:=by rw[←A0P];intro Hw;have:=vr hD p5 (hD j oj Hw p5) hm;rw[hi] at this;cases this
  rw[this];simp;omega
theorem L0 (eE:o7 ops R σ=true) {D:Nat→Bool} (hD:jd ops D) {i:Nat} {o:Oper} {r:Rec} (ho:ops[i]? = some o) (hr:R[i]? = some r) (hi:D i=false)
  (ha:∀e,e∈o.after→Region.binds .any e=true→D e.on=true) {j:Nat} {oj:Oper} {rj:Rec} (p5:ops[j]? = some oj) (qm:R[j]? = some rj) (hc:(uC ops oj o rj r=true∧mi ops oj o rj r=false)∧uC ops o oj r rj=true∧mi ops o oj r rj=false):D j=decide (j<i):=
 qY hD ho hi ha p5 (fun h=>(qZ eE ho hr).2.2.2 j oj rj h p5 qm |>.1 hc.1.1 hc.1.2) fun h=>(qZ eE p5 qm).2.2.2 i o r h ho hr |>.1 hc.2.1 hc.2.2
theorem qL {oj oi:Oper}{rj ri:Rec}(h:oj.apart ops oi=false):mi ops oj oi rj ri=false:=by simp[mi,h]
theorem D3 {oj oi:Oper}{t:Tmp}(hd:oj.dst=some t)(ht:t∈oi.looksAt ops):oj.apart ops oi=false:=by rw[←A0P];intro h;exact(D0e h).1 t hd ht
theorem AG {oj oi:Oper}{t:Tmp}(hd:oi.dst=some t)(ht:t∈oj.looksAt ops):oj.apart ops oi=false:=by rw[←A0P];intro h;exact(D0e h).2.2 t hd ht
theorem uy {oj oi:Oper}{t:Tmp}(hd:oj.dst=some t)(ht:oi.dst=some t):oj.apart ops oi=false:=by rw[←A0P];intro h;exact(D0e h).2.1 t hd ht
theorem NT {oj oi:Oper}{rj ri:Rec}{ob:Nat}(h:ob∈rj.dF.targets)(bQ:ob≠br):mi ops oj oi rj ri=false∧mi ops oi oj ri rj=false:=by
 have h1:rj.reader=false:=by rw[←A0P];intro hr;rw[jq hr] at h;cases h
 have h2:rj.qJ=false:=by rw[←A0P];intro hr;rw[BM hr] at h;simp at h;exact bQ h
 simp[mi,h1,h2]
theorem SB {oj oi:Oper}{rj ri:Rec}{ob ob':Nat}(h:ob∈rj.dF.targets)(h':ob'∈ri.dF.targets):mi ops oj oi rj ri=false∧mi ops oi oj ri rj=false:=by
 have h1:rj.reader=false:=by rw[←A0P];intro hr;rw[jq hr] at h;cases h
 have h2:ri.reader=false:=by rw[←A0P];intro hr;rw[jq hr] at h';cases h'
 simp[mi,h1,h2]
theorem P_ {ms:List Nat}{i j:Nat}{rj:Rec}(hj:j<ops.size)(qm:R[j]? = some rj)(hs:rj.qJ=true)(bQ:j≠i)(h:j∉Iy ops R ms i):(j<i→(ms.getD i 0).testBit j=true)∧(i<j→(ms.getD j 0).testBit i=true):=by unfold Iy at h;rw[B0T] at h;simp only[A0X,hj,E0m,qm,hs,D0M,A0f,B0j,A0t,D0G,B0A] at h;refine⟨fun hlt=>B0H fun hb=>h ⟨⟨.inr (by simpa using hb),.inl (by omega)⟩,bQ⟩,fun hlt=>B0H fun hb=>h ⟨⟨.inl (by omega),.inr (by simpa using hb)⟩,bQ⟩⟩
theorem Ik {D:Nat→Bool} (eE:o7 ops R σ=true) (hF:∀(i:Nat) (o:Oper),ops[i]? = some o→∃r,aaK P ops R σ env i o r) (hD:jd ops D) {i:Nat} {o:Oper} (ho:ops[i]? = some o) (hi:D i=false)
  (ha:∀e,e∈o.after→Region.binds .any e=true→D e.on=true):∃r:Rec,bD P env r.ix r.dF.bind∧r.ix≤env.length∧mr P ops o (cq ops R D σ ops.size) r.ix=some (cq ops R (fun j=>D j||j==i) σ ops.size,r.dF.bind):=by
 obtain⟨r,f⟩:=hF i o ho;have nh:=(A0l.1 ho).1;obtain⟨_,gB,hfr,OP⟩:=qZ eE ho f.at_;have kC:∀(j:Nat),j<ops.size→∃oj rj,ops[j]? = some oj∧R[j]? = some rj:=fun j hj=>by obtain⟨rj,fj⟩:=hF j ops[j] (A0p hj);exact⟨_,rj,A0p hj,fj.at_⟩
 have lH:=fun {j:Nat} {oj:Oper} {rj:Rec}=>L0 (j:=j) (oj:=oj) (rj:=rj) eE hD ho f.at_ hi ha;have EC:∀t,t∈o.looksAt ops→(cq ops R D σ ops.size).tmp t=(lex ops R σ i).tmp t:=by intro t ht;refine wI (C0K nh) fun j hj hjt=>?_;obtain⟨oj,p5,OY⟩:=l6 hjt;obtain⟨rj,fj⟩:=hF j oj p5;exact lH p5 fj.at_ ⟨⟨Rf OY ht,qL (D3 OY ht)⟩,Nv OY ht,qL (AG OY ht)⟩
 have fC:¬(vU o=true∧r.reader=true)→∀ob,ob≠br→r.cG ob=true→(cq ops R D σ ops.size).obj ob=(lex ops R σ i).obj ob:=by
  intro RC ob bQ lX;refine qT (C0K nh) fun j hj MS=>?_;obtain⟨oj,rj,p5,qm⟩:=kC j hj;have ZX:ob∈rj.dF.targets:=by simpa[fW,qm] using MS
  obtain⟨sr,oH⟩:=NT (ops:=ops) (oj:=oj) (oi:=o) (ri:=r) ZX bQ;exact lH p5 qm ⟨⟨xW ZX lX (DS RC),sr⟩,uo ZX lX (DS RC),oH⟩
 have rF:∀t ob,t∈o.looksAt ops→((lex ops R σ i).tmp t).aM ob=false→r.cG ob=true:=fun t ob ht mU=>mW (sv:=(lex ops R σ i).tmp t) (by rw[f.seen];exact A0K.2 (.inl (C0R ht))) mU;have Hl:fk o (fun x=>((lex ops R σ i).zZ x).L_) (gC (lex ops R σ i).obj)=true→r.cG br=true:=fun hu=>mW (sv:=.mE br) (by rw[f.seen];refine A0K.2 (.inr ?_);rw[hu];simp) (by simp[SV.aM]);have aac:Nx R σ=true:=by unfold o7 at eE;rw[A0f] at eE;exact eE.1
 have hC:gC (cq ops R D σ ops.size).obj=gC (lex ops R σ i).obj:=(BY aac _).trans (BY aac _).symm;have aio:cq ops R (fun j=>D j||j==i) σ ops.size=(cq ops R D σ ops.size).app o.dst r.dF:=by
  rw[yQ hi ops.size nh fun j hj AR Hw=>?_]
  ·have h1:lI ops i=o.dst:=by simp[lI,ho]
   have h2:fW R i=r.dF:=by simp[fW,f.at_]
   rw[h1,h2]
  ·obtain⟨oj,rj,p5,qm⟩:=kC j hj;have uS:¬((uC ops oj o rj r=true∧mi ops oj o rj r=false)∧uC ops o oj r rj=true∧mi ops o oj r rj=false):=by intro hc;have:=lH p5 qm hc;rw[Hw] at this;simp at this;omega
   refine⟨fun t h1 h2=>uS ?_,fun ob h1 h2=>uS ?_⟩
   ·obtain⟨o1,Lj,J2⟩:=l6 h1;obtain⟨o2,ho2,zj⟩:=l6 h2;rw[ho] at Lj;rw[p5] at ho2;cases Lj;cases ho2;exact⟨⟨KE zj J2,qL (uy zj J2)⟩,KE J2 zj,qL (uy J2 zj)⟩
   ·have Lh:ob∈r.dF.targets:=by simpa[fW,f.at_] using h1
    have hu2:ob∈rj.dF.targets:=by simpa[fW,qm] using h2
    obtain⟨sr,oH⟩:=SB (ops:=ops) (oj:=oj) (oi:=o) hu2 Lh;exact⟨⟨uo Lh (oR hu2) (FV hu2),sr⟩,xW Lh (oR hu2) (FV hu2),oH⟩
 have fin:∀e:jg,lN P ops o (cq ops R D σ ops.size) r.ix=some e→bD P env r.ix e.bind→e.val=r.dF.val→e.cm=r.dF.cm→e.del=r.dF.del→∃r:Rec,bD P env r.ix r.dF.bind∧r.ix≤env.length∧mr P ops o (cq ops R D σ ops.size) r.ix=some (cq ops R (fun j=>D j||j==i) σ ops.size,r.dF.bind):=by
  intro e th Dk h1 h2 h3;refine⟨⟨e,[],r.ix⟩,Dk,f.ix,?_⟩;have aoJ:cq ops R (fun j=>D j||j==i) σ ops.size=(cq ops R D σ ops.size).app o.dst e:=by rw[aio];simp only[ah.app,h1,h2,h3]
  rw[aoJ];refine uG th ?_ fun hn u hu=>?_
  ·unfold pF at gB ⊢;rw[(jv ..).1];exact gB
  ·have hu:=h2 ▸ hu;rcases hfr hn u hu with hH1 | hfr
   ·exact .inl hH1
   by_cases bQ:u.1=br
   ·exact .inl bQ
   refine .inr (sI hfr ops.size fun j hj Hw=>?_);obtain⟨oj,rj,p5,qm⟩:=kC j hj;refine⟨rj,qm,?_⟩;rcases D0j j i with h | h | h
   ·exact((OP j oj rj h p5 qm).2 hn u hu).resolve_left bQ
   ·subst h;rw[hi] at Hw;cases Hw
   ·rw[←A0P];intro ht;obtain⟨sr,oH⟩:=NT (ops:=ops) (oj:=o) (oi:=oj) (ri:=rj) (u_ hu) bQ;have:=lH p5 qm ⟨⟨uo (u_ hu) ht (DT hn),oH⟩,xW (u_ hu) ht (DT hn),sr⟩;rw[Hw] at this;simp at this;omega
 by_cases uT:vU o=true∧r.reader=true
 ·have bO:=uT.2;unfold Rec.reader at bO;rw[A0f] at bO;exact fin r.dF (LW uT.1 EC hC f.dF bO) f.bind rfl rfl rfl
 have fC:=fC uT
 by_cases xG:r.cG br=true→(cq ops R D σ ops.size).obj br=(lex ops R σ i).obj br
 ·have th:lN P ops o (cq ops R D σ ops.size) r.ix=some r.dF:=by
   rw[qV EC (fun t ob ht mU=>?_) hC (fun hu=>xG (Hl hu))]
   ·exact f.dF
   ·by_cases bQ:ob=br
    ·subst bQ;exact xG (rF t _ ht mU)
    ·exact fC ob bQ (rF t ob ht mU)
  exact fin r.dF th f.bind rfl rfl rfl
 ·-- a writer of qI store has Y_ place
  rw[Classical.not_imp] at xG;obtain⟨lX,xG⟩:=xG;have hw:∀j,j<ops.size→br∈(fW R j).targets→D j=decide (j<i)∨(r.reader=true∧j∈Iy ops R (jV ops.toList []) i):=by
   intro j hj MS;obtain⟨oj,rj,p5,qm⟩:=kC j hj;have ZX:br∈rj.dF.targets:=by simpa[fW,qm] using MS
   by_cases hji:j=i
   ·subst hji;left;rw[hi];simp
   by_cases Uh:r.reader=true∧rj.qJ=true
   ·by_cases hm:j∈Iy ops R (jV ops.toList []) i
    ·exact .inr ⟨Uh.1,hm⟩
    ·obtain⟨m1,m2⟩:=P_ hj qm Uh.2 hji hm;exact .inl (qY hD ho hi ha p5 m1 m2)
   ·have Qx:rj.reader=false:=by rw[←A0P];intro hr;rw[jq hr] at ZX;cases ZX
    have hs:∀{o1 o2:Oper},mi ops o1 o2 rj r=false∧mi ops o2 o1 r rj=false:=by
     intro o1 o2;have:(r.reader&&rj.qJ)=false:=by rw[←A0P,A0f];exact Uh
     simp only[mi,Qx,this,Bool.false_and,C0J,E0F,and_self]
    exact .inl (lH p5 qm ⟨⟨xW ZX lX DU,hs.1⟩,uo ZX lX DU,hs.2⟩)
  have xC:(∀j,j<ops.size→br∈(fW R j).targets→D j=decide (j<i))→False:=fun h=>xG (qT (C0K nh) h);have Af:r.reader=true:=by refine B0H fun hn=>xC fun j hj MS=>?_;exact(hw j hj MS).resolve_right fun h=>hn h.1
  obtain⟨ys,rW,bX⟩:=f.alt;unfold Pv at rW;simp only[ho,f.at_,Af,lX,E0M,B0d] at rW;split at rW
  ·rename_i hs;exact(xC fun j hj MS=>(hw j hj MS).resolve_right fun h=>by rw[hs] at h;cases h.2).elim
  ·rename_i j0 hs;have hD0:D j0≠decide (j0<i):=by intro h;refine xC fun j hj MS=>(hw j hj MS).elim id fun h'=>?_;rw[hs] at h';have:=h'.2;simp at this;rw[this];exact h
   have halt:(cq ops R D σ ops.size).obj br=HQ ops R σ i j0:=by
    refine yP ops.size fun j hj MS=>?_
    by_cases hj0:j=j0
    ·subst hj0;cases Hw:D j <;> cases OY:decide (j<i) <;> simp_all
    ·have:D j=decide (j<i):=(hw j hj MS).resolve_right fun h=>by rw[hs] at h;simp at h;exact hj0 h.2
     show D j=(decide (j<i) != (j==j0));rw[this,show(j==j0)=false from by simpa using hj0];cases decide (j<i) <;> rfl
   split at rW
   ·rename_i e he;split at rW
    ·rename_i hc;simp only[A0f,B0i] at hc;have bO:=Af;unfold Rec.reader at bO;simp only[A0f,B0i] at bO;have th:lN P ops o (cq ops R D σ ops.size) r.ix=some e:=by
      rw[←he];have hH:((lex ops R σ i).setObj br (HQ ops R σ i j0)).obj br=HQ ops R σ i j0:=by rw[fu,A0z (.inl rfl)]
      refine qV (fun t ht=>?_) (fun t ob ht mU=>?_) ?_ fun _=>by rw[hH];exact halt
      ·rw[ah.fz];exact EC t ht
      ·rw[ah.fz] at mU
       by_cases bQ:ob=br
       ·subst bQ;rw[hH];exact halt
       ·rw[dM (B0O bQ)];exact fC ob bQ (rF t ob ht mU)
      ·rw[fT,fT,hH,halt]
     have hb:bD P env r.ix e.bind:=by
      split at rW
      ·rename_i b a gr hba;cases rW;obtain⟨d,hd⟩:=bX _ (C0P _);have h0:=f.bind;rw[hba] at h0;obtain⟨da,h1,h2⟩:=h0;rw[gr];simp only[E.eval,h1,A0d,A0b] at hd;obtain⟨db,h3,h4⟩:=hd;simp only[Am.D.m4] at h4;split at h4
       ·rename_i hsm;have:=Am.D.cL hsm;subst this;exact⟨da,h3,h2⟩
       ·cases h4
      ·rename_i gr hba;rw[gr];trivial
      ·cases rW
     exact fin e th hb (SV.cL hc.1.1) (hc.1.2.trans bO.1.symm) (hc.2.trans bO.2.symm)
    ·cases rW
   ·cases rW
  ·cases rW
abbrev dI (listed:Array Bool):Nat→Bool:=fun j=>listed.getD j false
theorem Av {p q:Nat→Bool}{i:Nat}:∀{l:List Nat},(∀j,q j=true→p j=true)→i∈l→p i=true→q i=false→l.countP q<l.countP p
 | [],_,h,_,_=>by cases h
 | j :: l,hpq,hm,hp,hq=>by
  have hle:l.countP q≤l.countP p:=List.countP_mono_left fun x _ hx=>hpq x hx;rw[List.countP_cons,List.countP_cons];rcases A0E.1 hm with rfl | hm
  ·rw[hp,hq];simp;omega
  ·have ih:=Av hpq hm hp hq;cases hqj:q j with
   | false=>cases p j <;> simp <;> omega
   | true=>rw[hpq j hqj];simp;omega
theorem EP {rd:Option Nat} {n:Nat} {Q:Exit→Act→World→Prop} {st:(Nat→Bool)→ah} (acN:∀(i:Nat) (o:Oper),ops[i]? = some o→∀e,e∈o.after→Region.binds .any e=true→e.on<i)
  (hst:∀(D:Nat→Bool) (i:Nat) (o:Oper),jd ops D→ops[i]? = some o→D i=false→(∀e,e∈o.after→Region.binds .any e=true→D e.on=true)→∃r:Rec,bD P env r.ix r.dF.bind∧r.ix≤env.length∧mr P ops o (st D) r.ix=some (st (fun j=>D j||j==i),r.dF.bind))
  (hlen:∀D,(st D).tmps.length=σ.tmps.length∧(st D).mem.length=σ.mem.length) (acG:∀D D':Nat→Bool,(∀j,j<ops.size→D j=D' j)→st D=st D') (hm:σ.mem.length=σ.tmps.length)
  (bV:∀(j d:Nat),(ops[j]?).bind (fun(o:Oper)=>o.dst)=some d→d<σ.tmps.length) (hQ:∀a' w' ρ',aF w0 X w' a' (st fun _=>true) env ρ'→Q .normal a' w') :
  ∀(fuel:Nat) (listed:Array Bool) (a:Act) (w:World) (ρ:dD),listed.size=ops.size→jd ops (dI listed)→(List.range ops.size).countP (fun j=>!dI listed j)≤fuel →
   aF w0 X w a (st (dI listed)) env ρ→wpAnyIn (FW rd) n P .any ops Q fuel listed a w:=by
 have ji:∀(listed:Array Bool),listed.size=ops.size→Region.ready .any ops listed=[]→∀j,j<ops.size→dI listed j=true:=by
  intro listed hs hr j
  induction j using Nat.strongRecOn with
  | _ j ih=>
   intro hj;refine B0H fun oJ=>?_;have iK:j∈Region.ready .any ops listed:=by
    refine D0Q.2 ⟨?_,ops[j],A0p hj,fun e he hb=>?_⟩
    ·simp only[dI,A0s,A0p (show j<listed.size by omega),B0l] at oJ ⊢;simpa using oJ
    ·have:=acN j ops[j] (A0p hj) e he hb;exact ih e.on this (by omega)
   rw[hr] at iK;cases iK
 have mM:∀(listed:Array Bool) (a:Act) (w:World) (ρ:dD),listed.size=ops.size→Region.ready .any ops listed=[]→aF w0 X w a (st (dI listed)) env ρ→Q .normal a w:=by intro listed a w ρ hs hr bg;rw[acG _ (fun _=>true) fun j hj=>ji listed hs hr j hj] at bg;exact hQ a w ρ bg
 intro fuel
 induction fuel with
 | zero=>
  intro listed a w ρ hs hD hc bg;have ng:Region.ready .any ops listed=[]:=by
   cases hr:Region.ready .any ops listed with
   | nil=>rfl
   | cons j l=>
    have iK:j∈Region.ready .any ops listed:=by rw[hr];simp
    obtain⟨h1,o,ho,_⟩:=D0Q.1 iK;have hj:=(A0l.1 ho).1;have mK:0<(List.range ops.size).countP (fun j=>!dI listed j):=List.countP_pos_iff.2 ⟨j,A0X.2 hj,by
     simp only[dI,A0s,A0p (show j<listed.size by omega),B0l] at h1 ⊢;simpa using h1⟩
    omega
  exact⟨ng,mM listed a w ρ hs ng bg⟩
 | succ fuel ih=>
  intro listed a w ρ hs hD hc bg;refine⟨fun ng=>mM listed a w ρ hs ng bg,fun i hi=>?_⟩;obtain⟨h1,o,ho,ha⟩:=D0Q.1 hi;have nh:=(A0l.1 ho).1;have ug:i<listed.size:=by omega
  have hDi:dI listed i=false:=by simp only[dI,A0s,A0p ug,B0l] at h1 ⊢;exact h1
  have gT:dI (listed.setIfInBounds i true)=fun j=>dI listed j||j==i:=by
   funext j
   simp only[dI,A0s,B0D]
   by_cases AR:i=j
   ·subst AR;simp[ug]
   ·have:(j==i)=false:=by simp;omega
    simp[AR,this]
  obtain⟨r,Dk,cA,Fx⟩:=hst _ i o hD ho hDi ha;have hD':jd ops (dI (listed.setIfInBounds i true)):=by
   rw[gT];intro k ok hk Us e he hb;simp only[B0v,B0K] at hk ⊢;rcases hk with hk | rfl
   ·exact .inl (hD k ok hk Us e he hb)
   ·rw[ho] at Us;cases Us;exact .inl (ha e he hb)
  have acF:(List.range ops.size).countP (fun j=>!dI (listed.setIfInBounds i true) j)≤fuel:=by have:=Av (p:=fun j=>!dI listed j) (q:=fun j=>!dI (listed.setIfInBounds i true) j) (i:=i) (l:=List.range ops.size) (fun j hj=>by rw[gT] at hj;simp at hj ⊢;exact hj.1) (A0X.2 nh) (by simp[hDi]) (by rw[gT];simp);omega
  have C8:∀a' w' ρ',aF w0 X w' a' (st (fun j=>dI listed j||j==i)) env ρ'→wpAnyIn (FW rd) n P .any ops Q fuel (listed.setIfInBounds i true) a' w':=by intro a' w' ρ' kg;exact ih _ a' w' ρ' (by simp[hs]) hD' acF (by rw[gT];exact kg)
  have hlen:=hlen (dI listed);unfold wpOpIn;rw[ho];simp only;rcases zR bg (by rw[hlen.1,hlen.2];exact hm) cA (fun j d hjd=>by rw[hlen.1];exact bV j d hjd) Fx Dk with⟨hw,ahJ⟩ | ⟨hw,ρ'',kg⟩
  ·rw[A0z hw];refine gV (zS Fx) (ahJ Q) ?_
   rintro a' w' ⟨ρ',kg⟩
   exact C8 a' w' ρ' kg
  ·rw[A0B (by rw[hw];simp)];exact⟨fun _ _=>trivial,C8 _ _ _ kg⟩
theorem Lv {rd:Option Nat} {n:Nat} {Q:Exit→Act→World→Prop} (eE:o7 ops R σ=true) (hF:∀(i:Nat) (o:Oper),ops[i]? = some o→∃r,aaK P ops R σ env i o r) (hm:σ.mem.length=σ.tmps.length)
  (bV:∀(j d:Nat),(ops[j]?).bind (fun(o:Oper)=>o.dst)=some d→d<σ.tmps.length) (hQ:∀a' w' ρ',aF w0 X w' a' (lex ops R σ ops.size) env ρ'→Q .normal a' w') :
  ∀(fuel:Nat) (listed:Array Bool) (a:Act) (w:World) (ρ:dD),listed.size=ops.size→jd ops (dI listed)→(List.range ops.size).countP (fun j=>!dI listed j)≤fuel →
   aF w0 X w a (cq ops R (dI listed) σ ops.size) env ρ→wpAnyIn (FW rd) n P .any ops Q fuel listed a w:=
 EP (st:=fun D=>cq ops R D σ ops.size) (fun i o ho=>by
  obtain⟨r,f⟩:=hF i o ho;exact(qZ eE ho f.at_).1) (fun D i o hD ho hi ha=>Ik eE hF hD ho hi ha) (fun D=>jv ops R D σ ops.size) (fun D D' h=>kJ ops.size h) hm bV hQ
end
end
end
section
noncomputable section
def mY (cf:cF)(e:jg):Option Nat:=
 match e.cm with
 | some (k,.store zF (.sym n))=>if k=br∧zF=cf then some n else none
 | _=>none
theorem mX {cf:cF}{e:jg}{n:Nat}(h:mY cf e=some n):e.cm=some (br,.store cf (.sym n)):=by
 unfold mY at h;split at h
 ·rename_i k zF n' hu;split at h
  ·rename_i hc;cases h;rw[hu,hc.1,hc.2]
  ·cases h
 ·cases h
def jg.bare (e:jg):jg:=match e.cm with | some u=>if u.1=br then { e with cm:=none } else e | none=>e
def r5 (R:List Rec):List Rec:=R.map fun r=>{ r with dF:=r.dF.bare }
structure RS where
 i:Nat
 j:Nat
 ni:Nat
 nj:Nat
 ja:Nat
def fC (σ:ah)(cf:cF)(t:RS):Bool→Bool→Option aY
 | false,false=>σ.obj br
 | true,false=>some (.store cf (.sym t.ni))
 | false,true=>some (.store cf (.sym t.ja))
 | true,true=>some (.store cf (.sym t.nj))
def r4 (ops:Array Oper)(oj oi:Oper)(rj ri:Rec):Bool:=
 !oj.apart ops oi||rj.dF.bare.targets.any ri.cG||ri.dF.bare.targets.any rj.cG
def S4 (ops:Array Oper)(R:List Rec)(σ:ah)(m i:Nat):Bool:=
 match ops[i]?,R[i]? with
 | some oi,some ri=>oi.after.all (fun e=>!Region.binds .any e||decide (e.on<i))&&pF σ oi &&
   (!ga oi||match ri.dF.cm with | some u=>decide (u.1=br)||((σ.obj u.1).isNone&&σ.jF u.1) | none=>true) &&
   (List.range i).all fun j=>match ops[j]?,R[j]? with
    | some oj,some rj=>(!r4 ops oj oi rj ri||m.testBit j)&&(!ga oi||match ri.dF.cm with | some u=>decide (u.1=br)||!rj.cG u.1 | none=>true)
    | _,_=>true
 | _,_=>false
def GB (R:List Rec)(cf:cF)(t:RS):Bool:=
 decide (t.i<t.j)&&(List.range R.length).all fun k=>match R[k]? with
  | some r=>decide (r.dF.del≠some br)&&(if k=t.i then decide (mY cf r.dF=some t.ni) else if k=t.j then decide (mY cf r.dF=some t.nj) else match r.dF.cm with
   | some u=>decide (u.1≠br)
   | none=>true)
  | none=>true
def p9 (ops:Array Oper)(R:List Rec)(σ:ah)(cf:cF)(t:RS):Bool:=
 decide (ops.size=R.length)&&decide (uq (σ.obj br)=some cf)&&GB R cf t&&(List.range ops.size).all fun i=>S4 ops R σ ((jV ops.toList []).getD i 0) i
def aao (ms:List Nat)(k w:Nat):Bool:=!(decide (w<k)&&(ms.getD k 0).testBit w)&&!(decide (k<w)&&(ms.getD w 0).testBit k)
def HF (ms:List Nat)(k w:Nat):List Bool:=if aao ms k w then[false,true] else[decide (w<k)]
def qW (P:Program)(ops:Array Oper)(R:List Rec)(σ:ah)(cf:cF)(t:RS)(k:Nat)(o:Oper)(a b:Bool)(ix:Nat):Option jg:=
 lN P ops o ((lex ops R σ k).setObj br (fC σ cf t a b)) ix
def We (P:Program)(ops:Array Oper)(R:List Rec)(σ:ah)(cf:cF)(t:RS)(k:Nat)(o:Oper)(r:Rec)(a b:Bool):Option (List E):=
 if a=decide (t.i<k)∧b=decide (t.j<k) then some [] else match qW P ops R σ cf t k o a b r.ix with
 | some e=>if e.val.same r.dF.val&&e.cm.isNone&&r.dF.cm.isNone&&e.del.isNone&&r.dF.del.isNone then(match e.bind,r.dF.bind with
   | some (.ev b),some (.ev a)=>some [.m4 .same a b .nil .nil]
   | none,none=>some []
   | _,_=>none) else none
 | none=>none
def VW:List (Option (List E))→Option (List E)
 | []=>some []
 | x :: r=>x.bind fun xs=>(VW r).map (xs++·)
def NG (P:Program)(ops:Array Oper)(R:List Rec)(σ:ah)(cf:cF)(t:RS)(ms:List Nat)(k:Nat):Option (List E):=
 match ops[k]?,R[k]? with
 | some o,some r=>
  if k=t.i then(match qW P ops R σ cf t k o false true t.nj with
   | some e=>if e.val.same r.dF.val&&decide (mY cf e=some t.nj)&&e.del.isNone&&r.dF.del.isNone then(match e.bind with
    | some (.ev b)=>some [.m4 .same b (.sym t.nj) .nil .nil]
    | _=>none) else none
   | none=>none)
  else if k=t.j then(match qW P ops R σ cf t k o false false t.ja with
   | some e=>if e.val.same r.dF.val&&decide (mY cf e=some t.ja)&&e.del.isNone&&r.dF.del.isNone then(match e.bind with
    | some (.ev b)=>some [.m4 .same (.sym t.ja) b .nil .nil]
    | _=>none) else none
   | none=>none)
  else if r.cG br then VW ((HF ms k t.i).flatMap fun a=>(HF ms k t.j).map fun b=>We P ops R σ cf t k o r a b)
  else some []
 | _,_=>none
def ajN (P:Program)(ops:Array Oper)(R:List Rec)(σ:ah)(cf:cF)(t:RS):Option E:=
 match ops[t.j]? with
 | some o=>(match qW P ops R σ cf t t.j o false false t.ja with
  | some e=>(match e.bind with
   | some (.ev b)=>some b
   | _=>none)
  | none=>none)
 | none=>none
def afi (R:List Rec)(cf:cF)(ja:Nat):Option RS:=
 match(List.range R.length).filterMap fun k=>(R[k]?).bind fun r=>(mY cf r.dF).map fun n=>(k,n) with
 | [(i,ni),(j,nj)]=>some ⟨i,j,ni,nj,ja⟩
 | _=>none
def Bt (P:Program)(ops:Array Oper)(R:List Rec)(σ:ah)(ja:Nat):Option (List E):=
 match uq (σ.obj br) with
 | some cf=>(afi R cf ja).bind fun t=>if p9 ops R σ cf t=true then(ajN P ops R σ cf t).bind fun b=>
   (VW ((List.range ops.size).map (NG P ops R σ cf t (jV ops.toList [])))).map (b :: ·) else none
 | none=>none
section
variable {P:Program} {ops:Array Oper} {R:List Rec} {σ:ah} {D:Nat→Bool} {cf:cF} {t:RS} {env:List Am.D}
theorem qy (e:jg):e.bare.val=e.val:=by
 unfold jg.bare;split
 ·split <;> rfl
 ·rfl
theorem qz (e:jg):e.bare.del=e.del:=by
 unfold jg.bare;split
 ·split <;> rfl
 ·rfl
theorem j5 (e:jg):e.bare.cm=match e.cm with | some u=>if u.1=br then none else some u | none=>none:=by
 unfold jg.bare;split
 ·rename_i u hu;split
  ·rfl
  ·exact hu
 ·rename_i hu;exact hu
theorem x8 {e:jg}{ob:Nat}(h:ob∈e.bare.targets)(hd:e.del≠some br):ob∈e.targets∧ob≠br:=by
 unfold jg.targets at h ⊢;rw[j5,qz] at h;rcases A0K.1 h with h | h
 ·cases hu:e.cm with
  | none=>rw[hu] at h;simp at h
  | some u=>
   rw[hu] at h
   by_cases hh:u.1=br
   ·simp[hh] at h
   ·simp[hh] at h;subst h;exact⟨by simp,hh⟩
 ·cases hk:e.del with
  | none=>rw[hk] at h;simp at h
  | some k=>
   rw[hk] at h;simp at h;subst h;exact⟨by simp,fun e=>hd (by rw[hk,e])⟩
def rq (e:jg)(z:Option aY):Option aY:=match e.cm with | some u=>if u.1=br then some u.2 else z | none=>z
theorem D1 {τ:ah}{dst:Option Tmp}{e:jg}{z:Option aY}(hd:e.del≠some br):(τ.setObj br z).app dst e=(τ.app dst e.bare).setObj br (rq e z):=by
 have two:∀(τ:ah) (x y:Option aY),(τ.setObj br x).setObj br y=τ.setObj br y:=by intro τ x y;simp[ah.eU]
 unfold ah.app rq;rw[j5,qz,qy,B8];congr 1;cases hk:e.del with
 | none=>
  cases hu:e.cm with
  | none=>rfl
  | some u=>
   by_cases hh:u.1=br
   ·simp only[hh,B0d,ah.iT,ah.sets,two]
   ·simp only[hh,B0n,ah.iT,ah.sets];exact mo _ _ _ (B0O hh)
 | some k=>
  have RF:br≠k:=fun e=>hd (by rw[hk,e]);cases hu:e.cm with
  | none=>
   simp only[ah.iT,ah.sets];exact mo _ _ _ RF
  | some u=>
   simp only[ah.iT];rw[mo _ _ _ RF]
   by_cases hh:u.1=br
   ·simp only[hh,B0d,ah.sets,two]
   ·simp only[hh,B0n,ah.sets];exact mo _ _ _ (B0O hh)
theorem ox (k:Nat):fW (r5 R) k=(fW R k).bare:=by unfold fW r5;rw[A0w];cases R[k]? <;> rfl
theorem kI (σ:ah):σ.setObj br (σ.obj br)=σ:=by simp[ah.eU,ah.ey]
theorem qU (zi:∀k,(fW R k).del≠some br):∀n,∃z,cq ops R D σ n=(cq ops (r5 R) D σ n).setObj br z
 | 0=>⟨σ.obj br,(kI σ).symm⟩
 | n+1=>by
  obtain⟨z,hz⟩:=qU zi n;unfold cq;split
  ·rw[hz,D1 (zi n),ox];exact⟨_,rfl⟩
  ·exact⟨z,hz⟩
structure ye (R:List Rec)(cf:cF)(t:RS):Prop where
 lt:t.i<t.j
 del:∀k,(fW R k).del≠some br
 ajK:∀r,R[t.i]? = some r→r.dF.cm=some (br,.store cf (.sym t.ni))
 ajJ:∀r,R[t.j]? = some r→r.dF.cm=some (br,.store cf (.sym t.nj))
 other:∀k r,R[k]? = some r→k≠t.i→k≠t.j→∀u,r.dF.cm=some u→u.1≠br
theorem Zq (h:GB R cf t=true):ye R cf t:=by
 unfold GB at h;simp only[A0f,A0t,A0C,A0X] at h;obtain⟨hlt,h⟩:=h;have at_:∀{k:Nat} {r:Rec},R[k]? = some r→r.dF.del≠some br∧((k=t.i→mY cf r.dF=some t.ni)∧(k≠t.i→k=t.j→mY cf r.dF=some t.nj)∧(k≠t.i→k≠t.j→∀u,r.dF.cm=some u→u.1≠br)):=by
  intro k r hk;have:=h k (A0c.1 hk).1;rw[hk] at this;simp only[A0f,A0t] at this;refine⟨this.1,fun e=>?_,fun e1 e2=>?_,fun e1 e2 u hu=>?_⟩
  ·rw[A0z e] at this;simpa using this.2
  ·rw[A0B e1,A0z e2] at this;simpa using this.2
  ·rw[A0B e1,A0B e2,hu] at this;simpa using this.2
 refine⟨hlt,fun k=>?_,fun r hr=>mX ((at_ hr).2.1 rfl),fun r hr=>mX ((at_ hr).2.2.1 (by omega) rfl),fun k r hr e1 e2=>(at_ hr).2.2.2 e1 e2⟩;unfold fW;cases hr:R[k]? with
 | none=>simp
 | some r=>exact(at_ hr).1
theorem ye.aiQ (ht:ye R cf t)(hl:t.i<R.length):(fW R t.i).cm=some (br,.store cf (.sym t.ni)):=by have hr:R[t.i]? = some R[t.i]:=A0e hl;unfold fW;rw[hr];exact ht.ajK _ hr
theorem ye.aiP (ht:ye R cf t)(hl:t.j<R.length):(fW R t.j).cm=some (br,.store cf (.sym t.nj)):=by have hr:R[t.j]? = some R[t.j]:=A0e hl;unfold fW;rw[hr];exact ht.ajJ _ hr
theorem ye.adj (ht:ye R cf t){k:Nat}(h1:k≠t.i)(h2:k≠t.j){u:Nat×aY}(hu:(fW R k).cm=some u):u.1≠br:=by
 unfold fW at hu;cases hr:R[k]? with
 | none=>rw[hr] at hu;cases hu
 | some r=>rw[hr] at hu;exact ht.other k r hr h1 h2 u hu
theorem Ty (n:Nat):lex ops R σ (n+1)=(lex ops R σ n).app (lI ops n) (fW R n):=rfl
theorem GZ (ht:ye R cf t)(hlen:t.j<R.length):∀n,(lex ops R σ n).obj br=fC σ cf t (decide (t.i<n)) (decide (t.j<n))
 | 0=>by simp[fC,cq]
 | n+1=>by
  have ih:=GZ ht hlen n;have hlt:=ht.lt;rw[Ty];generalize lex ops R σ n=τ at ih;have hd:=ht.del n;have key:∀e:jg,e.del≠some br→(τ.app (lI ops n) e).obj br=rq e (τ.obj br):=by intro e hd;have:=D1 (τ:=τ) (dst:=lI ops n) (z:=τ.obj br) hd;rw[kI] at this;rw[this,fu,A0z (.inl rfl)]
  rw[key _ hd,ih]
  by_cases h1:n=t.i
  ·subst h1;rw[rq,ht.aiQ (by omega)];have e1:decide (t.i<t.i+1)=true:=by simp
   have e2:decide (t.j<t.i+1)=false:=by simp;omega
   rw[e1,e2];rfl
  ·by_cases h2:n=t.j
   ·subst h2;rw[rq,ht.aiP hlen];have e1:decide (t.i<t.j+1)=true:=by simp;omega
    have e2:decide (t.j<t.j+1)=true:=by simp
    rw[e1,e2];rfl
   ·have e1:decide (t.i<n+1)=decide (t.i<n):=decide_eq_decide.2 (by omega);have e2:decide (t.j<n+1)=decide (t.j<n):=decide_eq_decide.2 (by omega);rw[e1,e2];unfold rq;split
    ·rename_i u hu;rw[A0B (ht.adj h1 h2 hu)]
    ·rfl
def st2 (ops:Array Oper)(R:List Rec)(σ:ah)(cf:cF)(t:RS)(D:Nat→Bool):ah:=
 (cq ops (r5 R) D σ ops.size).setObj br (fC σ cf t (D t.i) (D t.j))
theorem DQ:∀{l:List (Option (List E))} {xs:List E},VW l=some xs→∀x,x∈l→∃ys,x=some ys∧∀y,y∈ys→y∈xs
 | [],_,_,x,hx=>by cases hx
 | a :: l,xs,h,x,hx=>by
  simp only[VW,A0b,A0a] at h;obtain⟨ys,h1,zs,h2,rfl⟩:=h;rcases A0E.1 hx with rfl | hx
  ·exact⟨ys,h1,fun y hy=>A0K.2 (.inl hy)⟩
  ·obtain⟨ys',g1,g2⟩:=DQ h2 x hx;exact⟨ys',g1,fun y hy=>A0K.2 (.inr (g2 y hy))⟩
structure Wn (P:Program)(ops:Array Oper)(R:List Rec)(σ:ah)(env:List Am.D)(cf:cF)(t:RS)(i:Nat)(o:Oper)(r:Rec):Prop where
 at_:R[i]? = some r
 dF:lN P ops o (lex ops R σ i) r.ix=some r.dF
 seen:r.seen=sF ops o (lex ops R σ i)
 bind:bD P env r.ix r.dF.bind
 ix:r.ix≤env.length
 alt:∃ys,NG P ops R σ cf t (jV ops.toList []) i=some ys∧∀y,y∈ys→∃d,y.eval env=some d
theorem PK {a b:E}{n:Nat}(hd:∃d,(E.m4 .same a b .nil .nil).eval env=some d)(hb:b.eval env=env[n]?):bD P env n (some (.ev a)):=by
 obtain⟨d,hd⟩:=hd;simp only[E.eval,A0b] at hd;obtain⟨x,h1,y,h2,_,_,_,_,h3⟩:=hd;simp only[Am.D.m4] at h3;split at h3
 ·rename_i hs;have:=Am.D.cL hs;subst this;exact⟨x,h1,by rw[←hb,h2]⟩
 ·cases h3
theorem BV {a b:E}{n:Nat}(hd:∃d,(E.m4 .same b a .nil .nil).eval env=some d)(hb:b.eval env=env[n]?):bD P env n (some (.ev a)):=by
 obtain⟨d,hd⟩:=hd;simp only[E.eval,A0b] at hd;obtain⟨x,h1,y,h2,_,_,_,_,h3⟩:=hd;simp only[Am.D.m4] at h3;split at h3
 ·rename_i hs;have:=Am.D.cL hs;subst this;exact⟨x,h2,by rw[←hb,h1]⟩
 ·cases h3
theorem Sl {n:Nat}{a:E}(hb:bD P env n (some (.ev a))):n≤env.length:=by obtain⟨d,_,h⟩:=hb;exact C0K (A0c.1 h).1
theorem DD (hD:jd ops D){k w:Nat}{o:Oper}(ho:ops[k]? = some o)(hk:D k=false)(ha:∀e,e∈o.after→Region.binds .any e=true→D e.on=true)(hw:w<ops.size)(bQ:k≠w):D w∈HF (jV ops.toList []) k w:=by
 unfold HF;split
 ·cases D w <;> simp
 ·rename_i hf;simp only[aao,A0f,B0j,D0G,B0A] at hf;rw[A0Y];exact qY hD ho hk ha (A0p hw) (fun h=>B0H fun hb=>hf ⟨.inr (by simpa using hb),.inl (by omega)⟩) fun h=>B0H fun hb=>hf ⟨.inl (by omega),.inr (by simpa using hb)⟩
theorem afn (eE:p9 ops R σ cf t=true) (hF:∀(i:Nat) (o:Oper),ops[i]? = some o→∃r,Wn P ops R σ env cf t i o r) (hj:t.j<ops.size) (hD:jd ops D) {i:Nat} {o:Oper} (ho:ops[i]? = some o) (hi:D i=false)
  (ha:∀e,e∈o.after→Region.binds .any e=true→D e.on=true):∃r:Rec,bD P env r.ix r.dF.bind∧r.ix≤env.length∧mr P ops o (st2 ops R σ cf t D) r.ix=some (st2 ops R σ cf t (fun j=>D j||j==i),r.dF.bind):=by
 unfold p9 at eE;simp only[A0f,A0t,A0C,A0X] at eE;obtain⟨⟨⟨pg,yw⟩,abP⟩,ji⟩:=eE;have ht:=Zq abP;obtain⟨r,f⟩:=hF i o ho;have nh:=(A0l.1 ho).1;have kC:∀(j:Nat),j<ops.size→∃oj rj,ops[j]? = some oj∧R[j]? = some rj:=fun j hj=>by obtain⟨rj,fj⟩:=hF j ops[j] (A0p hj);exact⟨_,rj,A0p hj,fj.at_⟩
 have ahK:∀{k:Nat} {ok:Oper} {rk:Rec},ops[k]? = some ok→R[k]? = some rk→pF σ ok=true∧(ga ok=true→∀u,rk.dF.cm=some u→u.1=br∨nr σ u.1) ∧
   ∀(j:Nat) (oj:Oper) (rj:Rec),j<k→ops[j]? = some oj→R[j]? = some rj→(r4 ops oj ok rj rk=true→((jV ops.toList []).getD k 0).testBit j=true)∧(ga ok=true→∀u,rk.dF.cm=some u→u.1=br∨rj.cG u.1=false):=by
  intro k ok rk hk xD;have h:=ji k (A0l.1 hk).1;unfold S4 at h;rw[hk,xD] at h;simp only[A0f,A0C,A0X] at h;obtain⟨⟨⟨_,h2⟩,h3⟩,h4⟩:=h;refine⟨h2,fun hn u hu=>?_,fun j oj rj hj p5 qm=>?_⟩
  ·rw[hn,hu] at h3;simpa[nr] using h3
  ·have:=h4 j hj;rw[p5,qm] at this;simp only[A0f,B0v,B0j] at this;refine⟨fun hc=>by rw[hc] at this;simpa using this.1,fun hn u hu=>?_⟩;have:=this.2;rw[hn,hu] at this;simpa using this
 obtain⟨gB,hfr,OP⟩:=ahK ho f.at_;have lH:∀{j:Nat} {oj:Oper} {rj:Rec},ops[j]? = some oj→R[j]? = some rj→r4 ops oj o rj r=true→r4 ops o oj r rj=true→D j=decide (j<i):=fun {j oj rj} p5 qm h1 h2=>
  qY hD ho hi ha p5 (fun h=>(OP j oj rj h p5 qm).1 h1) fun h=>((ahK p5 qm).2.2 i o r h ho f.at_).1 h2
 have ap:∀{j:Nat} {oj:Oper} {rj:Rec},oj.apart ops o=false→o.apart ops oj=false→ops[j]? = some oj→R[j]? = some rj→D j=decide (j<i):=fun h1 h2 p5 qm=>
  lH p5 qm (by simp[r4,h1]) (by simp[r4,h2])
 have YS:∀{k:Nat} {rk:Rec},R[k]? = some rk→fW R k=rk.dF:=fun hk=>by simp[fW,hk]
 obtain⟨zD,hzD⟩:=qU (ops:=ops) (σ:=σ) (D:=D) ht.del ops.size;obtain⟨zL,hzL⟩:=qU (ops:=ops) (σ:=σ) (D:=fun _=>true) ht.del i;have EC:∀s,s∈o.looksAt ops→(st2 ops R σ cf t D).tmp s=(lex ops R σ i).tmp s:=by
  intro s hs;have h1:(cq ops R D σ ops.size).tmp s=(lex ops R σ i).tmp s:=by refine wI (C0K nh) fun j hj hjt=>?_;obtain⟨oj,p5,OY⟩:=l6 hjt;obtain⟨rj,fj⟩:=hF j oj p5;exact ap (D3 OY hs) (AG OY hs) p5 fj.at_
  rw[←h1,hzD];unfold st2;rw[ah.fz,ah.fz]
 have Z6:∀ob,ob≠br→r.cG ob=true→(st2 ops R σ cf t D).obj ob=(lex ops R σ i).obj ob:=by
  intro ob bQ lX;have h1:(cq ops (r5 R) D σ ops.size).obj ob=(cq ops (r5 R) (fun _=>true) σ i).obj ob:=by
   refine qT (C0K nh) fun j hj MS=>?_;obtain⟨oj,rj,p5,qm⟩:=kC j hj;rw[ox,YS qm] at MS;refine lH p5 qm ?_ ?_
   ·have:rj.dF.bare.targets.any r.cG=true:=B0h.2 ⟨ob,MS,lX⟩;simp[r4,this]
   ·have:rj.dF.bare.targets.any r.cG=true:=B0h.2 ⟨ob,MS,lX⟩;simp[r4,this]
  have h2:(lex ops R σ i).obj ob=(cq ops (r5 R) (fun _=>true) σ i).obj ob:=by show(cq ops R (fun _=>true) σ i).obj ob=_;rw[hzL,dM (B0O bQ)]
  unfold st2;rw[dM (B0O bQ),h1,h2]
 have rF:∀s ob,s∈o.looksAt ops→((lex ops R σ i).tmp s).aM ob=false→r.cG ob=true:=fun s ob hs mU=>mW (sv:=(lex ops R σ i).tmp s) (by rw[f.seen];exact A0K.2 (.inl (C0R hs))) mU;have Hl:fk o (fun x=>((lex ops R σ i).zZ x).L_) (gC (lex ops R σ i).obj)=true→r.cG br=true:=fun hu=>mW (sv:=.mE br) (by rw[f.seen];refine A0K.2 (.inr ?_);rw[hu];simp) (by simp[SV.aM]);have X6:(st2 ops R σ cf t D).obj br=fC σ cf t (D t.i) (D t.j):=by unfold st2;rw[fu,A0z (.inl rfl)]
 have acI:∀a b,uq (fC σ cf t a b)=some cf:=by intro a b;cases a <;> cases b <;> first | exact yw | rfl
 have OS:=GZ (ops:=ops) (σ:=σ) ht (by omega) i;have aoC:gC (lex ops R σ i).obj=some cf:=by rw[fT,OS,acI]
 have lE:∀ix,lN P ops o (st2 ops R σ cf t D) ix=qW P ops R σ cf t i o (D t.i) (D t.j) ix:=by
  intro ix;unfold qW;have hH:((lex ops R σ i).setObj br (fC σ cf t (D t.i) (D t.j))).obj br=fC σ cf t (D t.i) (D t.j):=by rw[fu,A0z (.inl rfl)]
  refine qV (fun s hs=>?_) (fun s ob hs mU=>?_) ?_ fun _=>by rw[X6,hH]
  ·rw[ah.fz];exact EC s hs
  ·rw[ah.fz] at mU
   by_cases bQ:ob=br
   ·subst bQ;rw[X6,hH]
   ·rw[dM (B0O bQ)];exact Z6 ob bQ (rF s ob hs mU)
  ·rw[fT,fT,X6,hH]
 have X_:cq ops (r5 R) (fun j=>D j||j==i) σ ops.size=(cq ops (r5 R) D σ ops.size).app o.dst r.dF.bare:=by
  rw[yQ hi ops.size nh fun j hj AR Hw=>?_]
  ·rw[ox,YS f.at_];congr 1;simp[lI,ho]
  ·obtain⟨oj,rj,p5,qm⟩:=kC j hj;have uS:D j≠decide (j<i):=by rw[Hw];simp;omega
   refine⟨fun s h1 h2=>uS ?_,fun ob h1 h2=>uS ?_⟩
   ·obtain⟨o1,Lj,J2⟩:=l6 h1;obtain⟨o2,ho2,zj⟩:=l6 h2;rw[ho] at Lj;rw[p5] at ho2;cases Lj;cases ho2;exact ap (uy zj J2) (uy J2 zj) p5 qm
   ·rw[ox,YS f.at_] at h1;rw[ox,YS qm] at h2;have hd:=ht.del i;rw[YS f.at_] at hd;obtain⟨g1,g2⟩:=x8 h1 hd;refine lH p5 qm ?_ ?_
    ·have:r.dF.bare.targets.any rj.cG=true:=B0h.2 ⟨ob,h1,by
      have OY:=ht.del j;rw[YS qm] at OY;exact oR (x8 h2 OY).1⟩
     simp[r4,this]
    ·have:r.dF.bare.targets.any rj.cG=true:=B0h.2 ⟨ob,h1,by
      have OY:=ht.del j;rw[YS qm] at OY;exact oR (x8 h2 OY).1⟩
     simp[r4,this]
 have bO:r.dF.del≠some br:=by have:=ht.del i;rwa [YS f.at_] at this
 have fin:∀(e:jg) (ix:Nat),lN P ops o (st2 ops R σ cf t D) ix=some e→bD P env ix e.bind→ix≤env.length→e.val=r.dF.val→e.bare.cm=r.dF.bare.cm→e.del=r.dF.del→(∀u,e.cm=some u→u.1=br→some u.2=fC σ cf t (D t.i||t.i==i) (D t.j||t.j==i))→((∀u,e.cm=some u→u.1≠br)→i≠t.i∧i≠t.j) →
   (ga o=true→∀u,e.cm=some u→u.1=br∨r.dF.cm=some u)→∃r:Rec,bD P env r.ix r.dF.bind∧r.ix≤env.length∧mr P ops o (st2 ops R σ cf t D) r.ix=some (st2 ops R σ cf t (fun j=>D j||j==i),r.dF.bind):=by
  intro e ix th Dk cA h1 h2 h3 h4 h5 h6;refine⟨⟨e,[],ix⟩,Dk,cA,?_⟩;have atk:e.bare={ e.bare with val:=r.dF.bare.val,cm:=r.dF.bare.cm,del:=r.dF.bare.del }:=by rw[←h2,qy,qz,←h1,←h3,←qy e,←qz e]
  have kP:st2 ops R σ cf t (fun j=>D j||j==i)=(st2 ops R σ cf t D).app o.dst e:=by
   unfold st2;rw[D1 (by rw[h3];exact bO),X_];have vK:∀τ:ah,τ.app o.dst e.bare=τ.app o.dst r.dF.bare:=fun τ=>by unfold ah.app;rw[h2,qz,qz,qy,qy,h1,h3]
   rw[vK];congr 1;unfold rq;cases hu:e.cm with
   | none=>
    obtain⟨g1,g2⟩:=h5 fun u kK=>by rw[hu] at kK;cases kK
    have e1:(t.i==i)=false:=by simpa using B0O g1
    have e2:(t.j==i)=false:=by simpa using B0O g2
    simp only[e1,e2,C0J]
   | some u=>
    by_cases hh:u.1=br
    ·simp only[hh,B0d];exact(h4 u hu hh).symm
    ·simp only[hh,B0n];obtain⟨g1,g2⟩:=h5 fun u' kK=>by rw[hu] at kK;cases kK;exact hh
     have e1:(t.i==i)=false:=by simpa using B0O g1
     have e2:(t.j==i)=false:=by simpa using B0O g2
     simp only[e1,e2,C0J]
  rw[kP];refine uG th ?_ fun hn u hu=>?_
  ·unfold pF at gB ⊢;unfold st2;rw[ah.aP,(jv ..).1];exact gB
  ·rcases h6 hn u hu with hH1 | hu
   ·exact .inl hH1
   rcases hfr hn u hu with hH1 | hfr
   ·exact .inl hH1
   by_cases bQ:u.1=br
   ·exact .inl bQ
   right;have Yq:∀{k:Nat} {rk:Rec},R[k]? = some rk→rk.cG u.1=false→({ rk with dF:=rk.dF.bare }:Rec).cG u.1=false:=by
    intro k rk hk xD;obtain⟨g1,g2,g3⟩:=uE xD;have RJ:=ht.del k;rw[YS hk] at RJ;have ahu:rk.seen.any (fun sv=>!sv.aM u.1)=false:=by simp only[Rec.cG,C0c] at xD;exact xD.1.1.1
    have ht1:rk.dF.bare.targets.contains u.1=false:=by rw[←A0P];intro hc;exact g2 (x8 (by simpa using hc) RJ).1
    have ON:∀u',rk.dF.bare.cm=some u'→u'.2.aM u.1=true:=by
     intro u' kK;rw[j5] at kK;split at kK
     ·rename_i u0 hu0;split at kK
      ·cases kK
      ·cases kK;exact g3 _ hu0
     ·cases kK
    unfold Rec.cG;simp only[ahu,qy,g1,ht1,D0N,C0J,D0r];split
    ·rename_i u' kK;rw[ON u' kK];rfl
    ·rfl
   have aop:=sI (R:=r5 R) (ops:=ops) (D:=D) hfr ops.size fun j hj Hw=>by
    obtain⟨oj,rj,p5,qm⟩:=kC j hj;refine⟨{ rj with dF:=rj.dF.bare },by unfold r5;rw[A0w,qm];rfl,?_⟩;refine Yq qm ?_;rcases D0j j i with h | h | h
    ·exact((OP j oj rj h p5 qm).2 hn u hu).resolve_left bQ
    ·subst h;rw[hi] at Hw;cases Hw
    ·rw[←A0P];intro OO;have hub:u.1∈r.dF.bare.targets:=by unfold jg.targets;rw[j5,hu];simp[bQ]
     have:=lH p5 qm (by
      have:r.dF.bare.targets.any rj.cG=true:=B0h.2 ⟨_,hub,OO⟩;simp[r4,this]) (by
      have:r.dF.bare.targets.any rj.cG=true:=B0h.2 ⟨_,hub,OO⟩;simp[r4,this])
     rw[Hw] at this;simp at this;omega
   obtain⟨q1,q2⟩:=aop;refine⟨by unfold st2;rw[dM (B0O bQ)];exact q1,?_⟩;unfold st2;simp only[ah.jF,ah.eU,B0d,A0f] at q2 ⊢;refine⟨q2.1,?_⟩;have:=acI (D t.i) (D t.j);cases hh:fC σ cf t (D t.i) (D t.j) with
   | none=>rfl
   | some z=>
    rw[hh] at this;cases z <;> simp[uq] at this;rfl
 obtain⟨ys,rW,bX⟩:=f.alt
 by_cases JU:i=t.i
 ·have Uk:=ht.ajK r (JU ▸ f.at_);have WJ:r.dF.bare.cm=none:=by rw[j5,Uk];simp
  cases Hw:D t.j with
  | false=>
   have th:lN P ops o (st2 ops R σ cf t D) r.ix=some r.dF:=by
    rw[lE,←f.dF];unfold qW;have e1:fC σ cf t (D t.i) (D t.j)=(lex ops R σ i).obj br:=by
     rw[OS,Hw,←JU,hi];have h1:decide (i<i)=false:=by simp
     have h2:decide (t.j<i)=false:=by simp;have:=ht.lt;omega
     rw[h1,h2]
    rw[e1,kI]
   refine fin r.dF r.ix th f.bind f.ix rfl rfl rfl (fun u hu hh=>?_) (fun h=>absurd rfl (h _ Uk)) fun _ u hu=>.inr hu;rw[Uk] at hu;cases hu;have e1:(t.i==i)=true:=by simp[JU]
   have e2:(t.j==i)=false:=by simp;have:=ht.lt;omega
   rw[Hw,e1,e2,E0b,C0J];rfl
  | true=>
   unfold NG at rW;rw[JU] at ho;have U1:=f.at_;rw[JU] at U1;simp only[JU,ho,U1,B0d] at rW;split at rW
   ·rename_i e he;split at rW
    ·rename_i hc;simp only[A0f,A0t,B0i] at hc;obtain⟨⟨⟨c1,c2⟩,c3⟩,c4⟩:=hc;split at rW
     ·rename_i b hb;cases rW;have ON:=mX c2;have UZ:=PK (P:=P) (n:=t.nj) (bX _ (C0P _)) rfl;refine fin e t.nj ?_ (by rw[hb];exact UZ) (Sl UZ) (SV.cL c1) (by rw[j5,ON,WJ];simp) (c3.trans c4.symm) (fun u hu hh=>?_) (fun h=>absurd rfl (h _ ON)) fun _ u hu=>by rw[ON] at hu;cases hu;exact .inl rfl
      ·rw[lE,←JU,hi,Hw,JU];exact he
      ·rw[ON] at hu;cases hu;have e1:(t.i==i)=true:=by simp[JU]
       rw[Hw,e1,E0b,Bool.true_or];rfl
     ·cases rW
    ·cases rW
   ·cases rW
 by_cases QC:i=t.j
 ·have Uk:=ht.ajJ r (QC ▸ f.at_);have WJ:r.dF.bare.cm=none:=by rw[j5,Uk];simp
  cases hDi:D t.i with
  | true=>
   have th:lN P ops o (st2 ops R σ cf t D) r.ix=some r.dF:=by
    rw[lE,←f.dF];unfold qW;have e1:fC σ cf t (D t.i) (D t.j)=(lex ops R σ i).obj br:=by
     rw[OS,hDi,←QC,hi];have h1:decide (t.i<i)=true:=by simp;have:=ht.lt;omega
     have h2:decide (i<i)=false:=by simp
     rw[h1,h2]
    rw[e1,kI]
   refine fin r.dF r.ix th f.bind f.ix rfl rfl rfl (fun u hu hh=>?_) (fun h=>absurd rfl (h _ Uk)) fun _ u hu=>.inr hu;rw[Uk] at hu;cases hu;have e1:(t.j==i)=true:=by simp[QC]
   rw[hDi,e1,E0b,Bool.true_or];rfl
  | false=>
   unfold NG at rW;have bQ:¬t.j=t.i:=by have:=ht.lt;omega
   rw[QC] at ho;have U1:=f.at_;rw[QC] at U1;simp only[QC,ho,U1,bQ,B0n,B0d] at rW;split at rW
   ·rename_i e he;split at rW
    ·rename_i hc;simp only[A0f,A0t,B0i] at hc;obtain⟨⟨⟨c1,c2⟩,c3⟩,c4⟩:=hc;split at rW
     ·rename_i b hb;cases rW;have ON:=mX c2;have UZ:=BV (P:=P) (n:=t.ja) (bX _ (C0P _)) rfl;refine fin e t.ja ?_ (by rw[hb];exact UZ) (Sl UZ) (SV.cL c1) (by rw[j5,ON,WJ];simp) (c3.trans c4.symm) (fun u hu hh=>?_) (fun h=>absurd rfl (h _ ON)) fun _ u hu=>by rw[ON] at hu;cases hu;exact .inl rfl
      ·rw[lE,hDi,←QC,hi,QC];exact he
      ·rw[ON] at hu;cases hu;have e1:(t.j==i)=true:=by simp[QC]
       have e2:(t.i==i)=false:=by simp;have:=ht.lt;omega
       rw[hDi,e1,e2,E0b,C0J];rfl
     ·cases rW
    ·cases rW
   ·cases rW
 have k8:=ht.other i r f.at_ JU QC;have hiT:t.i<ops.size:=by have:=ht.lt;omega
 have done:∀e,lN P ops o (st2 ops R σ cf t D) r.ix=some e→bD P env r.ix e.bind→e.val=r.dF.val→e.cm=r.dF.cm→e.del=r.dF.del→∃r:Rec,bD P env r.ix r.dF.bind∧r.ix≤env.length∧mr P ops o (st2 ops R σ cf t D) r.ix=some (st2 ops R σ cf t (fun j=>D j||j==i),r.dF.bind):=by intro e th Dk h1 h2 h3;exact fin e r.ix th Dk f.ix h1 (by rw[j5,j5,h2]) h3 (fun u hu hh=>absurd hh (k8 u (h2 ▸ hu))) (fun _=>⟨JU,QC⟩) fun _ u hu=>.inr (h2 ▸ hu)
 by_cases lX:r.cG br=true
 ·unfold NG at rW;simp only[ho,f.at_,JU,QC,B0n,lX,B0d] at rW;obtain⟨zs,Hh,ML⟩:=DQ rW (We P ops R σ cf t i o r (D t.i) (D t.j)) (D0K.2 ⟨D t.i,DD hD ho hi ha hiT JU,A0F.2 ⟨D t.j,DD hD ho hi ha hj QC,rfl⟩⟩);unfold We at Hh;split at Hh
  ·rename_i hc;have th:lN P ops o (st2 ops R σ cf t D) r.ix=some r.dF:=by
    rw[lE,←f.dF];unfold qW;have e1:fC σ cf t (D t.i) (D t.j)=(lex ops R σ i).obj br:=by rw[OS,hc.1,hc.2]
    rw[e1,kI]
   exact done r.dF th f.bind rfl rfl rfl
  ·split at Hh
   ·rename_i e he;split at Hh
    ·rename_i hc;simp only[A0f,B0i] at hc;obtain⟨⟨⟨⟨c1,c2⟩,c3⟩,c4⟩,c5⟩:=hc;refine done e (by rw[lE];exact he) ?_ (SV.cL c1) (c2.trans c3.symm) (c4.trans c5.symm);split at Hh
     ·rename_i b a' gr hba;cases Hh;have h0:=f.bind;rw[hba] at h0;obtain⟨da,k1,k2⟩:=h0;rw[gr];exact BV (bX _ (ML _ (C0P _))) (by rw[k1,k2])
     ·rename_i gr hba;rw[gr];trivial
     ·cases Hh
    ·cases Hh
   ·cases Hh
 ·have th:lN P ops o (st2 ops R σ cf t D) r.ix=some r.dF:=by
   rw[←f.dF];refine qV EC (fun s ob hs mU=>?_) ?_ fun hu=>absurd (Hl hu) lX
   ·by_cases bQ:ob=br
    ·subst bQ;exact absurd (rF s _ hs mU) lX
    ·exact Z6 ob bQ (rF s ob hs mU)
   ·rw[fT,X6,acI,aoC]
  exact done r.dF th f.bind rfl rfl rfl
theorem W7 (ht:ye R cf t)(hlen:ops.size=R.length)(hj:t.j<ops.size):st2 ops R σ cf t (fun _=>true)=lex ops R σ ops.size:=by
 obtain⟨z,hz⟩:=qU (ops:=ops) (σ:=σ) (D:=fun _=>true) ht.del ops.size;have h1:=GZ (ops:=ops) (σ:=σ) ht (by omega) ops.size;have e1:decide (t.i<ops.size)=true:=by simp;have:=ht.lt;omega
 have e2:decide (t.j<ops.size)=true:=by simp;omega
 rw[e1,e2] at h1;unfold st2;show _=cq ops R (fun _=>true) σ ops.size;rw[←h1];show _=cq ops R (fun _=>true) σ ops.size;have h2:(lex ops R σ ops.size).obj br=z:=by show(cq ops R (fun _=>true) σ ops.size).obj br=z;rw[hz,fu,A0z (.inl rfl)]
 rw[h2,hz]
theorem HB {ja:Nat}{xs:List E}(h:Bt P ops R σ ja=some xs):∃cf t,p9 ops R σ cf t=true∧t.j<ops.size∧∀i,i<ops.size→∃ys,NG P ops R σ cf t (jV ops.toList []) i=some ys∧∀y,y∈ys→y∈xs:=by
 unfold Bt at h;split at h
 ·rename_i cf yw;obtain⟨t,ht,h⟩:=A0b.1 h;split at h
  ·rename_i eE;obtain⟨b,hb,h⟩:=A0b.1 h;obtain⟨zs,Hh,rfl⟩:=A0a.1 h;refine⟨cf,t,eE,?_,fun i hi=>?_⟩
   ·unfold ajN at hb;split at hb
    ·rename_i o ho;exact(A0l.1 ho).1
    ·cases hb
   ·obtain⟨ys,h1,h2⟩:=DQ Hh (NG P ops R σ cf t (jV ops.toList []) i) (A0F.2 ⟨i,A0X.2 hi,rfl⟩);exact⟨ys,h1,fun y hy=>B0f _ (h2 y hy)⟩
  ·cases h
 ·cases h
theorem Ih {w0:World} {X:jN} {rd:Option Nat} {n:Nat} {Q:Exit→Act→World→Prop} (eE:p9 ops R σ cf t=true) (hF:∀(i:Nat) (o:Oper),ops[i]? = some o→∃r,Wn P ops R σ env cf t i o r) (hj:t.j<ops.size) (hm:σ.mem.length=σ.tmps.length)
  (bV:∀(j d:Nat),(ops[j]?).bind (fun(o:Oper)=>o.dst)=some d→d<σ.tmps.length) (hQ:∀a' w' ρ',aF w0 X w' a' (lex ops R σ ops.size) env ρ'→Q .normal a' w') :
  ∀(fuel:Nat) (listed:Array Bool) (a:Act) (w:World) (ρ:dD),listed.size=ops.size→jd ops (dI listed)→(List.range ops.size).countP (fun j=>!dI listed j)≤fuel →
   aF w0 X w a (st2 ops R σ cf t (dI listed)) env ρ→wpAnyIn (FW rd) n P .any ops Q fuel listed a w:=by
 have an0:=eE;unfold p9 at eE;simp only[A0f,A0t,A0C,A0X] at eE;obtain⟨⟨⟨pg,yw⟩,abP⟩,ji⟩:=eE;have ht:=Zq abP;refine EP (st:=st2 ops R σ cf t) (fun i o ho e he hb=>?_) (fun D i o hD ho hi ha=>afn an0 hF hj hD ho hi ha) (fun D=>?_) (fun D D' h=>?_) hm bV (fun a' w' ρ' hr=>hQ a' w' ρ' (by rw[←W7 ht pg hj];exact hr))
 ·obtain⟨r,f⟩:=hF i o ho;have h:=ji i (A0l.1 ho).1;unfold S4 at h;rw[ho,f.at_] at h;simp only[A0f] at h;have:=C0W.1 h.1.1.1 e he;simpa[hb] using this
 ·unfold st2;rw[ah.aP,ah.fE];exact jv ops (r5 R) D σ ops.size
 ·unfold st2;rw[kJ ops.size h,h t.i (by have:=ht.lt;omega),h t.j hj]
theorem Sx:st2 ops R σ cf t (fun _=>false)=σ:=by unfold st2;rw[mq (i:=0) ops.size (B0e _) fun _ _ _=>rfl];exact kI σ
end
end
end
section
noncomputable section
structure Left (w:World)(S:Sets)(az may:Nat→Prop)(w':World)(S':Sets)(bJ:Nat→Prop)(bs':List D):Prop where
 st:cI w' S' bJ bs'
 le:S≤S'
 os:w'.os=w.os
 tape:TL w' w
 output:w'.output=w.output
 size:w.heap.size≤w'.heap.size
 old:∀b,b<w.heap.size→¬may b→w'.heap[b]? = w.heap[b]?
 ft:∀b,bJ b→(az b∨w.heap.size≤b)∧b<w'.heap.size
 new:∀b o,S' b o→S b o∨may b∨w.heap.size≤b
 lt:∀b o,S' b o→b<w'.heap.size
def rS (P:Program)(f:FuncId)(st:D)(cs:List D)(m:Option D)(eT:D):Prop:=
 ∀(w:World) (S:Sets) (az:Nat→Prop) (bs:List D) (vs:Array Value) (u:FrameMode),st=.st bs→cI w S az bs→pZ w S az→(∀b,az b→b<w.heap.size)→(∀b o,S b o→b<w.heap.size)→vs.size=cs.length→(∀(i:Nat) (v:Value) (x:D),vs[i]? = some v→cs[i]? = some x→bA w S v x) →
  (match m with | none=>u=.returning | some d=>∃v,bA w S v d∧u=.panicking [{ v,recovered:=false }]) →
  CallsD P f vs u w fun e u' w'=>∃(v:Value) (S':Sets) (bJ:Nat→Prop) (bs':List D),e=.returned v∧settle u'=.returning∧eT=.st bs'∧Left w S az az w' S' bJ bs'
inductive T where
 | bind (b:Bind) (t:T)
 | ite (c:E) (a b:T)
 | loop (l:Nat) (inits:List E) (body:T)
 | join (l n:Nat) (body rest:T)
 | jump (l:Nat) (vals:List E)
 | ret (x:E)
 | ee (x h:E) (sl:List Nat) (ks:List E)
 | lR (x:E) (neg:Bool) (t:T)
 | pick (x:E) (t:T)
 | Ia (f:FuncId) (keep:List Nat) (cr:List E) (res:E) (t:T)
 | gX (f:FuncId) (h:E) (args:List E) (rs:List Bool) (sl:List Nat) (ks:List E) (t:T)
 | gH (f:FuncId) (h:E) (args:List E) (rs:List Bool) (sl:List Nat) (ks:List E) (t:T)
 | fS (x h:E) (args:List E) (rs:List Bool) (sl:List Nat) (ks:List E) (t:T)
 | nW (x h:E) (sl:List Nat) (cr:List E) (n l:Nat) (body rest:T)
 deriving Inhabited
inductive gu where
 | jump (l:Nat) (ds:List D)
 | ret (d:D)
 | ee (d st:D) (sl:List Nat) (kd:List D)
def D.isNil (x:D):Option (List Bool):=
 match x with
 | .bk []=>some [true,false]
 | .bk _ | .sl _ _ _=>some [false]
 | .bS=>some [true]
 | _=>none
def cU (l:Nat)(K:List D→Prop)(Q:gu→Prop):gu→Prop
 | .jump l' ds=>if l'=l then K ds else Q (.jump l' ds)
 | .ret d=>Q (.ret d)
 | .ee d st sl kd=>Q (.ee d st sl kd)
def rounds (l:Nat)(body:List D→(gu→Prop)→Prop)(Q:gu→Prop):Nat→List D→Prop
 | 0,_=>False
 | n+1,ds=>body ds (cU l (rounds l body Q n) Q)
def D.JE:D→Bool
 | .loc _ _=>true
 | _=>false
def HU (P:Program)(f:FuncId)(keep:List Nat)(eH:List D)(res:E)(Q:gu→Prop):gu→Prop
 | .ret (.a_ [.a_ kd,st])=>∃eT d',rS P f st eH none eT∧res.eval (kd++[eT])=some d'∧Q (.ret (.a_ [d',eT]))
 | .ee d st sl kd=>sl=keep∧∃eT d',rS P f st eH (some d) eT∧res.eval (kd++[eT])=some d'∧Q (.ret (.a_ [d',eT]))
 | _=>False
theorem F6 {P:Program}{f:FuncId}{keep:List Nat}{eH:List D}{res:E}{Q Q':gu→Prop}(hq:∀s,Q s→Q' s){s:gu}(h:HU P f keep eH res Q s):HU P f keep eH res Q' s:=by
 unfold HU at h ⊢;split at h
 ·obtain⟨eT,d',h1,h2,h3⟩:=h;exact⟨eT,d',h1,h2,hq _ h3⟩
 ·obtain⟨h0,eT,d',h1,h2,h3⟩:=h;exact⟨h0,eT,d',h1,h2,hq _ h3⟩
 ·exact h
def den (P:Program):T→List D→(gu→Prop)→Prop
 | .bind (.ev x) t,env,Q=>∃d,x.eval env=some d∧den P t (env++[d]) Q
 | .bind (.call act f h args rs) t,env,Q=>(∀p,p∈act→∃d,p.1.eval env=some d)∧∃d,(bq env act→∃st ds,h.eval env=some st∧aA env args=some ds∧aQ P f st ds d∧d.fits rs=true)∧den P t (env++[d]) Q
 | .bind (.bw act f h args rs) t,env,Q=>(∀p,p∈act→∃d,p.1.eval env=some d)∧∃st d h',h.eval env=some st∧(bq env act→∃ds,aA env args=some ds∧aZ P f st ds d h'∧d.fits rs=true)∧(¬bq env act→h'=st)∧den P t (env++[.a_ [d,h']]) Q
 | .bind (.ei act x h args rs) t,env,Q=>(∀p,p∈act→∃d,p.1.eval env=some d)∧∃d,(bq env act→∃f us cs st ds,x.eval env=some (.fn f us cs)∧bL P f=true∧h.eval env=some st∧aA env args=some ds∧aQ P f st (us++ds++cs) d∧d.fits rs=true)∧den P t (env++[d]) Q
 | .bind (.dG act x h args rs) t,env,Q=>(∀p,p∈act→∃d,p.1.eval env=some d)∧∃st d h',h.eval env=some st∧(bq env act→∃xd ds,x.eval env=some xd∧aA env args=some ds∧yg P xd st ds d h'∧d.fits rs=true)∧(¬bq env act→h'=st)∧den P t (env++[.a_ [d,h']]) Q
 | .ite c a b,env,Q=>∃v,c.eval env=some (.v (.bool v))∧(v=true→den P a env Q)∧(v=false→den P b env Q)
 | .loop l inits body,env,Q=>∃ds,aA env inits=some ds∧∃n,rounds l (fun ds Q=>ds.length=inits.length∧den P body (env++ds) Q) Q n ds
 | .join l n body rest,env,Q=>den P body env (cU l (fun ds=>ds.length=n∧den P rest (env++ds) Q) Q)
 | .jump l vals,env,Q=>∃ds,aA env vals=some ds∧Q (.jump l ds)
 | .ret x,env,Q=>∃d,x.eval env=some d∧Q (.ret d)
 | .ee x h sl ks,env,Q=>∃d st kd,x.eval env=some d∧h.eval env=some st∧aA env ks=some kd∧Q (.ee d st sl kd)
 | .lR x neg t,env,Q=>∃d bs,x.eval env=some d∧d.isNil=some bs∧∀b,b∈bs→den P t (env++[.v (.bool (b != neg))]) Q
 | .pick x t,env,Q=>∃ys,x.eval env=some (.bk ys)∧∀d st,.a_ [d,st]∈ys→den P t (env++[.a_ [d,st]]) Q
 | .Ia f keep cr res t,env,Q=>∃eH,aA env cr=some eH∧eH.all D.JE=true∧den P t env (HU P f keep eH res Q)
 | .gX f h args rs sl ks t,env,Q=>∃st ds o,h.eval env=some st∧aA env args=some ds∧eS P f st ds o∧match o with
  | .ret d=>d.fits rs=true∧den P t (env++[d]) Q
  | .ee d=>∃kd,aA env ks=some kd∧Q (.ee d st sl kd)
 | .gH f h args rs sl ks t,env,Q=>∃st ds o h',h.eval env=some st∧aA env args=some ds∧bu P f st ds o h'∧match o with
  | .ret d=>d.fits rs=true∧den P t (env++[.a_ [d,h']]) Q
  | .ee d=>∃kd,aA env ks=some kd∧Q (.ee d h' sl kd)
 | .fS x h args rs sl ks t,env,Q=>∃f us cs st ds o h',x.eval env=some (.fn f us cs)∧bL P f=true∧h.eval env=some st∧aA env args=some ds∧bu P f st (us++ds++cs) o h'∧match o with
  | .ret d=>d.fits rs=true∧den P t (env++[.a_ [d,h']]) Q
  | .ee d=>∃kd,aA env ks=some kd∧Q (.ee d h' sl kd)
 | .nW x h sl cr n l body rest,env,Q=>∃f us cs st eH d eT,x.eval env=some (.fn f us cs)∧bL P f=true∧h.eval env=some st∧aA env cr=some eH∧aN eH=true∧eT.bZ=true ∧
   (∀(m:Nat) (rec:Loop),(∀st1 ds st2,st1.bZ=true→aN ds=true→ds.length=n→den P body (env++[st1]++ds) (fun s=>s=.jump l [st2])→r7 P (.yl m rec sl eH) st1 ds st2)→aZ P f st (us++[.yl m rec sl eH]++cs) d eT)∧den P rest (env++[eT]) Q
theorem sJ {l:Nat}{body u5:List D→(gu→Prop)→Prop}{Q Q':gu→Prop}(hb:∀ds (R R':gu→Prop),(∀s,R s→R' s)→body ds R→u5 ds R')(hQ:∀s,Q s→Q' s):∀(n:Nat) (ds:List D),rounds l body Q n ds→rounds l u5 Q' n ds
 | 0,_,h=>h
 | n+1,ds,h=>hb ds _ _ (fun s hs=>by
   cases s with
   | jump l' kL=>
    simp only[cU] at hs ⊢;split
    ·rename_i e;rw[A0z e] at hs;exact sJ hb hQ n kL hs
    ·rename_i e;rw[A0B e] at hs;exact hQ _ hs
   | ret d=>exact hQ _ hs
   | ee d st sl kd=>exact hQ _ hs) h
theorem dJ {P:Program}:∀{t:T} {env:List D} {Q Q':gu→Prop},(∀s,Q s→Q' s)→den P t env Q→den P t env Q'
 | .bind (.ev x) t,env,Q,Q',hq,⟨d,h1,h2⟩=>⟨d,h1,dJ hq h2⟩
 | .bind (.call act f h args rs) t,env,Q,Q',hq,⟨h0,d,h1,h2⟩=>⟨h0,d,h1,dJ hq h2⟩
 | .bind (.bw act f h args rs) t,env,Q,Q',hq,⟨h0,st,d,h',h1,h2,h3,h5⟩=>⟨h0,st,d,h',h1,h2,h3,dJ hq h5⟩
 | .bind (.ei act x h args rs) t,env,Q,Q',hq,⟨h0,d,h1,h2⟩=>⟨h0,d,h1,dJ hq h2⟩
 | .bind (.dG act x h args rs) t,env,Q,Q',hq,⟨h0,st,d,h',h1,h2,h3,h5⟩=>⟨h0,st,d,h',h1,h2,h3,dJ hq h5⟩
 | .ite c a b,env,Q,Q',hq,⟨v,h1,h2,h3⟩=>⟨v,h1,fun e=>dJ hq (h2 e),fun e=>dJ hq (h3 e)⟩
 | .loop l inits body,env,Q,Q',hq,⟨ds,h1,n,h2⟩=>⟨ds,h1,n,sJ (fun ds R R' hR h=>⟨h.1,dJ hR h.2⟩) hq n ds h2⟩
 | .join l n body rest,env,Q,Q',hq,h=>dJ (t:=body) (fun s hs=>by
   cases s with
   | jump l' kL=>
    simp only[cU] at hs ⊢;split
    ·rename_i e;rw[A0z e] at hs;exact⟨hs.1,dJ hq hs.2⟩
    ·rename_i e;rw[A0B e] at hs;exact hq _ hs
   | ret d=>exact hq _ hs
   | ee d st sl kd=>exact hq _ hs) h
 | .jump l vals,env,Q,Q',hq,⟨ds,h1,h2⟩=>⟨ds,h1,hq _ h2⟩
 | .ret x,env,Q,Q',hq,⟨d,h1,h2⟩=>⟨d,h1,hq _ h2⟩
 | .ee x h sl ks,env,Q,Q',hq,⟨d,st,kd,h1,h2,h3,h4⟩=>⟨d,st,kd,h1,h2,h3,hq _ h4⟩
 | .lR x neg t,env,Q,Q',hq,⟨d,bs,h1,h2,h3⟩=>⟨d,bs,h1,h2,fun b hb=>dJ hq (h3 b hb)⟩
 | .pick x t,env,Q,Q',hq,⟨ys,h1,h2⟩=>⟨ys,h1,fun d st hy=>dJ hq (h2 d st hy)⟩
 | .Ia f keep cr res t,env,Q,Q',hq,⟨eH,h1,h2,h3⟩=>⟨eH,h1,h2,dJ (fun _=>F6 hq) h3⟩
 | .gX f h args rs sl ks t,env,Q,Q',hq,⟨st,ds,.ret d,h1,h2,h3,h4,h5⟩=>⟨st,ds,.ret d,h1,h2,h3,h4,dJ hq h5⟩
 | .gX f h args rs sl ks t,env,Q,Q',hq,⟨st,ds,.ee d,h1,h2,h3,kd,h4,h5⟩=>⟨st,ds,.ee d,h1,h2,h3,kd,h4,hq _ h5⟩
 | .gH f h args rs sl ks t,env,Q,Q',hq,⟨st,ds,.ret d,h',h1,h2,h3,h4,h5⟩=>⟨st,ds,.ret d,h',h1,h2,h3,h4,dJ hq h5⟩
 | .gH f h args rs sl ks t,env,Q,Q',hq,⟨st,ds,.ee d,h',h1,h2,h3,kd,h4,h5⟩=>⟨st,ds,.ee d,h',h1,h2,h3,kd,h4,hq _ h5⟩
 | .fS x h args rs sl ks t,env,Q,Q',hq,⟨f,us,cs,st,ds,.ret d,h',g1,g2,h1,h2,h3,h4,h5⟩=>⟨f,us,cs,st,ds,.ret d,h',g1,g2,h1,h2,h3,h4,dJ hq h5⟩
 | .fS x h args rs sl ks t,env,Q,Q',hq,⟨f,us,cs,st,ds,.ee d,h',g1,g2,h1,h2,h3,kd,h4,h5⟩=>⟨f,us,cs,st,ds,.ee d,h',g1,g2,h1,h2,h3,kd,h4,hq _ h5⟩
 | .nW x h sl cr n l body rest,env,Q,Q',hq,⟨f,us,cs,st,eH,d,eT,h1,h2,h3,h4,h5,h6,h7,h8⟩=>⟨f,us,cs,st,eH,d,eT,h1,h2,h3,h4,h5,h6,h7,dJ hq h8⟩
def af (bs:List Bind)(t:T):T:=bs.foldr T.bind t
theorem jC {env env':List D}(h:env <+: env'):∀{l:List E} {ds:List D},aA env l=some ds→aA env' l=some ds
 | [],ds,hd=>hd
 | x :: r,ds,hd=>by simp only[aA,A0b,A0a] at hd ⊢;obtain⟨d,h1,kL,h2,h3⟩:=hd;exact⟨d,E.ck h x h1,kL,jC h h2,h3⟩
theorem prefix_append (env ds:List D):env <+: env++ds:=⟨ds,rfl⟩
theorem um {P:Program}{t:T}{Q:gu→Prop}:∀{bs:List Bind} {env:List D},den P (af bs t) env Q→∃ds,ds.length=bs.length∧den P t (env++ds) Q∧uz P (env++ds) env.length bs
 | [],env,h=>⟨[],rfl,by simpa[af] using h,fun i b hi=>by simp at hi⟩
 | b :: bs,env,h=>by
  have go:∀{d:D},den P (af bs t) (env++[d]) Q→(∀ds,bD P (env++[d]++ds) env.length (some b))→∃ds,ds.length=(b :: bs).length∧den P t (env++ds) Q∧uz P (env++ds) env.length (b :: bs):=by
   intro d hd hb;obtain⟨ds,hl,h1,h2⟩:=um hd;refine⟨d :: ds,by simp[hl],by simpa using h1,fun i b' hi=>?_⟩;cases i with
   | zero=>simp at hi;subst hi;simpa using hb ds
   | succ i=>
    have:=h2 i b' (by simpa using hi);simp only[A0u,B0a,B0C,A0A,A0i,A0j] at this;rwa [show env.length+(i+1)=env.length+(0+1)+i from by omega]
  have lE:∀(d:D) (ds:List D),(env++[d]++ds)[env.length]? = some d:=by intro d ds;simp
  cases b with
  | ev x=>
   obtain⟨d,hx,hd⟩:=h;exact go hd fun ds=>⟨d,E.ck (by rw[A0A];exact prefix_append _ _) _ hx,lE d ds⟩
  | call act f hx args rs=>
   obtain⟨pV,d,hx,hd⟩:=h;refine go hd fun ds=>⟨d,lE d ds,fun ha=>?_⟩;obtain⟨st,as,h0,h1,h2⟩:=hx (j7 (by rw[A0A];exact prefix_append _ _) pV ha);exact⟨st,as,E.ck (by rw[A0A];exact prefix_append _ _) _ h0,jC (by rw[A0A];exact prefix_append _ _) h1,h2⟩
  | ei act x hx args rs=>
   obtain⟨pV,d,hx,hd⟩:=h;refine go hd fun ds=>⟨d,lE d ds,fun ha=>?_⟩;have hp:env <+: env++[d]++ds:=by rw[A0A];exact prefix_append _ _
   obtain⟨f,us,cs,st,as,g0,g1,g2,g3,g4⟩:=hx (j7 hp pV ha);exact⟨f,us,cs,st,as,E.ck hp _ g0,g1,E.ck hp _ g2,jC hp g3,g4⟩
  | dG act x hx args rs=>
   obtain⟨pV,st,d,h',g0,g1,g2,hd⟩:=h;refine go hd fun ds=>?_;have hp:env <+: env++[.a_ [d,h']]++ds:=by rw[A0A];exact prefix_append _ _
   refine⟨st,d,h',E.ck hp _ g0,lE _ ds,fun ha=>?_,fun hn=>g2 fun ha=>hn (tL hp ha)⟩;obtain⟨xd,as,k1,k2,k3⟩:=g1 (j7 hp pV ha);exact⟨xd,as,E.ck hp _ k1,jC hp k2,k3⟩
  | bw act f hx args rs=>
   obtain⟨pV,st,d,h',g0,g1,g2,hd⟩:=h;refine go hd fun ds=>?_;have hp:env <+: env++[.a_ [d,h']]++ds:=by rw[A0A];exact prefix_append _ _
   refine⟨st,d,h',E.ck hp _ g0,lE _ ds,fun ha=>?_,fun hn=>g2 fun ha=>hn (tL hp ha)⟩;obtain⟨as,k2,k3⟩:=g1 (j7 hp pV ha);exact⟨as,jC hp k2,k3⟩
end
end
section
noncomputable section
inductive Sop where
 | ee (x:E)
 | lR (x:E) (neg:Bool)
 | call (f:FuncId) (args:List E) (rs:List Bool)
 | bw (f:FuncId) (args:List E) (rs:List Bool)
 | dG (x:E) (args:List E) (rs:List Bool)
 | next (p:E)
 deriving Inhabited
def G_:Operand→Bool
 | .const (.slice none 0 0)=>true
 | _=>false
def Iw (P:Program)(o:Oper)(σ:ah):Option Sop:=
 match o.guard with
 | some _=>none
 | none=>match o.op with
  | .panic x=>(match(σ.zZ x).toE,σ.hs with
   | some y,some (.store _ _)=>some (.ee (.m4 .s8 y .nil .nil .nil))
   | _,_=>none)
  | .next it false=>(match(σ.zZ it).toE,σ.hs with
   | some p,some (.store cf _)=>if cf.ro then none else some (.next p)
   | _,_=>none)
  | .binOp .eql t x y _=>(match P.underlying t with
   | some (.slice _)=>if G_ y then(σ.zZ x).toE.map (.lR · false) else none
   | _=>none)
  | .binOp .neq t x y _=>(match P.underlying t with
   | some (.slice _)=>if G_ y then(σ.zZ x).toE.map (.lR · true) else none
   | _=>none)
  | .call c=>(match c.callee with
   | .value f=>match σ.zZ f,σ.hs with
    | .func (.func f) [],some (.store cf _)=>if cf.ee.contains f then(match P.funcs[f]?,toEAll (c.args.toList.map σ.zZ) with
      | some fn,some xs=>(match scalars P fn.resultTypes.toList with
       | some rs=>if bL P f=false then none else if cf.wr.contains f then(if cf.ro then none else some (.bw f xs rs)) else some (.call f xs rs)
       | none=>none)
      | _,_=>none) else none
    | .e x _,some (.store cf _)=>if cf.ee.contains (1000000+o.dst.getD 999999) then(match IF P o.type,toEAll (c.args.toList.map σ.zZ) with
      | some rs,some xs=>if cf.ro then none else some (.dG x xs rs)
      | _,_=>none) else none
    | _,_=>none
   | _=>none)
  | _=>none
abbrev Pw:=ah→Nat→Option T
def MN (σ:ah):E:=match σ.hs with | some (.store _ h)=>h | _=>.const (.st [])
def oL (σ:ah)(x:E):ah:=match σ.hs with | some (.store cf _)=>σ.setObj br (some (.store cf x)) | _=>σ
def jb (σ:ah):List Nat:=match σ.hs with | some (.store cf _)=>cf.keep | _=>[]
def uO (σ:ah):Option (List E):=toEAll ((jb σ).map σ.tmp)
def oG (w:World)(S:Sets)(a:Act)(NU:List Nat)(kd:List D):Prop:=
 kd.length=NU.length∧∀(i s:Nat) (d:D),NU[i]? = some s→kd[i]? = some d→bA w S (a.tmps.getD s undef) d
def Gi (s:Sop)(o:Oper)(σ:ah)(u:Nat)(rest:ah→Nat→Option T):Option T:=
 match s with
 | .ee x=>(uO σ).map (.ee x (MN σ) (jb σ))
 | .lR x neg=>(rest (σ.put o.dst (.e (.sym u) true)) (u+1)).map (.lR x neg)
 | .next p=>(rest ((oL σ (.av 1 (.sym u))).put o.dst (.e (.av 0 (.sym u)) false)) (u+1)).map (.pick (.m4 .next (MN σ) p .nil .nil))
 | .call f xs rs=>(uO σ).bind fun ks=>(rest (σ.put o.dst (p7 (.sym u) rs)) (u+1)).map (.gX f (MN σ) xs rs (jb σ) ks)
 | .bw f xs rs=>(uO σ).bind fun ks=>(rest ((oL σ (.av 1 (.sym u))).put o.dst (p7 (.av 0 (.sym u)) rs)) (u+1)).map (.gH f (MN σ) xs rs (jb σ) ks)
 | .dG x xs rs=>(uO σ).bind fun ks=>(rest ((oL σ (.av 1 (.sym u))).put o.dst (p7 (.av 0 (.sym u)) rs)) (u+1)).map (.fS x (MN σ) xs rs (jb σ) ks)
def IC (P:Program)(ops:Array Oper):List Oper→ah→Nat→Pw→Option T
 | [],σ,u,k=>k σ u
 | o :: r,σ,u,k=>match Iw P o σ with
  | some s=>if pF σ o then Gi s o σ u fun σ u=>IC P ops r σ u k else none
  | none=>match mr P ops o σ u with
   | some (σ',none)=>IC P ops r σ' u k
   | some (σ',some b)=>(IC P ops r σ' (u+1) k).map (.bind b)
   | none=>none
def wG (P:Program)(ops:Array Oper):List Oper→ah→Nat→Option (Option (Nat×ah))
 | [],σ,u=>some (some (u,σ))
 | o :: r,σ,u=>match Iw P o σ with
  | some (.ee _)=>some none
  | some (.lR _ _)=>wG P ops r (σ.put o.dst (.e (.sym u) true)) (u+1)
  | some (.next _)=>wG P ops r ((oL σ (.av 1 (.sym u))).put o.dst (.e (.av 0 (.sym u)) false)) (u+1)
  | some (.call _ _ rs)=>wG P ops r (σ.put o.dst (p7 (.sym u) rs)) (u+1)
  | some (.dG _ _ rs)=>wG P ops r ((oL σ (.av 1 (.sym u))).put o.dst (p7 (.av 0 (.sym u)) rs)) (u+1)
  | some (.bw _ _ rs)=>wG P ops r ((oL σ (.av 1 (.sym u))).put o.dst (p7 (.av 0 (.sym u)) rs)) (u+1)
  | none=>match mr P ops o σ u with
   | some (σ',none)=>wG P ops r σ' u
   | some (σ',some _)=>wG P ops r σ' (u+1)
   | none=>none
section
variable {P:Program} {w0:World} {X:jN}
theorem PL {t e:TypeId}{v:Value}{w:World}(ht:P.underlying t=some (.slice e))(hv:∃ad n c,v=.slice ad n c):∃b,(binOp .eql t v (.slice none 0 0)).run P w=.ok (.bool b) w∧(binOp .neq t v (.slice none 0 0)).run P w=.ok (.bool (!b)) w∧(b=true↔∃n c,v=.slice none n c):=by obtain⟨ad,n,c,rfl⟩:=hv;exact⟨ad.isNone,Lib.run_eql_slice_nil w t e ad n c 0 0 ht,run_neq_slice_nil_any w t e ad n c 0 0 ht,by cases ad <;> simp⟩
theorem TY {w:World}{S:Sets}{v:Value}{d:D}{bs:List Bool}(h:bA w S v d)(hb:d.isNil=some bs):(∃ad n c,v=.slice ad n c)∧∀b:Bool,(b=true↔∃n c,v=.slice none n c)→b∈bs:=by
 unfold D.isNil at hb;split at hb
 ·cases hb;obtain⟨ad,n,c,hv,_⟩:=h.CC;exact⟨⟨ad,n,c,hv⟩,fun b _=>by cases b <;> simp⟩
 ·cases hb;rename_i bQ;cases h with
  | nil=>exact absurd rfl bQ
  | emp _=>exact absurd rfl bQ
  | bk=>exact⟨⟨_,_,_,rfl⟩,fun b hb=>by cases b <;> simp at hb ⊢⟩
 ·cases hb;cases h;exact⟨⟨_,_,_,rfl⟩,fun b hb=>by cases b <;> simp at hb ⊢⟩
 ·cases hb;cases h;exact⟨⟨_,_,_,rfl⟩,fun b hb=>by cases b <;> simp at hb ⊢⟩
 ·cases hb
theorem nL {w:World}{a:Act}{σ:ah}{env:List D}{ρ:dD}(h:aF w0 X w a σ env ρ){cf:cF}{x:E}(hx:σ.hs=some (.store cf x)):MN σ=x∧σ.obj br=some (.store cf x)∧∃bs,x.eval env=some (.st bs)∧cI w ρ.S ρ.az bs:=by
 have cO:σ.obj br=some (.store cf x):=by rw[ah.ey,A0z rfl];exact hx
 obtain⟨bs,h1,h2,_⟩:=h.cT _ _ cO;exact⟨by simp[MN,hx],cO,bs,h1,h2⟩
def adN (w0:World)(X:jN)(Q:gu→Prop)(Q':Exit→Act→World→Prop):Prop:=
 ∀(w:World) (a:Act) (σ:ah) (env:List D) (ρ:dD) (v:Value) (d:D) (bs:List D),aF w0 X w a σ env ρ→bA w ρ.S v d→cI w ρ.S ρ.az bs→(∃cf x,σ.obj br=some (.store cf x))→(∃kd,oG w ρ.S a (jb σ) kd∧Q (.ee d (.st bs) (jb σ) kd))→Q' (.panic [{ v,recovered:=false }]) a w
theorem qj {w:World}{a:Act}{σ:ah}{env:List D}{ρ:dD}(h:aF w0 X w a σ env ρ){ks:List E}(hk:uO σ=some ks){aiO:List D}{kd:List D}(he:aA aiO ks=some kd)(hp:aiO <+: env):oG w ρ.S a (jb σ) kd:=by
 obtain⟨ds,bX,hl,bO⟩:=toEAll_rd (w:=w) (ρ:=ρ) (env:=env) (vs:=(jb σ).map fun s=>a.tmps.getD s undef) hk (by simp) (fun i v s hv hs=>by
  simp only[A0w,A0a] at hv hs;obtain⟨x,hx,rfl⟩:=hv;obtain⟨y,hy,rfl⟩:=hs;rw[hx] at hy;cases hy;exact h.tmps x)
 have:=jC hp he;rw[bX] at this;cases this;exact⟨by simpa using hl.symm,fun i s d hs hd=>bO i _ d (by simp[hs]) hd⟩
theorem HJ {f:FuncId}{o:Oper}{a:Act}{w:World}{c:Operand}{args:Array Operand}{ts:Array TypeId}(dU:bL P f=true)(ho:o.op=.call { callee:=.value c,args:=args,argTypes:=ts })(hc:a.eval c=.func (.func f) #[] #[]) :
  (execOp a.eval o).run P w=.ok (.enter f (args.map a.eval)) w:=by
 unfold bL at dU;split at dU
 ·rename_i fn hf;simp only[A0f,B0j,C0o] at dU;have Yr:fn.body.isNone=false:=by
   cases hb:fn.body with
   | none=>exact absurd hb dU.2
   | some _=>rfl
  unfold execOp;simp only[ho,resolve,hc,Deferred.ofValue,invoke,A0n,A0r,A0h,callFunc,D0A,hf,dU.1,Yr,A0S,B0n];simp
 ·cases dU
theorem E2 {rd:Option Nat} {nd:Nat} {ops:Array Oper} {o:Oper} {s:Sop} {σ:ah} {rest:ah→Nat→Option T} {t:T} {env:List D} {Q:gu→Prop} {Q':Exit→Act→World→Prop} {K:Act→World→Prop} {a:Act} {w:World} {ρ:dD}
  (hs:Iw P o σ=some s) (oJ:tV o=true) (hd:∀d,o.dst=some d→d<σ.tmps.length) (ht:Gi s o σ env.length rest=some t) (fD:den P t env Q) (hr:aF w0 X w a σ env ρ) (hp:adN w0 X Q Q')
  (hK:∀(σ':ah) (env':List D) (t':T) (a':Act) (w':World) (ρ':dD),env <+: env'→rest σ' env'.length=some t'→den P t' env' Q→aF w0 X w' a' σ' env' ρ'→σ'.tmps.length=σ.tmps.length→σ'.mem.length=σ.mem.length→K a' w') :
  Region.wanted o (yielded ops a.tmps)=true∧o.wpIn (FW rd) nd P a w K Q':=by
 unfold Iw at hs;split at hs
 ·cases hs
 rename_i hg;refine⟨by simp[Region.wanted,hg],?_⟩;have hv:=fun x=>Ch (a:=a) hr x;have xE:∀sv,(σ.put o.dst sv).tmps.length=σ.tmps.length∧(σ.put o.dst sv).mem.length=σ.mem.length:=fun sv=>by cases o.dst <;> simp[ah.ff]
 have nil:∀{op:BinOp} {ty yt:TypeId} {x y:Operand} {x':E} {neg:Bool},o.op=.binOp op ty x y yt→(op=.eql∧neg=false∨op=.neq∧neg=true)→(∃e,P.underlying ty=some (.slice e))→G_ y=true→(σ.zZ x).toE=some x'→s=.lR x' neg→o.wpIn (FW rd) nd P a w K Q':=by
  intro op ty yt x y x' neg ho oI ⟨e,hu⟩ hy hx hs;subst hs;simp only[Gi] at ht;obtain⟨t',zf,rfl⟩:=A0a.1 ht;obtain⟨d,bs,he,hb,ji⟩:=fD;obtain⟨d',he',bO⟩:=SV.toE_rd hx (hv x);rw[he] at he';cases he';obtain⟨aag,iK⟩:=TY bO hb;obtain⟨b,h1,h2,h3⟩:=PL (P:=P) (w:=w) hu aag;have Rz:a.eval y=.slice none 0 0:=by
   unfold G_ at hy;split at hy
   ·rfl
   ·cases hy
  have fo:=ji b (iK b h3);have UN:(eqGuard op ty x y (a.eval x) (.slice none 0 0)).run P w=.ok () w:=by obtain⟨ad,n,c,JH⟩:=aag;rw[JH];rcases oI with⟨rfl,_⟩ | ⟨rfl,_⟩ <;> simp[eqGuard]
  refine gV (K:=K) oJ ?_ fun _ _ h=>h;have bt:(execOp a.eval o).run P w=.ok (.value (.bool (b != neg))) w:=by
   unfold execOp;rcases oI with⟨rfl,rfl⟩ | ⟨rfl,rfl⟩
   ·simp only[ho,Rz,A0n,UN,A0h,h1,A0r];simp
   ·simp only[ho,Rz,A0n,UN,A0h,h2,A0r];simp
  rw[bt];have bg:=(hr.env (prefix_append env [.v (.bool (b != neg))])).put (dst:=o.dst) (v:=.bool (b != neg)) (sv:=.e (.sym env.length) true) hd (.e (d:=.v (.bool (b != neg))) (by simp[E.eval]) (.v rfl) fun _=>rfl);exact hK _ _ t' _ _ _ (prefix_append env _) (by rw[A0u];exact zf) fo bg (xE _).1 (xE _).2
 split at hs
 ·rename_i x ho;split at hs
  ·rename_i y cf ZV hx vG;cases hs;simp only[Gi] at ht;obtain⟨ks,rX,rfl⟩:=A0a.1 ht;obtain⟨d,st,kd,he,hh,JV,hq⟩:=fD;obtain⟨d',he',bO⟩:=SV.toE_rd hx (hv x);simp only[E.eval,he',A0d,D.m4] at he;obtain⟨h1,cO,bs,h2,h3⟩:=nL hr vG;rw[h1,h2] at hh;cases hh;split at he
   case h_2=>cases he
   cases he;have anS:=bO;generalize T_:a.eval x=v at bO;cases bO with
   | iW J3=>
    refine gV (K:=K) oJ ?_ fun _ _ h=>h;have bt:(execOp a.eval o).run P w=.halt (.panic (a.eval x)) w:=by unfold execOp;simp only[ho,T_,Instr.panic,goPanic,A0n];rfl
    rw[bt];exact hp w a σ env ρ _ _ bs hr anS h3 ⟨cf,_,cO⟩ ⟨kd,qj hr rX JV (B0W _),hq⟩
  ·cases hs
 ·rename_i it ho;split at hs
  ·rename_i p cf ZV hx vG;split at hs
   ·cases hs
   rename_i fQ;cases hs;simp only[Gi] at ht;obtain⟨t',zf,rfl⟩:=A0a.1 ht;obtain⟨ys,he,ji⟩:=fD;obtain⟨dp,hdp,RB⟩:=SV.toE_rd hx (hv it);obtain⟨h1,cO,bs,h2,h3⟩:=nL hr vG;simp only[E.eval,h1,h2,hdp,A0d,D.m4] at he;obtain⟨v,w',d,bs',iK,bt,mJ,dP,hK',nZ,MK,fZ,bV,uT⟩:=Td (P:=P) (ty:=o.type) h3 RB he;have fo:=ji _ _ iK;have ep:(execOp a.eval o).run P w=.ok (.value v) w':=by unfold execOp;simp only[ho,A0n,bt,A0h,A0r]
   refine gV (K:=K) oJ ?_ fun _ _ h=>h;rw[ep];have gm:=prefix_append env [.a_ [d,.st bs']];have cA:(E.sym env.length).eval (env++[.a_ [d,.st bs']])=some (.a_ [d,.st bs']):=by simp[E.eval]
   have bg:=(hr.env gm).gJ (x':=.av 1 (.sym env.length)) cO (by simpa using fQ) (by simp only[E.eval] at cA ⊢;rw[cA];rfl) dP hK' (Sets.le_refl _) nZ MK fZ (by omega) (fun b _ hb=>uT b hb) (fun b hb=>⟨.inl hb,by rw[bV];exact gj hr cO b hb⟩) (fun b o hs=>.inl hs) (fun b o hs=>by rw[bV];exact hr.cells b o hs);have gT:oL σ (.av 1 (.sym env.length))=σ.setObj br (some (.store cf (.av 1 (.sym env.length)))):=by unfold oL;rw[vG]
   refine hK _ _ t' _ _ _ gm (by rw[A0u];exact zf) fo (gT ▸ bg.put (dst:=o.dst) (by rw[ah.aP];exact hd) (.e (d:=d) (by simp only[E.eval] at cA ⊢;rw[cA];rfl) mJ (by simp))) ?_ ?_
   ·rw[gT];cases o.dst <;> simp[ah.ff,ah.aP]
   ·rw[gT];cases o.dst <;> simp[ah.ff,ah.fE]
  ·cases hs
 ·rename_i ty x y yt ho;split at hs
  ·rename_i e hu;split at hs
   ·rename_i hy;obtain⟨x',hx,rfl⟩:=A0a.1 hs;exact nil ho (.inl ⟨rfl,rfl⟩) ⟨e,hu⟩ hy hx rfl
   ·cases hs
  ·cases hs
 ·rename_i ty x y yt ho;split at hs
  ·rename_i e hu;split at hs
   ·rename_i hy;obtain⟨x',hx,rfl⟩:=A0a.1 hs;exact nil ho (.inr ⟨rfl,rfl⟩) ⟨e,hu⟩ hy hx rfl
   ·cases hs
  ·cases hs
 ·rename_i c ho;obtain⟨callee,args,ts⟩:=c;simp only at hs;split at hs
  ·rename_i c;split at hs
   ·rename_i f cf hE hfv vG;split at hs
    ·split at hs
     ·rename_i fn xs vH Hi;split at hs
      ·rename_i rs kf;split at hs
       ·cases hs
       ·rename_i dU;have dU:bL P f=true:=by simpa using dU
        obtain⟨h1,cO,bs,h2,h3⟩:=nL hr vG;have hc:a.eval c=.func (.func f) #[] #[]:=by
         have:=hv c;rw[hfv] at this;obtain⟨vs,he,iH,_⟩:=this.oh;rw[he];have:vs=#[]:=by simpa using iH
         rw[this]
        have bt:=HJ (w:=w) dU ho hc;obtain⟨kL,nk,fR,bO⟩:=toEAll_rd (w:=w) (ρ:=ρ) (vs:=(args.map a.eval).toList) Hi (by simp) (fun i v s gQ Ae=>by
         simp only[C0g,A0w,A0a] at gQ Ae;obtain⟨x,fm,rfl⟩:=gQ;obtain⟨y,yp,rfl⟩:=Ae;rw[fm] at yp;cases yp;exact hv x)
        split at hs
        ·split at hs
         ·cases hs
         ·rename_i fQ;cases hs;simp only[Gi] at ht;obtain⟨ks,rX,ht⟩:=A0b.1 ht;obtain⟨t',zf,rfl⟩:=A0a.1 ht;obtain⟨st,ds,oo,h',yq,bX,gz,Qv⟩:=fD;rw[h1,h2] at yq;cases yq;rw[bX] at nk;cases nk;refine gV (K:=K) oJ ?_ fun _ _ h=>h;rw[bt];refine⟨fun e=>(by cases e),callsIn_wide.2 ?_⟩;refine(gz w ρ.S ρ.az bs (args.map a.eval) rfl h3 (hr.lY cO) (gj hr cO) hr.cells (by simpa using fR) (fun i v x hv fm=>bO i v x (by simpa using hv) fm)).mono ?_
          rintro e w' ⟨v,S',bJ,bs',eb,rfl,dP,hk,hS,nZ,MK,fZ,bV,uT,pU,H8,J6⟩
          cases oo with
          | ret d=>
           obtain⟨rfl,mJ⟩:=eb;have gm:=prefix_append env [.a_ [d,.st bs']];have cA:(E.sym env.length).eval (env++[.a_ [d,.st bs']])=some (.a_ [d,.st bs']):=by simp[E.eval]
           have bg:=(hr.env gm).gJ (x':=.av 1 (.sym env.length)) cO (by simpa using fQ) (by simp only[E.eval] at cA ⊢;rw[cA];rfl) dP hk hS nZ MK fZ bV uT pU H8 J6;have gT:oL σ (.av 1 (.sym env.length))=σ.setObj br (some (.store cf (.av 1 (.sym env.length)))):=by unfold oL;rw[vG]
           refine hK _ _ t' _ _ _ gm (by rw[A0u];exact zf) Qv.2 (gT ▸ bg.put (dst:=o.dst) (by rw[ah.aP];exact hd) (jS (by simp only[E.eval] at cA ⊢;rw[cA];rfl) mJ Qv.1)) ?_ ?_
           ·rw[gT];cases o.dst <;> simp[ah.ff,ah.aP]
           ·rw[gT];cases o.dst <;> simp[ah.ff,ah.fE]
          | ee d=>
           obtain⟨rfl,mJ⟩:=eb;have bg:=(hr.env (prefix_append env [.st bs'])).gJ (x':=.sym env.length) cO (by simpa using fQ) (by simp[E.eval]) dP hk hS nZ MK fZ bV uT pU H8 J6;obtain⟨kd,JV,hq⟩:=Qv;have OU:jb (σ.setObj br (some (.store cf (.sym env.length))))=jb σ:=by unfold jb;rw[vG];simp[ah.eU]
           have hke:uO (σ.setObj br (some (.store cf (.sym env.length))))=some ks:=by unfold uO at rX ⊢;rw[OU];rw[←rX];congr 1
           exact hp w' a _ _ _ v d bs' bg mJ dP ⟨cf,_,by rw[ah.eC (.inl rfl),A0z rfl]⟩ ⟨kd,qj bg hke JV (prefix_append env _),by rw[OU];exact hq⟩
        ·cases hs;simp only[Gi] at ht;obtain⟨ks,rX,ht⟩:=A0b.1 ht;obtain⟨t',zf,rfl⟩:=A0a.1 ht;obtain⟨st,ds,oo,yq,bX,gz,Qv⟩:=fD;rw[h1,h2] at yq;cases yq;rw[bX] at nk;cases nk;refine gV (K:=K) oJ ?_ fun _ _ h=>h;rw[bt];refine⟨fun e=>(by cases e),callsIn_wide.2 ?_⟩;refine(gz w ρ.S ρ.az bs (args.map a.eval) rfl h3 (hr.lY cO) (gj hr cO) hr.cells (by simpa using fR) (fun i v x hv fm=>bO i v x (by simpa using hv) fm)).mono ?_
         rintro e w' ⟨v,S',eb,vJ,sr,HW,oH,Bo⟩
         have bg:=hr.behind vJ sr HW oH Bo;cases oo with
         | ret d=>
          obtain⟨rfl,mJ⟩:=eb;have gm:=prefix_append env [d];exact hK _ _ t' _ _ _ gm (by rw[A0u];exact zf) Qv.2 ((bg.env gm).put (dst:=o.dst) hd (jS (by simp[E.eval]) mJ Qv.1)) (xE _).1 (xE _).2
         | ee d=>
          obtain⟨rfl,mJ⟩:=eb;obtain⟨nS,h4,h5,_⟩:=bg.cT _ _ cO;rw[h2] at h4;cases h4;obtain⟨kd,JV,hq⟩:=Qv;exact hp w' a _ _ _ v d bs bg mJ h5 ⟨cf,_,cO⟩ ⟨kd,qj bg rX JV (B0W _),hq⟩
      ·cases hs
     ·cases hs
    ·cases hs
   ·rename_i xe sb cf hE hfv vG;split at hs
    ·split at hs
     ·rename_i rs xs kf Hi;split at hs
      ·cases hs
      ·rename_i fQ;cases hs;obtain⟨h1,cO,bs,h2,h3⟩:=nL hr vG;have Ej:=hv c;rw[hfv] at Ej;obtain⟨dc,FF,JM,_⟩:=Ej.jL;obtain⟨kL,nk,fR,bO⟩:=toEAll_rd (w:=w) (ρ:=ρ) (vs:=(args.map a.eval).toList) Hi (by simp) (fun i v s gQ Ae=>by
        simp only[C0g,A0w,A0a] at gQ Ae;obtain⟨x,fm,rfl⟩:=gQ;obtain⟨y,yp,rfl⟩:=Ae;rw[fm] at yp;cases yp;exact hv x)
       simp only[Gi] at ht;obtain⟨ks,rX,ht⟩:=A0b.1 ht;obtain⟨t',zf,rfl⟩:=A0a.1 ht;obtain⟨f,us,cs,st,ds,oo,h',Fw,dU,yq,bX,gz,Qv⟩:=fD;rw[FF] at Fw;cases Fw;rw[h1,h2] at yq;cases yq;rw[bX] at nk;cases nk;generalize hvc:a.eval c=vc at JM;cases JM with
       | @fn _ uv cv _ _ Hj UY OM QG=>
       have bt:(execOp a.eval o).run P w=.ok (.enter f (uv++args.map a.eval++cv)) w:=by
        unfold bL at dU;split at dU
        ·rename_i fn hf;simp only[A0f,B0j,C0o] at dU;have Yr:fn.body.isNone=false:=by
          cases hb:fn.body with
          | none=>exact absurd hb dU.2
          | some _=>rfl
         unfold execOp;simp only[ho,resolve,hvc,Deferred.ofValue,invoke,A0n,A0r,A0h,callFunc,D0A,hf,dU.1,Yr,A0S,B0n]
        ·cases dU
       refine gV (K:=K) oJ ?_ fun _ _ h=>h;rw[bt];refine⟨fun e=>(by cases e),callsIn_wide.2 ?_⟩;refine(gz w ρ.S ρ.az bs _ rfl h3 (hr.lY cO) (gj hr cO) hr.cells (by simp at fR;simp[Hj,UY,fR]) (fun i v x hv fm=>YA (us:=uv.toList) (vs:=(args.map a.eval).toList) (ws:=cv.toList) (R:=fun v x=>bA w ρ.S v x) (by simpa using Hj) fR (fun i u x hu hx=>OM i u x (by simpa using hu) hx) bO (fun i u x hu hx=>QG i u x (by simpa using hu) hx) i v x (by rw[←B0X,←B0X,B0c];exact hv) fm)).mono ?_
       rintro e w' ⟨v,S',bJ,bs',eb,rfl,dP,hk,hS,nZ,MK,fZ,bV,uT,pU,H8,J6⟩
       cases oo with
       | ret d=>
        obtain⟨rfl,mJ⟩:=eb;have gm:=prefix_append env [.a_ [d,.st bs']];have cA:(E.sym env.length).eval (env++[.a_ [d,.st bs']])=some (.a_ [d,.st bs']):=by simp[E.eval]
        have bg:=(hr.env gm).gJ (x':=.av 1 (.sym env.length)) cO (by simpa using fQ) (by simp only[E.eval] at cA ⊢;rw[cA];rfl) dP hk hS nZ MK fZ bV uT pU H8 J6;have gT:oL σ (.av 1 (.sym env.length))=σ.setObj br (some (.store cf (.av 1 (.sym env.length)))):=by unfold oL;rw[vG]
        refine hK _ _ t' _ _ _ gm (by rw[A0u];exact zf) Qv.2 (gT ▸ bg.put (dst:=o.dst) (by rw[ah.aP];exact hd) (jS (by simp only[E.eval] at cA ⊢;rw[cA];rfl) mJ Qv.1)) ?_ ?_
        ·rw[gT];cases o.dst <;> simp[ah.ff,ah.aP]
        ·rw[gT];cases o.dst <;> simp[ah.ff,ah.fE]
       | ee d=>
        obtain⟨rfl,mJ⟩:=eb;have bg:=(hr.env (prefix_append env [.st bs'])).gJ (x':=.sym env.length) cO (by simpa using fQ) (by simp[E.eval]) dP hk hS nZ MK fZ bV uT pU H8 J6;obtain⟨kd,JV,hq⟩:=Qv;have OU:jb (σ.setObj br (some (.store cf (.sym env.length))))=jb σ:=by unfold jb;rw[vG];simp[ah.eU]
        have hke:uO (σ.setObj br (some (.store cf (.sym env.length))))=some ks:=by unfold uO at rX ⊢;rw[OU];rw[←rX];congr 1
        exact hp w' a _ _ _ v d bs' bg mJ dP ⟨cf,_,by rw[ah.eC (.inl rfl),A0z rfl]⟩ ⟨kd,qj bg hke JV (prefix_append env _),by rw[OU];exact hq⟩
     ·cases hs
    ·cases hs
   ·cases hs
  ·cases hs
 ·cases hs
theorem QY {b:Bind}{t:T}{env:List D}{Q:gu→Prop}(h:den P (.bind b t) env Q):∃d,den P t (env++[d]) Q∧bD P (env++[d]) env.length (some b):=by
 obtain⟨ds,hl,h1,h2⟩:=um (bs:=[b]) (t:=t) h
 match ds,hl with
 | [d],_=>exact⟨d,h1,h2 0 b rfl⟩
theorem BS {rd:Option Nat} {nd:Nat} {ops:Array Oper} {Q:gu→Prop} {Q':Exit→Act→World→Prop} {k:Pw} (hp:adN w0 X Q Q') {N:Nat}
  (bV:∀(j d:Nat),(ops[j]?).bind (fun(o:Oper)=>o.dst)=some d→d<N) :
  ∀{l:List Oper} {σ:ah} {t:T} {env:List D} {a:Act} {w:World} {ρ:dD},IC P ops l σ env.length k=some t→den P t env Q→aF w0 X w a σ env ρ→σ.tmps.length=N→σ.mem.length=N →
   (∀(σ':ah) (env':List D) (t':T) (a':Act) (w':World) (ρ':dD),env <+: env'→k σ' env'.length=some t'→den P t' env' Q→aF w0 X w' a' σ' env' ρ'→σ'.tmps.length=N→σ'.mem.length=N→Q' .normal a' w')→wpListIn (FW rd) nd P ops Q' l a w
 | [],σ,t,env,a,w,ρ,hs,hd,hr,h1,h2,hQ=>hQ σ env t a w ρ (B0W _) hs hd hr h1 h2
 | o :: r,σ,t,env,a,w,ρ,hs,hd,hr,h1,h2,hQ=>by
  simp only[IC] at hs;have next:∀{σ':ah} {env':List D} {t':T} {a':Act} {w':World} {ρ':dD},env <+: env'→IC P ops r σ' env'.length k=some t'→den P t' env' Q→aF w0 X w' a' σ' env' ρ'→σ'.tmps.length=N→σ'.mem.length=N→wpListIn (FW rd) nd P ops Q' r a' w':=by intro σ' env' t' a' w' ρ' gm Ae fo kg wi U7;exact BS hp bV Ae fo kg wi U7 fun σ2 bB t2 a2 w2 ρ2 hp2=>hQ σ2 bB t2 a2 w2 ρ2 (gm.trans hp2)
  split at hs
  ·rename_i s hso;split at hs
   ·rename_i gB;obtain⟨hw,hwp⟩:=E2 (ops:=ops) hso (tH gB) (vO gB) hs hd hr hp (K:=wpListIn (FW rd) nd P ops Q' r) fun σ' env' t' a' w' ρ' gm hk fo kg e1 e2=>next gm hk fo kg (e1.trans h1) (e2.trans h2)
    unfold wpListIn;rw[A0z hw];exact hwp
   ·cases hs
  ·have go:∀{σ':ah} {b:Option Bind} {env':List D} {t':T},mr P ops o σ env.length=some (σ',b)→env <+: env'→bD P env' env.length b→IC P ops r σ' env'.length k=some t'→den P t' env' Q→wpListIn (FW rd) nd P ops Q' (o :: r) a w:=by
    intro σ' b env' t' hst gm hb Ae fo;have hlen:=PN hst;unfold wpListIn;rcases zR (hr.env gm) (by rw[h1,h2]) (C0Q gm) (fun j d hjd=>by rw[h1];exact bV j d hjd) hst hb with⟨hw,eE⟩ | ⟨hw,ρ'',bg⟩
    ·rw[A0z hw];refine gV (zS hst) (eE Q') ?_
     rintro a' w' ⟨ρ',bg⟩
     exact next gm Ae fo bg (hlen.1.trans h1) (hlen.2.trans h2)
    ·rw[A0B (by rw[hw];simp)];refine⟨fun _ _=>trivial,?_⟩;exact next gm Ae fo bg (hlen.1.trans h1) (hlen.2.trans h2)
   split at hs
   ·rename_i σ' hst;exact go hst (B0W _) trivial hs hd
   ·rename_i σ' b hst;obtain⟨t',Ae,rfl⟩:=A0a.1 hs;obtain⟨d,fo,hb⟩:=QY hd;exact go hst (prefix_append env [d]) hb (by rw[A0u];exact Ae) fo
   ·cases hs
theorem Oper.Lt {F:Fence}{n:Nat}{o:Oper}{a:Act}{w:World}{K:Act→World→Prop}{Q1 Q2:Exit→Act→World→Prop}(h1:∀c a w,Q1 (.panic c) a w→Q2 (.panic c) a w)(h2:∀a w,Q1 .outgrown a w→Q2 .outgrown a w)(h:o.wpIn F n P a w K Q1):o.wpIn F n P a w K Q2:=by
 unfold Oper.wpIn at *;refine⟨h.1,?_⟩;have h:=h.2;have hl:LetsOut Q1→LetsOut Q2:=fun⟨a,w,h⟩=>⟨a,w,h2 a w h⟩;generalize(o.semAt F.round a.eval).run P w=r at *;cases r with
 | ok n w'=>
  cases n <;> simp only[Oper.uponIn] at h ⊢ <;>
   first
    | exact h
    | exact⟨h.1,CallsIn.mono h.2 (fun e Wq he=>by cases e <;> first | exact he | exact h1 _ _ _ he | exact hl he)⟩
    | exact⟨h.1,RowsIn.mono h.2 (fun _ _ he=>he)⟩
    | exact⟨h.1,RoundIn.mono h.2 (fun e Wq he=>by cases e <;> first | exact he | exact h1 _ _ _ he | exact hl he)⟩
 | halt x w'=>cases x <;> simp only[Oper.uponIn] at h ⊢ <;> first | exact h1 _ _ _ h | exact h
def CN (ops:Array Oper):Bool:=
 (List.range (ops.size-1)).all (fun j=>((jV ops.toList []).getD (ops.size-1) 0).testBit j)&&(List.range ops.size).all fun i=>match ops[i]? with
  | some o=>(i==ops.size-1||match o.guard with | some (j,_)=>decide (j<ops.size-1) | none=>true)&&o.after.all fun e=>!Region.binds .any e||decide (e.on<i)
  | none=>false
theorem Ig {ops:Array Oper}{tmps:Array Value}{j:Nat}(hj:j<ops.size-1):yielded ops.pop tmps j=yielded ops tmps j:=by unfold yielded;rw[D0Z];simp[hj]
theorem Lu {F:Fence}{n:Nat}{ops:Array Oper}{Q:Exit→Act→World→Prop}(h0:0<ops.size)(hl:CN ops=true) :
  ∀(fuel:Nat) (listed:Array Bool) (a:Act) (w:World),listed.size=ops.size-1→jd ops (dI listed) →
   wpAnyIn F n P .any ops.pop (fun e a w=>match e with | .normal=>wpOpIn F n P ops Q (ops.size-1) (Q .normal) a w | e=>Q e a w) fuel listed a w→wpAnyIn F n P .any ops Q (fuel+1) (listed.push false) a w:=by
 simp only[CN,A0f,A0C,A0X] at hl;obtain⟨Db,ji⟩:=hl;have lE:∀(i:Nat) (o:Oper),ops[i]? = some o→(i<ops.size-1→∀j b,o.guard=some (j,b)→j<ops.size-1)∧∀e,e∈o.after→Region.binds .any e=true→e.on<i:=by
  intro i o ho;have:=ji i (A0l.1 ho).1;rw[ho] at this;simp only[A0f,B0v,B0K] at this;refine⟨fun hi j b hg=>?_,fun e he hb=>?_⟩
  ·have h1:=this.1.resolve_left (by omega);rw[hg] at h1;simpa using h1
  ·have:=C0W.1 this.2 e he;simpa[hb] using this
 have jh:∀(listed:Array Bool) (j:Nat),listed.size=ops.size-1→j<ops.size-1→∀d,(listed.push false).getD j d=listed.getD j false:=by intro listed j hs hj d;simp only[A0s];rw[Array.getElem?_push_lt (by omega)];simp[show j<listed.size by omega]
 have aaf:∀(listed:Array Bool),listed.size=ops.size-1→∀d,(listed.push false).getD (ops.size-1) d=false:=by intro listed hs d;simp only[A0s,←hs,Array.getElem?_push_size];rfl
 have ahF:∀i,i<ops.size-1→ops.pop[i]? = ops[i]?:=fun i hi=>by rw[D0Z];simp[hi]
 have step:∀(fuel:Nat) (listed:Array Bool) (a:Act) (w:World),listed.size=ops.size-1→jd ops (dI listed) →
   wpAnyIn F n P .any ops.pop (fun e a w=>match e with | .normal=>wpOpIn F n P ops Q (ops.size-1) (Q .normal) a w | e=>Q e a w) fuel listed a w →
   (∀f,fuel=f+1→∀(listed:Array Bool) (a:Act) (w:World),listed.size=ops.size-1→jd ops (dI listed) →
    wpAnyIn F n P .any ops.pop (fun e a w=>match e with | .normal=>wpOpIn F n P ops Q (ops.size-1) (Q .normal) a w | e=>Q e a w) f listed a w→wpAnyIn F n P .any ops Q (f+1) (listed.push false) a w) →
   wpAnyIn F n P .any ops Q (fuel+1) (listed.push false) a w:=by
  intro fuel listed a w hs dU h ih;have RH:∀(j:Nat),j<ops.size-1→listed.getD j true=listed.getD j false:=fun j hj=>by simp only[A0s];simp[show j<listed.size by omega]
  refine⟨fun ng=>?_,fun i hi=>?_⟩
  ·exfalso;have lH:∀j,j<ops.size→(listed.push false).getD j false=true:=by
    intro j
    induction j using Nat.strongRecOn with
    | _ j ihj=>
     intro hj;refine B0H fun oJ=>?_;have iK:j∈Region.ready .any ops (listed.push false):=by
      refine D0Q.2 ⟨?_,ops[j],A0p hj,fun e he hb=>?_⟩
      ·rcases A0U j (ops.size-1) with hlt | hge
       ·rw[jh listed j hs hlt] at oJ ⊢;simpa using oJ
       ·have:j=ops.size-1:=by omega
        rw[this,aaf listed hs]
      ·have:=(lE j ops[j] (A0p hj)).2 e he hb;exact ihj e.on this (by omega)
     rw[ng] at iK;cases iK
   have:=lH (ops.size-1) (by omega);rw[aaf listed hs] at this;cases this
  ·obtain⟨h1,o,ho,ha⟩:=D0Q.1 hi;have nh:=(A0l.1 ho).1;rcases A0U i (ops.size-1) with hlt | hge
   ·have hia:∀e,e∈o.after→Region.binds .any e=true→listed.getD e.on false=true:=fun e he hb=>by have h2:=ha e he hb;have h3:=(lE i o ho).2 e he hb;rwa [jh listed e.on hs (by omega)] at h2
    have qn:i∈Region.ready .any ops.pop listed:=by refine D0Q.2 ⟨?_,o,by rw[ahF i hlt];exact ho,hia⟩;rw[jh listed i hs hlt] at h1;rw[RH i hlt];exact h1
    cases fuel with
    | zero=>rw[h.1] at qn;cases qn
    | succ f=>
     have h2:=h.2 i qn;have gT:(listed.push false).setIfInBounds i true=(listed.setIfInBounds i true).push false:=by apply Array.ext';rw[D0V,D0C,D0C,D0V,D0L _ _ (by simpa using(by omega:i<listed.size))]
     have acH:jd ops (dI (listed.setIfInBounds i true)):=by
      intro k ok hk eE e he hb;simp only[dI,A0s,B0D] at hk ⊢
      by_cases JU:i=k
      ·subst JU;rw[ho] at eE;cases eE;have:=hia e he hb;simp only[A0s] at this;split
       ·rename_i hh;simp[show i<listed.size by omega]
       ·exact this
      ·rw[A0B JU] at hk;have:=dU k ok (by simpa[dI,A0s] using hk) eE e he hb;simp only[dI,A0s] at this;split
       ·simp[show i<listed.size by omega]
       ·exact this
     have C8:=ih f rfl;unfold wpOpIn at h2 ⊢;rw[ahF i hlt,ho] at h2;rw[ho];simp only at h2 ⊢;have xy:Region.wanted o (yielded ops.pop a.tmps)=Region.wanted o (yielded ops a.tmps):=by
      unfold Region.wanted;cases hg:o.guard with
      | none=>rfl
      | some g=>
       obtain⟨j,b⟩:=g;simp only;rw[Ig ((lE i o ho).1 hlt j b hg)]
     rw[xy] at h2;have fin:∀a' w',wpAnyIn F n P .any ops.pop (fun e a w=>match e with | .normal=>wpOpIn F n P ops Q (ops.size-1) (Q .normal) a w | e=>Q e a w) f (listed.setIfInBounds i true) a' w'→wpAnyIn F n P .any ops Q (f+1) ((listed.push false).setIfInBounds i true) a' w':=by intro a' w' h3;rw[gT];exact C8 _ a' w' (by simp[hs]) acH h3
     split
     ·rename_i hw;rw[A0z hw] at h2;exact Oper.wpIn_mono fin (Oper.Lt (fun _ _ _ h=>h) (fun _ _ h=>h) h2)
     ·rename_i hw;rw[A0B hw] at h2;exact⟨h2.1,fin _ _ h2.2⟩
   ·obtain rfl:i=ops.size-1:=by omega
    have hia:∀e,e∈o.after→Region.binds .any e=true→dI listed e.on=true:=fun e he hb=>by have h2:=ha e he hb;have h3:=(lE _ o ho).2 e he hb;rwa [jh listed e.on hs h3] at h2
    have lH:∀j,j<ops.size-1→dI listed j=true:=fun j hj=>vr dU ho hia (Db j hj);have ng:Region.ready .any ops.pop listed=[]:=by
     cases hr:Region.ready .any ops.pop listed with
     | nil=>rfl
     | cons j l=>
      have iK:j∈Region.ready .any ops.pop listed:=by rw[hr];simp
      obtain⟨h3,o',C7,_⟩:=D0Q.1 iK;have hj:j<ops.size-1:=by simpa using(A0l.1 C7).1
      rw[RH j hj] at h3;have:=lH j hj;simp only[dI] at this;rw[this] at h3;cases h3
    have hq:wpOpIn F n P ops Q (ops.size-1) (Q .normal) a w:=by
     cases fuel with
     | zero=>exact h.2
     | succ f=>exact h.1 ng
    refine wpOpIn_mono (fun a' w' HY=>?_) hq;have U4:Region.ready .any ops ((listed.push false).setIfInBounds (ops.size-1) true)=[]:=by
     cases hr:Region.ready .any ops ((listed.push false).setIfInBounds (ops.size-1) true) with
     | nil=>rfl
     | cons j l=>
      have iK:j∈Region.ready .any ops ((listed.push false).setIfInBounds (ops.size-1) true):=by rw[hr];simp
      obtain⟨h3,o',C7,_⟩:=D0Q.1 iK;have hj:j<ops.size:=(A0l.1 C7).1;simp only[A0s,B0D] at h3;split at h3
      ·simp[hs] at h3
      ·rename_i bQ;have EE:j<ops.size-1:=by omega
       have:=lH j EE;have h4:=jh listed j hs EE true;simp only[A0s] at h4;rw[h4] at h3;simp only[dI,A0s] at this;rw[this] at h3;cases h3
    cases fuel with
    | zero=>exact⟨U4,HY⟩
    | succ f=>exact⟨fun _=>HY,fun j hj=>by rw[U4] at hj;cases hj⟩
 have RH:∀(listed:Array Bool) (j:Nat),listed.size=ops.size-1→j<ops.size-1→listed.getD j true=listed.getD j false:=fun listed j hs hj=>by simp only[A0s];simp[show j<listed.size by omega]
 intro fuel
 induction fuel with
 | zero=>
  intro listed a w hs dU h;exact step 0 listed a w hs dU h fun f hf=>by omega
 | succ fuel ih=>
  intro listed a w hs dU h;exact step (fuel+1) listed a w hs dU h fun f hf=>by
   obtain rfl:f=fuel:=by omega
   exact ih
end
end
end
section
noncomputable section
def E.upto (n:Nat):E→Bool
 | .sym k=>decide (k<n)
 | .const _ | .nil | .ai=>true
 | .bin _ _ a b | .idx a b | .cons a b | .app _ _ a b | .bz a b | .b_ _ a b | .guard a _ b | .aa a b | .mm _ a b | .ax _ a b | .ld _ _ a b | .fO _ _ a b | .cE _ _ a b | .cR a b=>a.upto n&&b.upto n
 | .un _ a | .conv _ a | .bI a | .gy a | .aV a | .cell _ a | .cells _ _ a | .bE _ a | .av _ a | .rep _ a _ | .deref a | .iW _ a | .cw a | .aj _ a | .nn a | .aJ a=>a.upto n
 | .sub _ a b c | .ite a b c | .eL _ a b c | .gM _ _ _ a b c | .apps a b c=>a.upto n&&b.upto n&&c.upto n
 | .set a b _ c=>a.upto n&&b.upto n&&c.upto n
 | .m4 _ a b c d=>a.upto n&&b.upto n&&c.upto n&&d.upto n
theorem E.lZ {n : Nat} {env env' : List D} (h : ∀ k, k < n → env[k]? = env'[k]?) : ∀ {x : E}, x.upto n = true → x.eval env = x.eval env' := by
  intro x
  induction x <;> intro hb <;> simp only [E.upto, A0f, A0t] at hb <;> simp only [E.eval]
  case sym k => exact h k hb
  all_goals first
    | rfl
    | (rename_i ih; rw [ih hb])
    | (rename_i i1 i2; rw [i1 hb.1, i2 hb.2])
    | (rename_i i1 i2 i3; rw [i1 hb.1.1, i2 hb.1.2, i3 hb.2])
    | (rename_i i1 i2 i3 i4; rw [i1 hb.1.1.1, i2 hb.1.1.2, i3 hb.1.2, i4 hb.2])
mutual
def SV.upto (n:Nat):SV→Bool
 | .cz | .addr _ _ | .mE _=>true
 | .e x _ | .ax _ x _ _ | .ij x _ | .own x _=>x.upto n
 | .agg cs | .a_ cs=>SV.oP n cs
 | .func _ cs=>SV.oP n cs
 | .cond act sv=>act.all (fun p=>p.1.upto n)&&sv.upto n
def SV.oP (n:Nat):List SV→Bool
 | []=>true
 | s :: r=>s.upto n&&SV.oP n r
end
theorem SV.oO {n:Nat}:∀{cs:List SV} {i:Nat} {c:SV},SV.oP n cs=true→cs[i]? = some c→c.upto n=true
 | [],i,c,_,h=>by simp at h
 | s :: r,0,c,h,hi=>by simp[SV.oP] at h hi;exact hi ▸ h.1
 | s :: r,i+1,c,h,hi=>by simp[SV.oP] at h hi;exact SV.oO h.2 hi
theorem cS.cut {w:World}{ρ:dD}{n:Nat}{env env':List D}{v:Value}{sv:SV}(h:cS w ρ env v sv)(he:∀k,k<n→env[k]? = env'[k]?)(hb:sv.upto n=true):cS w ρ env' v sv:=by
 induction h with
 | cz=>exact .cz
 | e hx h h1=>exact .e ((E.lZ he (by simpa[SV.upto] using hb)) ▸ hx) h h1
 | agg hl ho _ ih=>exact .agg hl ho fun i v c hv hc=>ih i v c hv hc (SV.oO (by simpa[SV.upto] using hb) hc)
 | a_ hl _ ih=>exact .a_ hl fun i v c hv hc=>ih i v c hv hc (SV.oO (by simpa[SV.upto] using hb) hc)
 | addr=>exact .addr
 | ax hx=>exact .ax ((E.lZ he (by simpa[SV.upto] using hb)) ▸ hx)
 | ij hx h=>exact .ij ((E.lZ he (by simpa[SV.upto] using hb)) ▸ hx) h
 | own hx h hv=>exact .own ((E.lZ he (by simpa[SV.upto] using hb)) ▸ hx) h hv
 | mE=>exact .mE
 | func hl _ ih=>exact .func hl fun i v c hv hc=>ih i v c hv hc (SV.oO (by simpa[SV.upto] using hb) hc)
 | @cond v act sv hd _ hn ih=>
  simp only[SV.upto,A0f,A0C] at hb;have bX:∀p,p∈act→p.1.eval env=p.1.eval env':=fun p hp=>E.lZ he (hb.1 p hp);have jj:bq env act↔bq env' act:=⟨fun h p hp=>(bX p hp) ▸ h p hp,fun h p hp=>(bX p hp).symm ▸ h p hp⟩;exact .cond (fun p hp=>let ⟨d,h⟩:=hd p hp;⟨d,(bX p hp) ▸ h⟩) (fun ha=>ih (jj.2 ha) hb.2) fun ha=>hn fun h=>ha (jj.1 h)
def Fv (base n:Nat):E→Bool
 | .sym k=>decide (k=base+n)
 | _=>false
mutual
def gE (base:Nat):SV→SV→List E→Option (List E)
 | .cz,_,acc=>some acc
 | .e x s,sv,acc=>
  if Fv base acc.length x then(match s,sv with
   | true,.e y true=>some (acc++[y])
   | true,.own y _=>some (acc++[y])
   | false,sv=>sv.toE.map fun y=>acc++[y]
   | _,_=>none)
  else if(SV.e x s).same sv&&x.upto base then some acc else none
 | .own x k,sv,acc=>
  if Fv base acc.length x then(match sv with
   | .own y k'=>if k=k' then some (acc++[y]) else none
   | _=>none)
  else if(SV.own x k).same sv&&x.upto base then some acc else none
 | .agg ts,sv,acc=>match sv with
  | .agg cs=>jr base ts cs acc
  | _=>none
 | .a_ ts,sv,acc=>if(SV.a_ ts).same sv&&SV.oP base ts then some acc else none
 | .addr o f,sv,acc=>if(SV.addr o f).same sv then some acc else none
 | .ax o x s f,sv,acc=>if(SV.ax o x s f).same sv&&x.upto base then some acc else none
 | .ij x f,sv,acc=>if(SV.ij x f).same sv&&x.upto base then some acc else none
 | .mE o,sv,acc=>if(SV.mE o).same sv then some acc else none
 | .func fn ts,sv,acc=>if(SV.func fn ts).same sv&&SV.oP base ts then some acc else none
 | .cond _ _,_,_=>none
def jr (base:Nat):List SV→List SV→List E→Option (List E)
 | [],[],acc=>some acc
 | t :: ts,s :: ss,acc=>(gE base t s acc).bind fun acc=>jr base ts ss acc
 | _,_,_=>none
end
def qb (base:Nat):aY→aY→List E→Option (List E)
 | .box ts,.box cs,acc=>jr base ts cs acc
 | .row x sz,.row y yG,acc=>if sz=yG then(if Fv base acc.length x then some (acc++[y]) else if x.same y&&x.upto base then some acc else none) else none
 | .tok e sz,.tok e' yG,acc=>if e=e'∧sz=yG then some acc else none
 | .store cf x,.store zF y,acc=>if cf=zF then(if Fv base acc.length x then some (acc++[y]) else if x.same y&&x.upto base then some acc else none) else none
 | _,_,_=>none
def fJ (base:Nat):List (Option aY)→List (Option aY)→List E→Option (List E)
 | [],[],acc=>some acc
 | none :: ts,_ :: ss,acc=>fJ base ts ss acc
 | some t :: ts,some s :: ss,acc=>(qb base t s acc).bind fun acc=>fJ base ts ss acc
 | _,_,_=>none
def GN (base:Nat):Option aY→Option aY→List E→Option (List E)
 | none,_,acc=>some acc
 | some t,some s,acc=>qb base t s acc
 | _,_,_=>none
def Mc (base:Nat)(tm σ:ah):Option (List E):=if br<tm.mem.length then none else
 (jr base tm.tmps σ.tmps []).bind fun acc=>(fJ base tm.mem σ.mem acc).bind fun acc=>GN base tm.hs σ.hs acc
section
variable {w w0:World} {X:jN} {a:Act} {env:List D} {ρ:dD}
theorem oq:∀{l m:List E} {ds:List D},aA env (l++m)=some ds→∃d1 d2,aA env l=some d1∧aA env m=some d2∧ds=d1++d2
 | [],m,ds,h=>⟨[],ds,rfl,h,rfl⟩
 | x :: r,m,ds,h=>by simp only[A0i,aA,A0b,A0a] at h;obtain⟨d,h1,kL,h2,rfl⟩:=h;obtain⟨d1,d2,h3,h4,rfl⟩:=oq h2;exact⟨d :: d1,d2,by simp[aA,h1,h3],h4,rfl⟩
theorem tA:∀{l:List E} {ds:List D},aA env l=some ds→ds.length=l.length
 | [],ds,h=>by simp[aA] at h;simp[←h]
 | x :: r,ds,h=>by simp only[aA,A0b,A0a] at h;obtain⟨d,_,kL,h2,rfl⟩:=h;simp[tA h2]
abbrev lB (env:List D)(base:Nat)(ds:List D):List D:=env.take base++ds
theorem vQ {base:Nat}{ds:List D}(hb:base≤env.length):∀k,k<base→env[k]? = (lB env base ds)[k]?:=by intro k hk;rw[A0g (by simp;omega),A0H,A0z hk]
theorem p8 {base:Nat}{acc yd:List E}{y x:E}{ds:List D}(hb:base≤env.length)(hx:Fv base acc.length x=true)(hp:acc++[y] <+: yd)(hd:aA env yd=some ds):x.eval (lB env base ds)=y.eval env:=by
 obtain⟨r,rfl⟩:=hp;obtain⟨d1,d2,h1,_,rfl⟩:=oq hd;obtain⟨d3,d4,h3,h4,rfl⟩:=oq h1;simp only[aA,A0b,A0y,A0x] at h4;obtain⟨d,hy,rfl⟩:=h4;unfold Fv at hx;split at hx
 ·simp only[A0t] at hx;subst hx;have hl:=tA h3;simp only[E.eval,lB,hy];rw[A0o (by simp;omega)];simp only[B0g,Nat.min_eq_left hb,E0o,A0A];rw[←hl];simp
 ·cases hx
theorem iB {α:Type}(a b:List α):a <+: a++b:=⟨b,rfl⟩
mutual
theorem I9 {base:Nat}:∀{t sv:SV} {acc fL:List E},gE base t sv acc=some fL→acc <+: fL
 | .cz,sv,acc,fL,h=>by simp[gE] at h;subst h;exact⟨[],by simp⟩
 | .e x s,sv,acc,fL,h=>by
  simp only[gE] at h;split at h
  ·split at h
   ·cases h;exact iB _ _
   ·cases h;exact iB _ _
   ·obtain⟨y,_,rfl⟩:=A0a.1 h;exact iB _ _
   ·cases h
  ·split at h
   ·cases h;exact⟨[],by simp⟩
   ·cases h
 | .own x k,sv,acc,fL,h=>by
  simp only[gE] at h;split at h
  ·split at h
   ·split at h
    ·cases h;exact iB _ _
    ·cases h
   ·cases h
  ·split at h
   ·cases h;exact⟨[],by simp⟩
   ·cases h
 | .agg ts,sv,acc,fL,h=>by
  simp only[gE] at h;split at h
  ·exact mZ h
  ·cases h
 | .a_ ts,sv,acc,fL,h | .addr _ _,sv,acc,fL,h | .ax _ _ _ _,sv,acc,fL,h | .ij _ _,sv,acc,fL,h | .mE _,sv,acc,fL,h | .func _ _,sv,acc,fL,h=>by
  simp only[gE] at h;split at h
  ·cases h;exact⟨[],by simp⟩
  ·cases h
 | .cond _ _,sv,acc,fL,h=>by simp[gE] at h
theorem mZ {base:Nat}:∀{ts ss:List SV} {acc fL:List E},jr base ts ss acc=some fL→acc <+: fL
 | [],[],acc,fL,h=>by simp[jr] at h;subst h;exact⟨[],by simp⟩
 | t :: ts,s :: ss,acc,fL,h=>by simp only[jr,A0b] at h;obtain⟨HR,h1,h2⟩:=h;exact(I9 h1).trans (mZ h2)
 | [],_ :: _,_,_,h | _ :: _,[],_,_,h=>by simp[jr] at h
end
theorem cS.oU {base:Nat}{ds:List D}{t sv:SV}{v:Value}(hb:base≤env.length)(h:t.same sv=true)(hu:t.upto base=true)(hr:cS w ρ env v sv):cS w ρ (lB env base ds) v t:=by have e:=SV.cL h;subst e;exact hr.cut (vQ hb) hu
mutual
theorem Mb {base:Nat}{yd:List E}{ds:List D}(hb:base≤env.length)(hd:aA env yd=some ds):∀{t sv:SV} {acc fL:List E} {v:Value},gE base t sv acc=some fL→fL <+: yd→cS w ρ env v sv→cS w ρ (lB env base ds) v t
 | .cz,sv,acc,fL,v,h,hp,hr=>.cz
 | .e x s,sv,acc,fL,v,h,hp,hr=>by
  simp only[gE] at h;split at h
  ·rename_i hx;split at h
   ·cases h;obtain⟨d,fo,bO,h1⟩:=hr.jL;exact .e ((p8 hb hx hp hd).trans fo) bO h1
   ·cases h;obtain⟨es,fo,bO,_⟩:=hr.wO;exact .e ((p8 hb hx hp hd).trans fo) bO fun _=>rfl
   ·obtain⟨y,hy,rfl⟩:=A0a.1 h;obtain⟨d,fo,bO⟩:=SV.toE_rd hy hr;exact .e ((p8 hb hx hp hd).trans fo) bO (by simp)
   ·cases h
  ·split at h
   ·rename_i hc;simp only[A0f] at hc;exact hr.oU hb hc.1 (by simpa[SV.upto] using hc.2)
   ·cases h
 | .own x k,sv,acc,fL,v,h,hp,hr=>by
  simp only[gE] at h;split at h
  ·rename_i hx;split at h
   ·split at h
    ·rename_i hk;cases h;subst hk;obtain⟨es,fo,bO,h1⟩:=hr.wO;exact .own ((p8 hb hx hp hd).trans fo) bO h1
    ·cases h
   ·cases h
  ·split at h
   ·rename_i hc;simp only[A0f] at hc;exact hr.oU hb hc.1 (by simpa[SV.upto] using hc.2)
   ·cases h
 | .agg ts,sv,acc,fL,v,h,hp,hr=>by
  simp only[gE] at h;split at h
  ·obtain⟨vs,rfl,hl,ho,hh⟩:=hr.kq;obtain⟨hlen,ji⟩:=o9 (vs:=vs.toList) hb hd h hp (by simpa using hl) (fun i v c hv hc=>hh i v c (by simpa using hv) hc);exact .agg (by rw[hl,hlen]) ho fun i v c hv hc=>ji i v c (by simpa using hv) hc
  ·cases h
 | .a_ ts,sv,acc,fL,v,h,hp,hr=>by
  simp only[gE] at h;split at h
  ·rename_i hc;simp only[A0f] at hc;exact hr.oU hb hc.1 (by simpa[SV.upto] using hc.2)
  ·cases h
 | .addr o f,sv,acc,fL,v,h,hp,hr=>by
  simp only[gE] at h;split at h
  ·rename_i hc;exact hr.oU hb hc (by simp[SV.upto])
  ·cases h
 | .ax o x s f,sv,acc,fL,v,h,hp,hr=>by
  simp only[gE] at h;split at h
  ·rename_i hc;simp only[A0f] at hc;exact hr.oU hb hc.1 (by simpa[SV.upto] using hc.2)
  ·cases h
 | .ij x f,sv,acc,fL,v,h,hp,hr=>by
  simp only[gE] at h;split at h
  ·rename_i hc;simp only[A0f] at hc;exact hr.oU hb hc.1 (by simpa[SV.upto] using hc.2)
  ·cases h
 | .mE o,sv,acc,fL,v,h,hp,hr=>by
  simp only[gE] at h;split at h
  ·rename_i hc;exact hr.oU hb hc (by simp[SV.upto])
  ·cases h
 | .func fn ts,sv,acc,fL,v,h,hp,hr=>by
  simp only[gE] at h;split at h
  ·rename_i hc;simp only[A0f] at hc;exact hr.oU hb hc.1 (by simpa[SV.upto] using hc.2)
  ·cases h
 | .cond _ _,sv,acc,fL,v,h,hp,hr=>by simp[gE] at h
theorem o9 {base:Nat}{yd:List E}{ds:List D}(hb:base≤env.length)(hd:aA env yd=some ds):∀{ts ss:List SV} {acc fL:List E} {vs:List Value},jr base ts ss acc=some fL→fL <+: yd→vs.length=ss.length →
  (∀(i:Nat) (v:Value) (c:SV),vs[i]? = some v→ss[i]? = some c→cS w ρ env v c)→ss.length=ts.length∧∀(i:Nat) (v:Value) (c:SV),vs[i]? = some v→ts[i]? = some c→cS w ρ (lB env base ds) v c
 | [],[],acc,fL,vs,h,hp,hl,hh=>⟨rfl,by simp⟩
 | t :: ts,s :: ss,acc,fL,vs,h,hp,hl,hh=>by
  match vs,hl with
  | v :: vs,hl=>
   simp only[jr,A0b] at h;obtain⟨HR,h1,h2⟩:=h;have hr:=Mb hb hd h1 ((mZ h2).trans hp) (hh 0 v s rfl rfl);obtain⟨hlen,ji⟩:=o9 (vs:=vs) hb hd h2 hp (by simpa using hl) (fun i v c hv hc=>hh (i+1) v c (by simpa using hv) (by simpa using hc));refine⟨by simp[hlen],fun i v' c hv hc=>?_⟩;cases i with
   | zero=>simp at hv hc;subst hv hc;exact hr
   | succ i=>exact ji i v' c (by simpa using hv) (by simpa using hc)
 | [],_ :: _,_,_,_,h,_,_,_ | _ :: _,[],_,_,_,h,_,_,_=>by simp[jr] at h
end
theorem wY {base:Nat}{t s:aY}{acc HR:List E}(h1:qb base t s acc=some HR):acc <+: HR:=by
 unfold qb at h1;split at h1
 ·exact mZ h1
 ·split at h1
  ·split at h1
   ·cases h1;exact iB _ _
   ·split at h1
    ·cases h1;exact⟨[],by simp⟩
    ·cases h1
  ·cases h1
 ·split at h1
  ·cases h1;exact⟨[],by simp⟩
  ·cases h1
 ·split at h1
  ·split at h1
   ·cases h1;exact iB _ _
   ·split at h1
    ·cases h1;exact⟨[],by simp⟩
    ·cases h1
  ·cases h1
 ·cases h1
theorem Cx {base:Nat}{t s:Option aY}{acc HR:List E}(h1:GN base t s acc=some HR):acc <+: HR:=by
 unfold GN at h1;split at h1
 ·cases h1;exact⟨[],by simp⟩
 ·exact wY h1
 ·cases h1
theorem m_ {base:Nat}:∀{ts ss:List (Option aY)} {acc fL:List E},fJ base ts ss acc=some fL→acc <+: fL
 | [],[],acc,fL,h=>by simp[fJ] at h;subst h;exact⟨[],by simp⟩
 | none :: ts,_ :: ss,acc,fL,h=>by simp only[fJ] at h;exact m_ h
 | some t :: ts,some s :: ss,acc,fL,h=>by simp only[fJ,A0b] at h;obtain⟨HR,h1,h2⟩:=h;exact List.IsPrefix.trans (wY h1) (m_ h2)
 | some _ :: _,none :: _,_,_,h | [],_ :: _,_,_,h | some _ :: _,[],_,_,h | none :: _,[],_,_,h=>by simp[fJ] at h
theorem z6 {base o:Nat}{yd:List E}{ds:List D}(hb:base≤env.length)(hd:aA env yd=some ds){t s:aY}{acc fL:List E}(h:qb base t s acc=some fL)(hp:fL <+: yd)(eE:gP w ρ env o s) :
  gP w ρ (lB env base ds) o t∧bN ρ o t=bN ρ o s∧t.ro=s.ro:=by
 unfold qb at h;split at h
 ·obtain⟨vs,ty,h1,h2,h3,h4,h5⟩:=eE;obtain⟨hlen,ji⟩:=o9 (w:=w) (ρ:=ρ) (vs:=vs.toList) hb hd h hp (by simpa using h2) (fun i v c hv hc=>h4 i v c (by simpa using hv) hc);exact⟨⟨vs,ty,h1,by omega,h3,fun i v c hv hc=>ji i v c (by simpa using hv) hc,h5⟩,rfl,rfl⟩
 ·obtain⟨vs,ty,es,h1,h2,h3⟩:=eE;split at h
  ·rename_i bV;subst bV;split at h
   ·rename_i hx;cases h;exact⟨⟨vs,ty,es,h1,(p8 hb hx hp hd).trans h2,h3⟩,rfl,rfl⟩
   ·split at h
    ·rename_i hc;simp only[A0f] at hc;cases h;have e:=E.cL hc.1;subst e;exact⟨⟨vs,ty,es,h1,(E.lZ (vQ hb) hc.2) ▸ h2,h3⟩,rfl,rfl⟩
    ·cases h
  ·cases h
 ·split at h
  ·rename_i hc;obtain⟨rfl,rfl⟩:=hc;exact⟨eE,rfl,rfl⟩
  ·cases h
 ·obtain⟨bs,h2,h3⟩:=eE;split at h
  ·rename_i bV;subst bV;split at h
   ·rename_i hx;cases h;exact⟨⟨bs,(p8 hb hx hp hd).trans h2,h3⟩,rfl,rfl⟩
   ·split at h
    ·rename_i hc;simp only[A0f] at hc;cases h;have e:=E.cL hc.1;subst e;exact⟨⟨bs,(E.lZ (vQ hb) hc.2) ▸ h2,h3⟩,rfl,rfl⟩
    ·cases h
  ·cases h
 ·cases h
theorem sV {base:Nat}{yd:List E}{ds:List D}(hb:base≤env.length)(hd:aA env yd=some ds):∀{ts ss:List (Option aY)} {acc fL:List E} {k:Nat},fJ base ts ss acc=some fL→fL <+: yd →
  (∀i s,ss[i]? = some (some s)→gP w ρ env (k+i) s)→ss.length=ts.length∧∀i t,ts[i]? = some (some t)→∃s,ss[i]? = some (some s)∧gP w ρ (lB env base ds) (k+i) t∧bN ρ (k+i) t=bN ρ (k+i) s∧t.ro=s.ro
 | [],[],acc,fL,k,h,hp,eE=>⟨rfl,by simp⟩
 | none :: ts,s :: ss,acc,fL,k,h,hp,eE=>by
  simp only[fJ] at h;obtain⟨hl,ji⟩:=sV (k:=k+1) hb hd h hp fun i s' hs=>by have:=eE (i+1) s' (by simpa using hs);rwa [show k+(i+1)=k+1+i from by omega] at this
  refine⟨by simp[hl],fun i t ht=>?_⟩;cases i with
  | zero=>simp at ht
  | succ i=>
   obtain⟨s',h1,h2⟩:=ji i t (by simpa using ht);rw[show k+(i+1)=k+1+i from by omega];exact⟨s',by simpa using h1,h2⟩
 | some t :: ts,some s :: ss,acc,fL,k,h,hp,eE=>by
  simp only[fJ,A0b] at h;obtain⟨HR,h1,h2⟩:=h;have h0:=z6 (w:=w) (ρ:=ρ) (o:=k) hb hd h1 ((m_ h2).trans hp) (by simpa using eE 0 s rfl);obtain⟨hl,ji⟩:=sV (k:=k+1) hb hd h2 hp fun i s' hs=>by have:=eE (i+1) s' (by simpa using hs);rwa [show k+(i+1)=k+1+i from by omega] at this
  refine⟨by simp[hl],fun i t' ht=>?_⟩;cases i with
  | zero=>simp at ht;subst ht;exact⟨s,rfl,h0⟩
  | succ i=>
   obtain⟨s',h3,h4⟩:=ji i t' (by simpa using ht);rw[show k+(i+1)=k+1+i from by omega];exact⟨s',by simpa using h3,h4⟩
 | some _ :: _,none :: _,_,_,_,h,_,_ | [],_ :: _,_,_,_,h,_,_ | some _ :: _,[],_,_,_,h,_,_ | none :: _,[],_,_,_,h,_,_=>by simp[fJ] at h
theorem Ma {base:Nat}{tm σ:ah}{args:List E}{ds:List D}(h:aF w0 X w a σ env ρ)(hb:base≤env.length)(hm:Mc base tm σ=some args)(hd:aA env args=some ds):aF w0 X w a tm (lB env base ds) ρ∧σ.tmps.length=tm.tmps.length∧σ.mem.length=tm.mem.length:=by
 unfold Mc at hm;split at hm
 ·cases hm
 rename_i hlen;simp only[A0b] at hm;obtain⟨acc,h1,ayQ,h2,U7⟩:=hm;have bV:=h.size;obtain⟨WC,aim⟩:=o9 (w:=w) (ρ:=ρ) (vs:=a.tmps.toList) hb hd h1 ((m_ h2).trans (Cx U7)) (by simpa using bV) (fun i v c hv hc=>by
  have:=h.tmps i;rw[show σ.tmp i=c by simp[ah.gD,hc]] at this;rwa [show a.tmps.getD i undef=v by simpa using B0q (·.getD undef) hv] at this)
 have as2:σ.mem.length=tm.mem.length:=by
  have go:∀{ts ss:List (Option aY)} {acc fL:List E},fJ base ts ss acc=some fL→ss.length=ts.length:=by
   intro ts
   induction ts with
   | nil=>intro ss acc fL h;cases ss with | nil=>rfl | cons _ _=>simp[fJ] at h
   | cons t ts ih=>
    intro ss acc fL h;cases ss with
    | nil=>cases t <;> simp[fJ] at h
    | cons s ss=>
     cases t with
     | none=>simp only[fJ] at h;simp[ih h]
     | some t=>
      cases s with
      | none=>simp[fJ] at h
      | some s=>
       simp only[fJ,A0b] at h;obtain⟨_,_,h⟩:=h;simp[ih h]
  exact go h2
 obtain⟨uf,J5⟩:=sV (w:=w) (ρ:=ρ) (k:=0) hb hd h2 (Cx U7) (fun i s hs=>by
  rw[A0Q];have hi:=(A0c.1 hs).1;refine h.cT i s ?_;simp only[ah.ey];rw[A0B (by omega)];simp[hs])
 have fC:∀o x,tm.obj o=some x→∃s,σ.obj o=some s∧gP w ρ (lB env base ds) o x∧bN ρ o x=bN ρ o s∧x.ro=s.ro:=by
  intro o x hx;simp only[ah.ey] at hx;split at hx
  ·rename_i ho;subst ho;rw[hx] at U7;unfold GN at U7;split at U7
   ·rename_i e;cases e
   ·rename_i t s e hs;cases e;have hso:σ.obj br=some s:=by rw[ah.ey,A0z rfl];exact hs
    exact⟨s,hso,z6 hb hd U7 ⟨[],by simp⟩ (h.cT br s hso)⟩
   ·cases U7
  ·rename_i ho;have fm:tm.mem[o]? = some (some x):=by
    simp only[A0k] at hx;cases Ud:tm.mem[o]? with
    | none=>rw[Ud] at hx;cases hx
    | some y=>rw[Ud] at hx;simp at hx;rw[hx]
   obtain⟨s,h3,h4,h5⟩:=J5 o x fm;rw[A0Q] at h4 h5;refine⟨s,?_,h4,h5⟩;simp only[ah.ey];rw[A0B ho];simp[h3]
 refine⟨⟨by omega,fun t=>?_,fun o x hx=>(fC o x hx).choose_spec.2.1,?_,?_,h.cells,h.os,h.tape,h.output,h.grown,h.old,h.sub,h.new,h.yo,h.hold⟩,WC,uf⟩
 ·simp only[ah.gD];rw[A0k];cases ht:tm.tmps[t]? with
  | none=>exact .cz
  | some c=>
   have htl:t<a.tmps.size:=by have:=(A0c.1 ht).1;omega
   refine aim t _ c ?_ ht;simp only[B0c];exact Dn htl
 ·intro o o' x x' b h3 h4 h5 h6;obtain⟨s,hs,_,e,_⟩:=fC o x h3;obtain⟨s',Ae,_,e',_⟩:=fC o' x' h4;exact h.inj o o' s s' b hs Ae (e ▸ h5) (e' ▸ h6)
 ·intro o x b h3 h4;obtain⟨s,hs,_,e,er⟩:=fC o x h3;rw[er];exact h.own o s b hs (e ▸ h4)
end
end
end
section
noncomputable section
mutual
def SV.yj (k' k:Nat):SV→SV
 | .own x o=>if o=k' then .own x k else .own x o
 | .agg cs=>.agg (SV.uA k' k cs)
 | .a_ cs=>.a_ (SV.uA k' k cs)
 | .func fn cs=>.func fn (SV.uA k' k cs)
 | .cond act sv=>.cond act (sv.yj k' k)
 | .cz=>.cz
 | .e x s=>.e x s
 | .ij x f=>.ij x f
 | .addr o f=>.addr o f
 | .ax o x s f=>.ax o x s f
 | .mE o=>.mE o
def SV.uA (k' k:Nat):List SV→List SV
 | []=>[]
 | s :: r=>s.yj k' k :: SV.uA k' k r
end
theorem SV.sN {k' k:Nat}:∀{cs:List SV} {i:Nat} {c:SV},(SV.uA k' k cs)[i]? = some c→∃c',cs[i]? = some c'∧c=c'.yj k' k
 | [],i,c,h=>by simp[SV.uA] at h
 | s :: r,0,c,h=>by simp[SV.uA] at h;exact⟨s,rfl,h.symm⟩
 | s :: r,i+1,c,h=>by simp[SV.uA] at h;obtain⟨c',h1,h2⟩:=SV.sN h;exact⟨c',by simpa using h1,h2⟩
theorem SV.jo {k' k:Nat}:∀(cs:List SV),(SV.uA k' k cs).length=cs.length
 | []=>rfl
 | _ :: r=>by simp[SV.uA,SV.jo r]
def dD.iz (ρ:dD)(k' k:Nat):dD:={ ρ with val:=fun x=>if x=k then ρ.val k' else ρ.val x }
theorem cS.yj {w:World}{ρ:dD}{env:List D}{v:Value}{sv:SV}{k' k:Nat}(h:cS w ρ env v sv)(ha:sv.aM k=true):cS w (ρ.iz k' k) env v (sv.yj k' k):=by
 induction h with
 | cz=>exact .cz
 | e hx h h1=>exact .e hx h h1
 | agg hl ho _ ih=>exact .agg (by rw[SV.jo];exact hl) ho fun i v c hv hc=>by obtain⟨c',h1,rfl⟩:=SV.sN hc;exact ih i v c' hv h1 (SV.eR (by simpa[SV.aM] using ha) h1)
 | a_ hl _ ih=>exact .a_ (by rw[SV.jo];exact hl) fun i v c hv hc=>by obtain⟨c',h1,rfl⟩:=SV.sN hc;exact ih i v c' hv h1 (SV.eR (by simpa[SV.aM] using ha) h1)
 | @addr o off=>
  have:(.pointer (some ⟨ρ.blk o,off,none⟩):Value)=.pointer (some ⟨(ρ.iz k' k).blk o,off,none⟩):=rfl;rw[this];exact .addr
 | @ax o size off n x kd hx=>
  have:(.pointer (some ⟨ρ.blk o,n*size+off,none⟩):Value)=.pointer (some ⟨(ρ.iz k' k).blk o,n*size+off,none⟩):=rfl;rw[this];exact .ax hx
 | ij hx h=>exact .ij hx h
 | @own v x o es hx h hv=>
  have bQ:o≠k:=by simpa[SV.aM] using ha
  simp only[SV.yj];split
  ·rename_i e;subst e;exact .own hx h (by simp[dD.iz,hv])
  ·exact .own hx h (by simp[dD.iz,bQ,hv])
 | @mE o=>
  have bQ:o≠k:=by simpa[SV.aM] using ha
  have:ρ.val o=(ρ.iz k' k).val o:=by simp[dD.iz,bQ]
  rw[this];exact .mE
 | func hl _ ih=>exact .func (by rw[SV.jo];exact hl) fun i v c hv hc=>by obtain⟨c',h1,rfl⟩:=SV.sN hc;exact ih i v c' hv h1 (SV.eR (by simpa[SV.aM] using ha) h1)
 | cond hd _ hn ih=>exact .cond hd (fun hh=>ih hh (by simpa[SV.aM] using ha)) hn
def aY.yj (k' k:Nat):aY→aY
 | .box cs=>.box (SV.uA k' k cs)
 | x=>x
def ah.yj (k' k:Nat)(σ:ah)(x:aY):ah:={ tmps:=SV.uA k' k σ.tmps,mem:=((σ.mem.map fun x=>x.map (aY.yj k' k)).set k' none).set k (some x),hs:=σ.hs.map (aY.yj k' k) }
def ah.iz (σ:ah)(k' k:Nat):ah:=
 if k'=k∨¬k<σ.mem.length∨k=br∨k'=br then σ else match(σ.down k).obj k' with
  | some (.tok e s)=>(σ.down k).yj k' k (.tok e s)
  | _=>σ
section
variable {w w0:World} {X:jN} {a:Act} {σ:ah} {env:List D} {ρ:dD}
theorem ah.A_ {k' k o:Nat}{x y:aY}(hk:k<σ.mem.length)(RG:k≠br)(QD:k'≠br)(h:(σ.yj k' k x).obj o=some y):(o=k∧y=x)∨(o≠k∧o≠k'∧∃z,σ.obj o=some z∧y=z.yj k' k):=by
 simp only[ah.ey,ah.yj] at h ⊢
 by_cases hH:o=br
 ·subst hH;simp only[B0d] at h;obtain⟨z,hz,rfl⟩:=A0a.1 h;exact .inr ⟨B0O RG,B0O QD,z,by simpa using hz,rfl⟩
 rw[A0B hH] at h;rw[A0B hH];simp only[A0k,A0N,B0L,A0w,B0u] at h ⊢
 by_cases h1:k=o
 ·subst h1;simp[hk] at h;exact .inl ⟨rfl,h.symm⟩
 ·rw[A0B h1] at h
  by_cases h2:k'=o
  ·rw[A0z h2] at h;split at h <;> simp at h
  ·rw[A0B h2] at h;refine .inr ⟨fun e=>h1 e.symm,fun e=>h2 e.symm,?_⟩;cases ho:σ.mem[o]? with
   | none=>rw[ho] at h;simp at h
   | some z=>
    rw[ho] at h;cases z with
    | none=>simp at h
    | some z=>simp at h;exact⟨z,rfl,h.symm⟩
theorem ah.Xe {k' k:Nat}{x:aY}(t:Nat):(σ.yj k' k x).tmp t=(σ.tmp t).yj k' k:=by
 have go:∀(l:List SV) (t:Nat),(SV.uA k' k l).getD t .cz=(l.getD t .cz).yj k' k:=by
  intro l
  induction l with
  | nil=>intro t;simp[SV.uA,SV.yj]
  | cons s r ih=>
   intro t;cases t with
   | zero=>simp[SV.uA]
   | succ t=>simpa[SV.uA] using ih t
 rw[ah.gD,ah.gD];exact go σ.tmps t
theorem aF.yj (h:aF w0 X w a σ env ρ){k' k:Nat}{e:TypeId}{s:Nat}(bQ:k'≠k)(hk:k<σ.mem.length)(RG:k≠br)(QD:k'≠br)(mU:σ.aM k)(ho:σ.obj k'=some (.tok e s)):aF w0 X w a (σ.yj k' k (.tok e s)) env (ρ.iz k' k):=by
 have hblk:∀(o:Nat) (z:aY),o≠k→bN (ρ.iz k' k) o (z.yj k' k)=bN ρ o z:=by
  intro o z eE
  funext b
  cases z <;> simp[bN,dD.iz,aY.yj,eE]
 have U0:bN (ρ.iz k' k) k (.tok e s)=bN ρ k' (.tok e s):=by funext b;simp[bN,dD.iz]
 refine⟨by simpa[ah.yj,SV.jo] using h.size,fun t=>by rw[ah.Xe];exact(h.tmps t).yj (mU.1 t),?_,?_,?_,h.cells,h.os,h.tape,h.output,h.grown,h.old,h.sub,h.new,h.yo,h.hold⟩
 ·intro o y hy;rcases ah.A_ hk RG QD hy with⟨rfl,rfl⟩ | ⟨h1,h2,z,hz,rfl⟩
  ·obtain⟨n,xs,h3,h4⟩:=h.cT k' _ ho;exact⟨n,xs,by simpa[dD.iz] using h3,by simpa[dD.iz] using h4⟩
  ·have eE:=h.cT o z hz;cases z with
   | box cs=>
    obtain⟨vs,ty,h3,h4,h5,h6,h7⟩:=eE;exact⟨vs,ty,h3,by rw[SV.jo];exact h4,h5,fun i v c hv hc=>by obtain⟨c',h8,rfl⟩:=SV.sN hc;exact(h6 i v c' hv h8).yj (SV.eR (by simpa[aY.aM] using mU.2 o _ hz) h8),h7⟩
   | row y sz=>
    obtain⟨vs,ty,es,h3,h4,h5,h6,h7,h8,h9⟩:=eE;exact⟨vs,ty,es,h3,h4,h5,h6,h7,by simpa[dD.iz,h1] using h8,h9⟩
   | tok e' sz=>
    obtain⟨n,xs,h3,h4⟩:=eE;exact⟨n,xs,by simpa[dD.iz,h1] using h3,by simpa[dD.iz,h1] using h4⟩
   | store cf x=>exact eE
 ·intro o o' y y' b h1 h2 h3 h4;rcases ah.A_ hk RG QD h1 with⟨rfl,rfl⟩ | ⟨e1,e2,z,hz,rfl⟩ <;> rcases ah.A_ hk RG QD h2 with⟨rfl,rfl⟩ | ⟨e3,e4,z',OK,rfl⟩
  ·rfl
  ·rw[U0] at h3;rw[hblk o' z' e3] at h4;exact absurd (h.inj k' o' _ z' b ho OK h3 h4).symm e4
  ·rw[U0] at h4;rw[hblk o z e1] at h3;exact absurd (h.inj o k' z _ b hz ho h3 h4) e2
  ·rw[hblk o z e1] at h3;rw[hblk o' z' e3] at h4;exact h.inj o o' z z' b hz OK h3 h4
 ·intro o y b h1 h2;rcases ah.A_ hk RG QD h1 with⟨rfl,rfl⟩ | ⟨e1,e2,z,hz,rfl⟩
  ·rw[U0] at h2;exact h.own k' _ b ho h2
  ·rw[hblk o z e1] at h2
   (have:=h.own o z b hz h2;cases z <;> simpa[aY.yj,aY.ro] using this)
theorem aF.iz (h:aF w0 X w a σ env ρ)(k' k:Nat):∃ρ',aF w0 X w a (σ.iz k' k) env ρ':=by
 unfold ah.iz;split
 ·exact⟨ρ,h⟩
 ·rename_i hc;simp only[E0G,D0k] at hc;split
  ·rename_i e s ho;exact⟨_,(h.down k).yj hc.1 (by rw[(σ.xV k).2];exact hc.2.1) hc.2.2.1 hc.2.2.2 (σ.jt k) ho⟩
  ·exact⟨ρ,h⟩
theorem ah.PV (σ:ah)(k' k:Nat):(σ.iz k' k).tmps.length=σ.tmps.length∧(σ.iz k' k).mem.length=σ.mem.length:=by
 unfold ah.iz;split
 ·exact⟨rfl,rfl⟩
 ·split
  ·simp[ah.yj,SV.jo,(σ.xV k).1,(σ.xV k).2]
  ·exact⟨rfl,rfl⟩
end
end
end
section
noncomputable section
def SV.ir (d:Nat)(sv:SV):SV:=
 match sv with
 | .cz=>.cz
 | .e x s=>.e x s
 | sv=>if sv.aM d then sv else .cz
theorem SV.nJ (d:Nat)(sv:SV):sv.ir d=if sv.aM d then sv else .cz:=by cases sv <;> first | rfl | simp[SV.ir,SV.aM]
def aY.ir (d:Nat):aY→aY
 | .box cs=>.box (cs.map (SV.ir d))
 | x=>x
def ah.ir (d:Nat)(σ:ah):ah:=if d=br then σ else { tmps:=PT (SV.ir d) σ.tmps,mem:=SG none (PT (fun x=>x.map (aY.ir d)) σ.mem) d,hs:=σ.hs.map (aY.ir d) }
theorem ah.nJ (d:Nat)(σ:ah):σ.ir d=if d=br then σ else { tmps:=σ.tmps.map (SV.ir d),mem:=(σ.mem.map fun x=>x.map (aY.ir d)).set d none,hs:=σ.hs.map (aY.ir d) }:=by unfold ah.ir;rw[A8,A6,A8]
def sites (ops:Array Oper):List Nat:=ops.toList.filterMap fun o=>if ga o then o.dst else none
def iA (ds:List Nat)(σ:ah):ah:=ds.foldl (fun σ d=>σ.ir d) σ
def ZD (σ:ah)(ops:Array Oper):Bool:=ops.all fun o=>match o.dst with | some d=>decide (d<σ.tmps.length) | none=>true
def nB (P:Program)(ops:Array Oper)(σ:ah)(u:Nat):Option (ah×List Bind):=
 match zA P ops ops.toList σ u with
 | some x=>if P.follows .mixedOrders=true then(if o7 ops x.2.2 σ=true then extras P ops x.2.2 σ else Bt P ops x.2.2 σ (u+x.2.1.length)).map fun xs=>(x.1,x.2.1++xs.map .ev) else none
 | none=>none
def Xo (P:Program)(ops:Array Oper)(σ:ah)(u:Nat):Bool:=
 match ops[ops.size-1]?,σ.hs with
 | some o,some (.store cf _)=>(match o.guard,o.op with
  | none,.call c=>(match c.callee with
   | .value f=>(match σ.zZ f with
    | .func (.func f) []=>cf.ee.contains f&&CN ops&&(nB P ops.pop σ u).isSome
    | _=>cf.ee.contains (1000000+o.dst.getD 999999)&&CN ops&&(nB P ops.pop σ u).isSome)
   | _=>false)
  | _,_=>false)
 | _,_=>false
def DB (P:Program)(ops:Array Oper)(σ:ah)(u:Nat):Option (ah×List Bind):=if Xo P ops σ u=true then none else nB P ops σ u
theorem EI {P:Program}{ops:Array Oper}{σ:ah}{u:Nat}{x:ah×List Bind}(h:DB P ops σ u=some x):nB P ops σ u=some x:=by
 unfold DB at h;split at h
 ·cases h
 ·exact h
def Gv (P:Program)(ops:Array Oper)(draw:Bool)(σ:ah)(u:Nat)(k:Pw):Option T:=
 let σ1:=iA (sites ops) σ
 if !ZD σ1 ops then none else
 if draw then
  match DB P ops σ1 u with
  | some x=>(k x.1 (u+x.2.length)).map (af x.2)
  | none=>if 0<ops.size∧CN ops=true then match ops[ops.size-1]?,nB P ops.pop σ1 u with
    | some o,some x=>(match Iw P o x.1 with
     | some s=>if pF x.1 o then(Gi s o x.1 (u+x.2.length) k).map (af x.2) else none
     | none=>none)
    | _,_=>none
   else none
 else IC P ops ops.toList σ1 u k
def SS (P:Program)(ops:Array Oper)(σ:ah):Bool:=
 match ops[ops.size-1]?,σ.hs with
 | some o,some (.store cf _)=>(match o.guard,o.op with
  | none,.call c=>(match c.callee with
   | .value f=>(match σ.zZ f with
    | .func (.func f) []=>cf.ee.contains f
    | _=>cf.ee.contains (1000000+o.dst.getD 999999))
   | _=>false)
  | _,_=>false)
 | _,_=>false
def Xf (P:Program)(ops:Array Oper)(draw:Bool)(σ:ah)(u:Nat):Option (Option (Nat×ah)):=
 let σ1:=iA (sites ops) σ
 if draw then
  match(if SS P ops σ1 then none else zA P ops ops.toList σ1 u) with
  | some x=>some (some (u+x.2.1.length,x.1))
  | none=>match ops[ops.size-1]?,zA P ops.pop ops.pop.toList σ1 u with
   | some o,some x=>wG P ops [o] x.1 (u+x.2.1.length)
   | _,_=>none
 else wG P ops ops.toList σ1 u
def wu (ts:List SV):List SV→List (Nat×Nat):=
 List.rec (motive:=fun _=>List SV→List (Nat×Nat)) (fun _=>[]) (fun t _ ih ss=>match ss with
  | []=>[]
  | x :: ss=>match t with
   | .own _ k=>(match x with
    | .own _ k'=>(k',k) :: ih ss
    | _=>ih ss)
   | _=>ih ss) ts
def sL (ps:List (Nat×Nat))(σ:ah):ah:=ps.foldl (fun σ p=>σ.iz p.1 p.2) σ
def iy (σ:ah):SV→SV
 | .own x k=>match σ.obj k with | some (.tok _ _)=>.own x k | _=>.e x true
 | sv=>sv
def ah.iy (σ:ah):ah:={ σ with tmps:=PT (Go.Am.iy σ) σ.tmps }
theorem ah.ve (σ:ah):σ.iy={ σ with tmps:=σ.tmps.map (Go.Am.iy σ) }:=by unfold ah.iy;rw[A8]
def Cw (base:Nat)(tm σ:ah):Option (List E):=Mc base tm (sL (wu tm.tmps σ.iy.tmps) σ.iy)
def TV:SV→Bool
 | .e _ true=>true
 | .own _ _=>true
 | _=>false
def ZC:SV→Option Nat
 | .own _ k=>some k
 | _=>none
def abF:SV→Bool
 | .cz=>true
 | _=>false
def acB (l:List (List SV)):List SV:=List.rec (motive:=fun _=>List SV) [] (fun x _ ih=>match x with
 | []=>ih
 | y :: _=>y :: ih) l
def afj (l:List SV):List SV:=
 match l with
 | []=>[]
 | _ :: r=>r
def Y9 (l:List SV):Bool:=List.rec (motive:=fun _=>Bool) false (fun x _ ih=>match x with
 | .cz=>true
 | _=>ih) l
def XE (base n:Nat)(rU:List SV):SV×Nat:=
 match rU with
 | []=>(.cz,n)
 | .cond _ _ :: _=>(.cz,n)
 | s :: r=>
  if abF s||Y9 r then(.cz,n)
  else if r.all (s.same ·)&&s.upto base then(s,n)
  else match ZC s with
   | some k=>if r.all (fun x=>(ZC x).isSome) then(.own (.sym (base+n)) k,n+1) else if r.all (fun x=>x.toE.isSome) then(.e (.sym (base+n)) (r.all TV),n+1) else(.cz,n)
   | none=>if(s :: r).all (fun x=>x.toE.isSome) then(.e (.sym (base+n)) ((s :: r).all TV),n+1) else(.cz,n)
def I6 (base:Nat)(l:List SV):List (List SV)→Nat→List SV×Nat:=
 List.rec (motive:=fun _=>List (List SV)→Nat→List SV×Nat) (fun _ n=>([],n)) (fun s _ ih others n=>
  match XE base n (s :: acB others) with
 |(m,n1)=>match ih (PT afj others) n1 with
  |(ms,n2)=>(m :: ms,n2)) l
def Pm:List (Option aY)→Option (List (List SV))
 | []=>some []
 | some (.box cs) :: r=>(Pm r).map (cs :: ·)
 | _=>none
def rowsOf (sz:Nat):List (Option aY)→Option (List E)
 | []=>some []
 | some (.row x yG) :: r=>if sz=yG then(rowsOf sz r).map (x :: ·) else none
 | _=>none
def Si (e sz:Nat):List (Option aY)→Bool
 | []=>true
 | some (.tok e' yG) :: r=>decide (e=e')&&decide (sz=yG)&&Si e sz r
 | _=>false
def I7 (base:Nat):List (Option aY)→List (List (Option aY))→Nat→List (Option aY)×Nat
 | [],_,n=>([],n)
 | x :: r,others,n=>
  let hs:=others.filterMap List.head?
  let (m,n1):Option aY×Nat:=match x with
   | some (.box cs)=>(match Pm hs with
    | some css=>let (ms,n1):=I6 base cs css n;(some (.box ms),n1)
    | none=>(none,n))
   | some (.row y sz)=>(match rowsOf sz hs with
    | some ys=>if ys.all (y.same ·)&&y.upto base then(some (.row y sz),n) else(some (.row (.sym (base+n)) sz),n+1)
    | none=>(none,n))
   | some (.tok e sz)=>if Si e sz hs then(some (.tok e sz),n) else(none,n)
   | _=>(none,n)
  let (ms,n2):=I7 base r (others.map List.tail) n1
  (m :: ms,n2)
def Iq (cf:cF):List (Option aY)→Option (List E)
 | []=>some []
 | some (.store zF x) :: r=>if cf=zF then(Iq cf r).map (x :: ·) else none
 | _=>none
def abq (base:Nat)(x:Option aY)(others:List (Option aY))(n:Nat):Option aY×Nat:=
 match x with
 | some (.store cf y)=>(match Iq cf others with
  | some ys=>if ys.all (y.same ·)&&y.upto base then(some (.store cf y),n) else(some (.store cf (.sym (base+n))),n+1)
  | none=>(none,n))
 | _=>(none,n)
def Zc (σ0 σ:ah):ah:=sL (wu σ0.tmps σ.iy.tmps) σ.iy
def rf (base:Nat)(σs:List ah):ah×Nat:=
 match(match σs with | []=>[] | σ :: r=>σ.iy :: r.map (Zc σ.iy)) with
 | []=>({ tmps:=[],mem:=[],hs:=none },0)
 | σ :: r=>
  let (ts,n):=I6 base σ.tmps (r.map (·.tmps)) 0
  let (ms,n):=I7 base σ.mem (r.map (·.mem)) n
  let (hs,n):=abq base σ.hs (r.map (·.hs)) n
  ({ tmps:=ts,mem:=ms,hs:=hs },n)
def nQ:Code→Bool
 | .exit _ | .ret | .goto _ | .refuse _ | .loop _=>false
 | .seq a b=>nQ a&&nQ b
 | .cond _ a b=>nQ a||nQ b
 | _=>true
def bY {β:Type}(n:Nat)(K:Nat→β):β:=
 match n with
 | 0=>K 0
 | n+1=>K (Nat.succ n)
theorem fc {β:Type}(n:Nat)(K:Nat→β):bY n K=K n:=by cases n <;> rfl
def jM {β:Type}(b:Bool)(K:Bool→β):β:=
 match b with
 | true=>K true
 | false=>K false
theorem lz {β:Type}(b:Bool)(K:Bool→β):jM b K=K b:=by cases b <;> rfl
def aK {β:Type}(x:E):(E→β)→β:=
 E.rec (motive:=fun _=>(E→β)→β)
  (fun k K=>bY k fun k=>K (.sym k))
  (fun d K=>K (.const d))
  (fun op kd a b iF nc K=>iF fun a=>nc fun b=>K (.bin op kd a b))
  (fun op a iF K=>iF fun a=>K (.un op a))
  (fun k a iF K=>iF fun a=>K (.conv k a))
  (fun a iF K=>iF fun a=>K (.bI a))
  (fun a iF K=>iF fun a=>K (.gy a))
  (fun a iF K=>iF fun a=>K (.aV a))
  (fun i a iF K=>bY i fun i=>iF fun a=>K (.cell i a))
  (fun i n a iF K=>bY i fun i=>bY n fun n=>iF fun a=>K (.cells i n a))
  (fun n a iF K=>bY n fun n=>iF fun a=>K (.bE n a))
  (fun a i iF ihi K=>iF fun a=>ihi fun i=>K (.idx a i))
  (fun K=>K .nil)
  (fun a b iF nc K=>iF fun a=>nc fun b=>K (.cons a b))
  (fun size bytes a b iF nc K=>bY size fun size=>bY bytes fun bytes=>iF fun a=>nc fun b=>K (.app size bytes a b))
  (fun a b iF nc K=>iF fun a=>nc fun b=>K (.bz a b))
  (fun a iF K=>iF fun a=>K (.cw a))
  (fun f a b iF nc K=>iF fun a=>nc fun b=>K (.b_ f a b))
  (fun size a lo hi iF anm ano K=>bY size fun size=>iF fun a=>anm fun lo=>ano fun hi=>K (.sub size a lo hi))
  (fun a i off x iF ihi Ww K=>iF fun a=>ihi fun i=>bY off fun off=>Ww fun x=>K (.set a i off x))
  (fun c a b T3 iF nc K=>T3 fun c=>iF fun a=>nc fun b=>K (.ite c a b))
  (fun c want a T3 iF K=>T3 fun c=>jM want fun want=>iF fun a=>K (.guard c want a))
  (fun K=>K .ai)
  (fun a b iF nc K=>iF fun a=>nc fun b=>K (.aa a b))
  (fun i a iF K=>bY i fun i=>iF fun a=>K (.av i a))
  (fun bytes n d ihn K=>bY bytes fun bytes=>ihn fun n=>K (.rep bytes n d))
  (fun a iF K=>iF fun a=>K (.deref a))
  (fun t a iF K=>iF fun a=>K (.iW t a))
  (fun max a b iF nc K=>jM max fun max=>iF fun a=>nc fun b=>K (.mm max a b))
  (fun off a iF K=>bY off fun off=>iF fun a=>K (.aj off a))
  (fun a iF K=>iF fun a=>K (.nn a))
  (fun size a i iF ihi K=>bY size fun size=>iF fun a=>ihi fun i=>K (.ax size a i))
  (fun agg n h p MI ihp K=>jM agg fun agg=>bY n fun n=>MI fun h=>ihp fun p=>K (.ld agg n h p))
  (fun n h p y MI ihp Rw K=>bY n fun n=>MI fun h=>ihp fun p=>Rw fun y=>K (.eL n h p y))
  (fun e sz h y MI Rw K=>bY sz fun sz=>MI fun h=>Rw fun y=>K (.fO e sz h y))
  (fun h MI K=>MI fun h=>K (.aJ h))
  (fun e sz h l MI ihl K=>bY sz fun sz=>MI fun h=>ihl fun l=>K (.cE e sz h l))
  (fun h l MI ihl K=>MI fun h=>ihl fun l=>K (.cR h l))
  (fun e sz bytes h x y MI Ww Rw K=>bY sz fun sz=>bY bytes fun bytes=>MI fun h=>Ww fun x=>Rw fun y=>K (.gM e sz bytes h x y))
  (fun h x y MI Ww Rw K=>MI fun h=>Ww fun x=>Rw fun y=>K (.apps h x y))
  (fun op a b c d iF nc T3 ihd K=>iF fun a=>nc fun b=>T3 fun c=>ihd fun d=>K (.m4 op a b c d)) x
theorem Q3 {β:Type}(k:Nat)(K:E→β):aK (.sym k) K=bY k fun k=>K (.sym k):=rfl
theorem KA {β:Type}(d:D)(K:E→β):aK (.const d) K=K (.const d):=rfl
theorem Rb {β:Type}(op:BinOp)(kd:Kd)(a:E)(b:E)(K:E→β):aK (.bin op kd a b) K=aK a fun a=>aK b fun b=>K (.bin op kd a b):=rfl
theorem VJ {β:Type}(op:UnOp)(a:E)(K:E→β):aK (.un op a) K=aK a fun a=>K (.un op a):=rfl
theorem No {β:Type}(k:IntKind)(a:E)(K:E→β):aK (.conv k a) K=aK a fun a=>K (.conv k a):=rfl
theorem Nn {β:Type}(a:E)(K:E→β):aK (.bI a) K=aK a fun a=>K (.bI a):=rfl
theorem Nl {β:Type}(a:E)(K:E→β):aK (.gy a) K=aK a fun a=>K (.gy a):=rfl
theorem Ng {β:Type}(a:E)(K:E→β):aK (.aV a) K=aK a fun a=>K (.aV a):=rfl
theorem Nq {β:Type}(i:Nat)(a:E)(K:E→β):aK (.cell i a) K=bY i fun i=>aK a fun a=>K (.cell i a):=rfl
theorem KB {β:Type}(i:Nat)(n:Nat)(a:E)(K:E→β):aK (.cells i n a) K=bY i fun i=>bY n fun n=>aK a fun a=>K (.cells i n a):=rfl
theorem Nu {β:Type}(n:Nat)(a:E)(K:E→β):aK (.bE n a) K=bY n fun n=>aK a fun a=>K (.bE n a):=rfl
theorem Ra {β:Type}(a:E)(i:E)(K:E→β):aK (.idx a i) K=aK a fun a=>aK i fun i=>K (.idx a i):=rfl
theorem Q8 {β:Type}(K:E→β):aK .nil K=K .nil:=rfl
theorem Np {β:Type}(a:E)(b:E)(K:E→β):aK (.cons a b) K=aK a fun a=>aK b fun b=>K (.cons a b):=rfl
theorem Rc {β:Type}(size:Nat)(bytes:Nat)(a:E)(b:E)(K:E→β):aK (.app size bytes a b) K=bY size fun size=>bY bytes fun bytes=>aK a fun a=>aK b fun b=>K (.app size bytes a b):=rfl
theorem Ku {β:Type}(a:E)(b:E)(K:E→β):aK (.bz a b) K=aK a fun a=>aK b fun b=>K (.bz a b):=rfl
theorem Kt {β:Type}(a:E)(K:E→β):aK (.cw a) K=aK a fun a=>K (.cw a):=rfl
theorem Nk {β:Type}(f:FuncId)(a:E)(b:E)(K:E→β):aK (.b_ f a b) K=aK a fun a=>aK b fun b=>K (.b_ f a b):=rfl
theorem Q4 {β:Type}(size:Nat)(a:E)(lo:E)(hi:E)(K:E→β):aK (.sub size a lo hi) K=bY size fun size=>aK a fun a=>aK lo fun lo=>aK hi fun hi=>K (.sub size a lo hi):=rfl
theorem Q6 {β:Type}(a:E)(i:E)(off:Nat)(x:E)(K:E→β):aK (.set a i off x) K=aK a fun a=>aK i fun i=>bY off fun off=>aK x fun x=>K (.set a i off x):=rfl
theorem Q9 {β:Type}(c:E)(a:E)(b:E)(K:E→β):aK (.ite c a b) K=aK c fun c=>aK a fun a=>aK b fun b=>K (.ite c a b):=rfl
theorem Kv {β:Type}(c:E)(want:Bool)(a:E)(K:E→β):aK (.guard c want a) K=aK c fun c=>jM want fun want=>aK a fun a=>K (.guard c want a):=rfl
theorem Nd {β:Type}(K:E→β):aK .ai K=K .ai:=rfl
theorem Ks {β:Type}(a:E)(b:E)(K:E→β):aK (.aa a b) K=aK a fun a=>aK b fun b=>K (.aa a b):=rfl
theorem Nf {β:Type}(i:Nat)(a:E)(K:E→β):aK (.av i a) K=bY i fun i=>aK a fun a=>K (.av i a):=rfl
theorem Q7 {β:Type}(bytes:Nat)(n:E)(d:D)(K:E→β):aK (.rep bytes n d) K=bY bytes fun bytes=>aK n fun n=>K (.rep bytes n d):=rfl
theorem Kz {β:Type}(a:E)(K:E→β):aK (.deref a) K=aK a fun a=>K (.deref a):=rfl
theorem Q_ {β:Type}(t:TypeId)(a:E)(K:E→β):aK (.iW t a) K=aK a fun a=>K (.iW t a):=rfl
theorem VL {β:Type}(max:Bool)(a:E)(b:E)(K:E→β):aK (.mm max a b) K=jM max fun max=>aK a fun a=>aK b fun b=>K (.mm max a b):=rfl
theorem Nh {β:Type}(off:Nat)(a:E)(K:E→β):aK (.aj off a) K=bY off fun off=>aK a fun a=>K (.aj off a):=rfl
theorem VK {β:Type}(a:E)(K:E→β):aK (.nn a) K=aK a fun a=>K (.nn a):=rfl
theorem Ky {β:Type}(size:Nat)(a:E)(i:E)(K:E→β):aK (.ax size a i) K=bY size fun size=>aK a fun a=>aK i fun i=>K (.ax size a i):=rfl
theorem VN {β:Type}(agg:Bool)(n:Nat)(h:E)(p:E)(K:E→β):aK (.ld agg n h p) K=jM agg fun agg=>bY n fun n=>aK h fun h=>aK p fun p=>K (.ld agg n h p):=rfl
theorem Q5 {β:Type}(n:Nat)(h:E)(p:E)(y:E)(K:E→β):aK (.eL n h p y) K=bY n fun n=>aK h fun h=>aK p fun p=>aK y fun y=>K (.eL n h p y):=rfl
theorem Nj {β:Type}(e:TypeId)(sz:Nat)(h:E)(y:E)(K:E→β):aK (.fO e sz h y) K=bY sz fun sz=>aK h fun h=>aK y fun y=>K (.fO e sz h y):=rfl
theorem Kx {β:Type}(h:E)(K:E→β):aK (.aJ h) K=aK h fun h=>K (.aJ h):=rfl
theorem Ni {β:Type}(e:TypeId)(sz:Nat)(h:E)(l:E)(K:E→β):aK (.cE e sz h l) K=bY sz fun sz=>aK h fun h=>aK l fun l=>K (.cE e sz h l):=rfl
theorem Kw {β:Type}(h:E)(l:E)(K:E→β):aK (.cR h l) K=aK h fun h=>aK l fun l=>K (.cR h l):=rfl
theorem Ns {β:Type}(e:TypeId)(sz:Nat)(bytes:Nat)(h:E)(x:E)(y:E)(K:E→β):aK (.gM e sz bytes h x y) K=bY sz fun sz=>bY bytes fun bytes=>aK h fun h=>aK x fun x=>aK y fun y=>K (.gM e sz bytes h x y):=rfl
theorem Nr {β:Type}(h:E)(x:E)(y:E)(K:E→β):aK (.apps h x y) K=aK h fun h=>aK x fun x=>aK y fun y=>K (.apps h x y):=rfl
theorem VM {β:Type}(op:MOp)(a:E)(b:E)(c:E)(d:E)(K:E→β):aK (.m4 op a b c d) K=aK a fun a=>aK b fun b=>aK c fun c=>aK d fun d=>K (.m4 op a b c d):=rfl
theorem cB {β : Type} (x : E) : ∀ K : E → β, aK x K = K x := by induction x <;> intro K <;> simp only [fc, lz, Q3, KA, Rb, VJ, No, Nn, Nl, Ng, Nq, KB, Nu, Ra, Q8, Np, Rc, Ku, Kt, Nk, Q4, Q6, Q9, Kv, Nd, Ks, Nf, Q7, Kz, Q_, VL, Nh, VK, Ky, VN, Q5, Nj, Kx, Ni, Kw, Ns, Nr, VM, *]
def pH {β : Type} : List (E × Bool) → (List (E × Bool) → β) → β
  | [], K => K []
  | (x, b) :: r, K => aK x fun x => jM b fun b => pH r fun r => K ((x, b) :: r)
theorem vP {β : Type} : ∀ (l : List (E × Bool)) (K : List (E × Bool) → β), pH l K = K l
  | [], _ => rfl
  | (x, b) :: r, K => by simp only [pH, cB, lz, vP r]
mutual
def kD {β:Type}:SV→(SV→β)→β
 | .cz,K=>K .cz
 | .e x s,K=>aK x fun x=>jM s fun s=>K (.e x s)
 | .agg cs,K=>pG cs fun cs=>K (.agg cs)
 | .a_ vs,K=>pG vs fun vs=>K (.a_ vs)
 | .addr o off,K=>bY o fun o=>bY off fun off=>K (.addr o off)
 | .ax o i s off,K=>bY o fun o=>aK i fun i=>bY s fun s=>bY off fun off=>K (.ax o i s off)
 | .ij x off,K=>aK x fun x=>bY off fun off=>K (.ij x off)
 | .own x n,K=>aK x fun x=>bY n fun n=>K (.own x n)
 | .mE o,K=>bY o fun o=>K (.mE o)
 | .func fn cap,K=>pG cap fun cap=>K (.func fn cap)
 | .cond act sv,K=>pH act fun act=>kD sv fun sv=>K (.cond act sv)
def pG {β:Type}:List SV→(List SV→β)→β
 | [],K=>K []
 | x :: r,K=>kD x fun x=>pG r fun r=>K (x :: r)
end
mutual
theorem zB {β:Type}:∀(x:SV) (K:SV→β),kD x K=K x
 | .cz,K=>by simp only[kD]
 | .e x s,K=>by simp only[kD,cB,lz]
 | .agg cs,K=>by simp only[kD,oB cs]
 | .a_ vs,K=>by simp only[kD,oB vs]
 | .addr o off,K=>by simp only[kD,fc]
 | .ax o i s off,K=>by simp only[kD,fc,cB]
 | .ij x off,K=>by simp only[kD,fc,cB]
 | .own x n,K=>by simp only[kD,fc,cB]
 | .mE o,K=>by simp only[kD,fc]
 | .func fn cap,K=>by simp only[kD,oB cap]
 | .cond act sv,K=>by simp only[kD,vP,zB sv]
theorem oB {β:Type}:∀(l:List SV) (K:List SV→β),pG l K=K l
 | [],K=>by simp only[pG]
 | x :: r,K=>by simp only[pG,zB x,oB r]
end
def VI {β:Type}(x:SV)(K:SV→β):β:=
 match x with
 | .cz=>K .cz
 | .e x s=>aK x fun x=>jM s fun s=>K (.e x s)
 | x=>kD x K
theorem VH {β:Type}(x:SV)(K:SV→β):VI x K=K x:=by cases x <;> first | rfl | simp only[VI,cB,lz,zB]
def dR {α β:Type}(f:α→(α→β)→β)(l:List α):(List α→β)→β:=List.rec (motive:=fun _=>(List α→β)→β) (fun K=>K []) (fun x _ ih K=>f x fun x=>ih fun r=>K (x :: r)) l
theorem dY {α β:Type}{f:α→(α→β)→β}(hf:∀x k,f x k=k x):∀(l:List α) (K:List α→β),dR f l K=K l
 | [],_=>rfl
 | x :: r,K=>by show(f x fun x=>dR f r fun r=>K (x :: r))=_;rw[hf,dY hf r]
def Bv {β:Type}(x:Option aY)(K:Option aY→β):β:=
 match x with
 | none=>K none
 | some (.box cs)=>pG cs fun cs=>K (some (.box cs))
 | some (.row x n)=>aK x fun x=>bY n fun n=>K (some (.row x n))
 | some (.tok e n)=>bY e fun e=>bY n fun n=>K (some (.tok e n))
 | some (.store cf h)=>aK h fun h=>K (some (.store cf h))
theorem DE {β:Type}(x:Option aY)(K:Option aY→β):Bv x K=K x:=by
 cases x with
 | none=>rfl
 | some y=>cases y <;> simp only[Bv,oB,cB,fc]
def qx {β:Type}(u:Nat)(σ:ah)(K:Nat→ah→β):β:=
 bY u fun u=>dR VI σ.tmps fun ts=>dR Bv σ.mem fun ms=>Bv σ.hs fun hs=>K u { tmps:=ts,mem:=ms,hs:=hs }
theorem lu {β:Type}(u:Nat)(σ:ah)(K:Nat→ah→β):qx u σ K=K u σ:=by unfold qx;rw[fc,dY VH,dY DE,DE]
structure Rn where
 normal:Option (Nat×ah)
 rZ:List (Nat×ah)
def yT:Code→List (Option Nat)
 | .seq a b | .cond _ a b=>yT a++(yT b).filter fun q=>!(yT a).contains q
 | .block id b=>(yT b).filter (·!= some id)
 | .loop b | .rangeFunc _ _ _ b=>yT b
 | .exit id=>[some id]
 | .ret=>[none]
 | _=>[]
def Vi (body:Nat→ah→Option Rn)(u:Nat)(σ0:ah):Nat→ah×Nat→Option (ah×Nat)
 | 0,tm=>some tm
 | k+1,tm=>qx (u+tm.2) tm.1 fun u1 σ1=>match body u1 σ1 with
  | none=>none
  | some o=>
   let tm':=rf u (σ0 :: (match o.normal with | some x=>[x.2] | none=>[]))
   if tm'.2=tm.2 then some tm' else Vi body u σ0 k tm'
def ah.cn (σ:ah):Bool:=match σ.hs with
 | some (.store cf _)=>cf.cn
 | _=>false
def LJ:T:=.ret (.deref .nil)
def Bb (σ:ah):Option T→Option T
 | some t=>some t
 | none=>if σ.cn=true then some LJ else none
def afR {α:Type}(σ:ah):Option (Option α)→Option (Option α)
 | some x=>some x
 | none=>if σ.cn=true then some none else none
def collect (P:Program):Code→Nat→ah→Option Rn
 | .skip,u,σ | .label _,u,σ=>some ⟨some (u,σ),[]⟩
 | .region id ops draw,u,σ=>(afR σ (Xf P ops draw (xP id σ) u)).bind fun x=>match x with
  | none=>some ⟨none,[]⟩
  | some (u,σ)=>qx u σ fun u σ=>some ⟨some (u,σ),[]⟩
 | .seq a b,u,σ=>(collect P a u σ).bind fun r1=>match r1.normal with
  | none=>some r1
  | some (u1,σ1)=>(collect P b u1 σ1).map fun r2=>⟨r2.normal,r1.rZ++r2.rZ⟩
 | .cond _ a b,u,σ=>qx u σ fun u σ=>(collect P a u σ).bind fun ra=>(collect P b u σ).map fun rb=>match ra.normal,rb.normal with
  | some x,some y=>let (tm,n):=rf u [x.2,y.2];⟨some (u+n,tm),ra.rZ++rb.rZ⟩
  | some x,none=>⟨some x,ra.rZ++rb.rZ⟩
  | none,y=>⟨y,ra.rZ++rb.rZ⟩
 | .block id body,u,σ=>qx u σ fun u σ=>(collect P body u σ).map fun r=>
  let outs:=(match r.normal with | some x=>[x.2] | none=>[])++(r.rZ.filter (·.1==id)).map (·.2)
  let rest:=r.rZ.filter (·.1 != id)
  match outs with
  | []=>⟨none,rest⟩
  | outs=>let (tm,n):=rf u outs;⟨some (u+n,tm),rest⟩
 | .loop body,u,σ=>qx u σ fun u σ=>(Vi (fun u σ=>collect P body u σ) u σ 8 (σ,0)).bind fun(tm,n)=>qx (u+n) tm fun u1 tm=>(collect P body u1 tm).map fun r=>⟨none,r.rZ⟩
 | .exit id,_,σ=>some ⟨none,[(id,σ)]⟩
 | .ret,_,_=>some ⟨none,[]⟩
 | .rangeFunc _ _ _ body,u,σ=>some ⟨some (u+1,oL σ (.sym u)),match yT body with | [some id]=>[(id,oL σ (.sym u))] | _=>[]⟩
 | .refuse _,_,σ=>if σ.cn=true then some ⟨none,[]⟩ else none
 | _,_,_=>none
structure Ex where
 lab:Nat
 tm:ah
 base:Nat
abbrev K8:=Nat→Nat→ah→Option T
def nu : List (Nat × Ex) → Nat → Option Ex
  | [], _ => none
  | (i, e) :: r, id => if i = id then some e else nu r id
def Rn.q8 (r:Rn):List ah:=match r.normal with | some x=>[x.2] | none=>[]
def Rn.at (r:Rn)(id:Nat):List ah:=r.q8++(r.rZ.filter (·.1==id)).map (·.2)
def CV (dp u:Nat)(tm:ah):K8:=fun _ _ σ'=>(Cw u tm σ').map (T.jump dp)
def G7 (dp u:Nat)(m:ah×Nat)(body:Option T)(k:K8):Option T:=
 match body,k dp (u+m.2) m.1 with
 | some tb,some tr=>some (.join dp m.2 tb tr)
 | _,_=>none
def OI (x:E)(a b:Option T):Option T:=
 match a,b with
 | some ta,some tb=>some (.ite x ta tb)
 | _,_=>none
def Mi (dp u:Nat)(m:ah×Nat)(σ:ah)(body:Option T):Option T:=
 match Cw u m.1 σ,body with
 | some inits,some tb=>if inits.length=m.2 then some (.loop dp inits tb) else none
 | _,_=>none
def eu:Nat→List SV→List (Nat×E)
 | _,[]=>[]
 | i,.e x _ :: r=>(i,x) :: eu (i+1) r
 | i,_ :: r=>eu (i+1) r
def SV.data:SV→SV
 | .e x s=>.e x s
 | _=>.cz
def qX:Nat→List Tmp→List SV→List SV
 | _,[],σs=>σs
 | u,p :: ps,σs=>qX (u+1) ps (σs.set p (.e (.sym u) false))
def iQ (σ:ah)(cf:cF)(u:Nat)(ps:List Tmp):ah:=
 { tmps:=qX (u+1) ps (σ.tmps.map SV.data),mem:=List.replicate σ.mem.length none,hs:=some (.store cf (.sym u)) }
def mu (dp:Nat):K8:=fun _ _ σ=>match σ.hs with | some (.store _ h)=>some (.jump dp [h]) | _=>none
def gY:Code→Bool
 | .seq a b | .cond _ a b=>gY a&&gY b
 | .block _ b | .loop b=>gY b
 | .rangeFunc _ _ _ _=>false
 | _=>true
def compile (P:Program)(rv:ah→Option E):Code→Nat→Nat→ah→List (Nat×Ex)→K8→Option T
 | .skip,dp,u,σ,_,k | .label _,dp,u,σ,_,k=>k dp u σ
 | .region id ops draw,dp,u,σ,_,k=>Bb σ (Gv P ops draw (xP id σ) u fun σ u=>qx u σ fun u σ=>k dp u σ)
 | .seq a b,dp,u,σ,ex,k=>compile P rv a dp u σ ex fun dp u σ=>compile P rv b dp u σ ex k
 | .cond c a b,dp,u,σ,ex,k=>qx u σ fun u σ=>(σ.zZ c).toE.bind fun x=>
   if nQ a&&nQ b then
    (collect P a u σ).bind fun ra=>(collect P b u σ).bind fun rb=>
     G7 dp u (rf u (ra.q8++rb.q8))
      (OI x (compile P rv a (dp+1) u σ ex (CV dp u (rf u (ra.q8++rb.q8)).1)) (compile P rv b (dp+1) u σ ex (CV dp u (rf u (ra.q8++rb.q8)).1))) k
   else OI x (compile P rv a dp u σ ex k) (compile P rv b dp u σ ex k)
 | .block id body,dp,u,σ,ex,k=>qx u σ fun u σ=>(collect P body u σ).bind fun r=>
   if(r.at id).isEmpty then compile P rv body dp u σ (ex.filter (·.1 != id)) (fun _ _ _=>none)
   else G7 dp u (rf u (r.at id)) (compile P rv body (dp+1) u σ ((id,⟨dp,(rf u (r.at id)).1,u⟩) :: ex) (CV dp u (rf u (r.at id)).1)) k
 | .loop body,dp,u,σ,ex,_=>qx u σ fun u σ=>(Vi (fun u σ=>collect P body u σ) u σ 8 (σ,0)).bind fun m=>
   Mi dp u m σ (qx (u+m.2) m.1 fun u1 tm=>compile P rv body (dp+1) u1 tm ex (CV dp u m.1))
 | .exit id,_,_,σ,ex,_=>(nu ex id).bind fun e=>(Cw e.base e.tm σ).map (T.jump e.lab)
 | .ret,_,_,σ,_,_=>(rv σ).map T.ret
 | .rangeFunc g ps Ib body,dp,u,σ,ex,k=>match(σ.zZ g).toE,σ.hs with
  | some x,some (.store cf h)=>if cf.ro=true then none else match compile P (fun _=>none) Ib (dp+1) (u+1+ps.size) (iQ σ cf u ps.toList) [] (fun dp' u' σ'=>compile P (fun _=>none) body dp' u' σ' [] (mu dp)),k dp (u+1) (oL σ (.sym u)) with
   | some tb,some tr=>some (.nW x h ((eu 0 σ.tmps).map (·.1)) ((eu 0 σ.tmps).map (·.2)) ps.size dp tb tr)
   | _,_=>none
  | _,_=>none
 | .refuse _,_,_,σ,_,_=>Bb σ none
 | _,_,_,_,_,_=>none
end
end
section
noncomputable section
section
variable {P:Program}
theorem KL {w:World}{l:Nat}{r:Loop}(h:w.heap[l]? = some (.loop r))(r':Loop)(b o:Nat):(w.putObj l (.loop r')).cell? ⟨b,o,none⟩=w.cell? ⟨b,o,none⟩:=by
 by_cases e:b=l
 ·subst e;have h1:w.cell? ⟨b,o,none⟩=none:=by simp[World.cell?,h]
  have h2:=World.putObj_heap_same (o:=.loop r') (A0l.1 h).1;rw[h1];simp[World.cell?,h2]
 ·exact A0V (a:=⟨b,o,none⟩) (World.putObj_heap_other e)
theorem bM.putObj {w:World}{S:Sets}{l:Nat}{r:Loop}(h:w.heap[l]? = some (.loop r))(r':Loop):bM S w (w.putObj l (.loop r')):=fun b o _=>KL h r' b o
def Wm (d x:D):Prop:=(∃(e:TypeId) (sz:Nat) (cs:List D) (j:Nat),x=.blk e sz cs∧cs[j]? = some d)∨(∃(bU:List D) (j:Nat) (d1 d2:D),x=.cg bU∧(D.kept bU)[j]? = some (D.a_ [d1,d2])∧(d=d1∨d=d2))
theorem cI.to {w w':World} {S S':Sets} {az:Nat→Prop} {bs:List D} (h:cI w S az bs) (hS:S.Rs S') (hm:∀b o,S' b o→S b o) (hb:∀b,az b→w'.heap[b]? = w.heap[b]?)
  (hr:∀(v:Value) (d:D) (i:Nat) (x:D),bs[i]? = some x→Wm d x→bA w S v d→bA w' S' v d):cI w' S' az bs:=by
 refine⟨hS.n.symm.trans h.n,fun i e sz cs hi=>?_,fun b off hf hs=>h.v_ b off hf (hm _ _ hs),fun i bU hi=>?_,fun i j x y hi hj hx hy e=>h.inj i j x y hi hj hx hy (by rw[←hS.loc,←hS.loc];exact e),fun i z hi hz=>?_⟩
 ·obtain⟨hf,vs,g1,g2,g3,g4,g5,g6⟩:=h.cells i e sz cs hi;rw[hS.loc,hS.cap];exact⟨hf,vs,g1.to (hb _ hf),g2,g3,g4,fun j v d hv hd=>hr v d i _ hi (.inl ⟨e,sz,cs,j,rfl,hd⟩) (g5 j v d hv hd),fun off hs=>g6 off (hm _ _ hs)⟩
 ·obtain⟨hf,es,clock,g1,g2,g3,g4⟩:=h.maps i bU hi;rw[hS.loc];refine⟨hf,es,clock,(hb _ hf).trans g1,g2,fun off hs=>g3 off (hm _ _ hs),fun j e kv he iM=>?_⟩;obtain⟨dk,dv,rfl,g6,g7⟩:=g4 j e kv he iM;exact⟨dk,dv,rfl,hr _ _ i _ hi (.inr ⟨bU,j,dk,dv,rfl,iM,.inl rfl⟩) g6,hr _ _ i _ hi (.inr ⟨bU,j,dk,dv,rfl,iM,.inr rfl⟩) g7⟩
 ·obtain⟨hf,g1,g3⟩:=h.s7 i z hi hz;rw[hS.loc,hb _ hf];exact⟨hf,g1.to (by rw[hS.n];exact A0m _) (fun i _=>hS.loc i) (hS.mz i) (by rw[h.n];exact(A0c.1 hi).1),fun off hs=>g3 off (hm _ _ hs)⟩
theorem cI.drop {w:World}{S:Sets}{az:Nat→Prop}{bs:List D}{i:Nat}{z:D}(h:cI w S az bs)(hz:bs[i]? = some z)(hl:z.live=true):cI w S (fun b=>az b∧b≠S.loc i) (bs.set i (.a_ [])):=by
 have hc:∀{j:Nat} {x:D},(bs.set i (.a_ []))[j]? = some x→x.live=true→bs[j]? = some x∧S.loc j≠S.loc i:=by
  intro j x hj hx;rw[A0N] at hj;split at hj
  ·split at hj
   ·cases hj;cases hx
   ·cases hj
  ·rename_i AR;exact⟨hj,fun e=>AR (h.inj j i _ _ hj hz hx hl e).symm⟩
 refine⟨by rw[h.n];simp,fun j e sz cs hj=>?_,fun b off hf=>h.v_ b off hf.1,fun j bU hj=>?_,fun j k x y hj hk hx hy e=>h.inj j k x y (hc hj hx).1 (hc hk hy).1 hx hy e,fun j x hj hx=>?_⟩
 ·obtain⟨g,bQ⟩:=hc hj rfl;obtain⟨g1,g2⟩:=h.cells j e sz cs g;exact⟨⟨g1,bQ⟩,g2⟩
 ·obtain⟨g,bQ⟩:=hc hj rfl;obtain⟨g1,g2⟩:=h.maps j bU g;exact⟨⟨g1,bQ⟩,g2⟩
 ·obtain⟨g,bQ⟩:=hc hj (D.gb hx);obtain⟨g1,g2⟩:=h.s7 j x g hx;exact⟨⟨g1,bQ⟩,g2⟩
theorem Ff {bs:List D}(h:aN bs=true){d:D}{i:Nat}{x:D}(hi:bs[i]? = some x)(hp:Wm d x):d.bZ=true:=by
 have hx:=dH h hi;rcases hp with⟨e,sz,cs,j,rfl,hj⟩ | ⟨bU,j,d1,d2,rfl,hj,hd⟩
 ·exact dH (by simpa[D.bZ] using hx) hj
 ·have hk:aN (D.kept bU)=true:=by
   have h1:aN bU=true:=by simpa[D.bZ] using hx
   unfold D.kept;split
   ·simpa[aN,D.bZ] using h1
   ·exact h1
  have:=dH hk hj;simp[D.bZ,aN] at this;rcases hd with rfl | rfl
  ·exact this.1
  ·exact this.2
def Sets.under (S:Sets)(h:Nat→Option Loop):Sets:={ S with hold:=h }
theorem Sets.lT (S:Sets)(h:Nat→Option Loop):S.Rs (S.under h):=⟨fun _ _ h=>h,rfl,fun _=>rfl,fun _=>rfl,fun _=>rfl⟩
theorem uX:∀{l:List SV} {k i s:Nat} {x:E},(eu k l)[i]? = some (s,x)→k≤s∧∃b,l[s-k]? = some (.e x b)
 | [],_,_,_,_,h=>by simp[eu] at h
 | sv :: r,k,i,s,x,h=>by
  have rest:∀{i:Nat},(eu (k+1) r)[i]? = some (s,x)→k≤s∧∃b,(sv :: r)[s-k]? = some (.e x b):=by intro i h;obtain⟨h1,b,h2⟩:=uX h;refine⟨by omega,b,?_⟩;rw[show s-k=(s-(k+1))+1 from by omega];simpa using h2
  cases sv with
  | e y b=>
   simp only[eu] at h;cases i with
   | zero=>simp at h;obtain⟨rfl,rfl⟩:=h;exact⟨A0m _,b,by simp⟩
   | succ i=>exact rest (by simpa using h)
  | _=>
   simp only[eu] at h;exact rest h
theorem uW:∀{l:List SV} {k s:Nat} {x:E} {b:Bool},l[s]? = some (.e x b)→∃i:Nat,(eu k l)[i]? = some (k+s,x)
 | [],_,_,_,_,h=>by simp at h
 | sv :: r,k,0,x,b,h=>by simp at h;subst h;exact⟨0,by simp[eu]⟩
 | sv :: r,k,s+1,x,b,h=>by
  obtain⟨i,hi⟩:=uW (k:=k+1) (l:=r) (s:=s) (by simpa using h);rw[show k+1+s=k+(s+1) from by omega] at hi;cases sv with
  | e y c=>exact⟨i+1,by simpa[eu] using hi⟩
  | _=>exact⟨i,by simpa[eu] using hi⟩
structure Ext (w0:World)(X:jN)(w1:World)(X1:jN):Prop where
 sub:X.S≤X1.S
 os:w1.os=w0.os
 tape:TL w1 w0
 output:w1.output=w0.output
 size:w0.heap.size≤w1.heap.size
 old:∀b,b<w0.heap.size→¬X.may b→w1.heap[b]? = w0.heap[b]?
 may:∀b,X1.may b→X.may b∨w0.heap.size≤b
 az:∀b,X1.az b→X.az b∨X.may b∨w0.heap.size≤b
 new:∀b o,X1.S b o→X.S b o∨w0.heap.size≤b∨X.may b
 EJ:∃cs:List Nat,X1.EJ=(cs.map fun D=>({ target:=.collected D,args:=#[] }:Deferred))++X.EJ∧cs.Nodup∧∀D,D∈cs→w1.heap[D]? = some (.deferred (some []))∧¬X1.may D∧¬X1.az D∧w0.heap.size≤D
theorem Ext.refl (w0:World)(X:jN):Ext w0 X w0 X:=⟨Sets.le_refl _,rfl,.refl _,rfl,A0m _,fun _ _ _=>rfl,fun _ h=>.inl h,fun _ h=>.inl h,fun _ _ h=>.inl h,[],rfl,List.nodup_nil,by simp⟩
theorem Ext.trans {w0 w1 w2:World}{X X1 X2:jN}(h:Ext w0 X w1 X1)(k:Ext w1 X1 w2 X2):Ext w0 X w2 X2:=by
 have hm:∀b,b<w0.heap.size→¬X.may b→¬X1.may b:=fun b hb hn hx=>(h.may b hx).elim hn fun g=>by omega
 refine⟨Sets.le_trans h.sub k.sub,k.os.trans h.os,k.tape.trans h.tape,k.output.trans h.output,A0J h.size k.size,fun b hb hn=>(k.old b (A0v hb h.size) (hm b hb hn)).trans (h.old b hb hn),
  fun b hb=>(k.may b hb).elim (h.may b) fun g=>.inr (A0J h.size g),fun b hb=>?_,fun b o hs=>?_,?_⟩
 ·rcases k.az b hb with g | g | g
  ·exact h.az b g
  ·exact .inr (h.may b g)
  ·exact .inr (.inr (A0J h.size g))
 ·rcases k.new b o hs with g | g | g
  ·exact h.new b o g
  ·exact .inr (.inl (A0J h.size g))
  ·exact .inr ((h.may b g).elim .inr .inl)
 ·obtain⟨cs,h1,h2,h3⟩:=h.EJ;obtain⟨ds,k1,k2,k3⟩:=k.EJ;refine⟨ds++cs,by rw[k1,h1];simp,?_,fun D hD=>?_⟩
  ·rw[List.nodup_append];refine⟨k2,h2,fun a ha b hb e=>?_⟩;subst e;have g1:=(k3 a ha).2.2.2;have g2:=(A0l.1 (h3 a hb).1).1;omega
  ·rcases A0K.1 hD with hD | hD
   ·obtain⟨g1,g2,g3,g4⟩:=k3 D hD;exact⟨g1,g2,g3,A0J h.size g4⟩
   ·obtain⟨g1,g2,g3,g4⟩:=h3 D hD;have hlt:=(A0l.1 g1).1;exact⟨(k.old D hlt g2).trans g1,fun hx=>(k.may D hx).elim g2 fun g=>by omega,fun hx=>(k.az D hx).elim g3 fun g=>g.elim g2 fun g=>by omega,g4⟩
theorem Ext.rep {w0 w1 w:World}{X X1:jN}{a:Act}{σ:ah}{env:List D}{ρ:dD}(h:Ext w0 X w1 X1)(hr:aF w1 X1 w a σ env ρ)(hh:∀l rec,X.S.hold l=some rec→w0.heap[l]? = some (.loop rec)∧¬X.may l∧¬X.az l):aF w0 { X with EJ:=X1.EJ } w a σ env ρ:=by
 have hm:∀b,b<w0.heap.size→¬X.may b→¬X1.may b:=fun b hb hn hx=>(h.may b hx).elim hn fun g=>by omega
 refine⟨hr.size,hr.tmps,hr.cT,hr.inj,fun o x b hx hb=>?_,hr.cells,hr.os.trans h.os,hr.tape.trans h.tape,hr.output.trans h.output,A0J h.size hr.grown,fun b hb hn=>(hr.old b (A0v hb h.size) (hm b hb hn)).trans (h.old b hb hn),Sets.le_trans h.sub hr.sub,fun b o hs=>?_,hr.yo,hh⟩
 ·obtain⟨g,hlt⟩:=hr.own o x b hx hb;refine⟨?_,hlt⟩;rcases g with g | g | g
  ·rcases h.az b g.2 with k | k | k
   ·exact .inl ⟨g.1,k⟩
   ·exact .inr (.inr k)
   ·exact .inr (.inl k)
  ·exact .inr (.inl (A0J h.size g))
  ·rcases h.may b g with k | k
   ·exact .inr (.inr k)
   ·exact .inr (.inl k)
 ·rcases hr.new b o hs with g | g | g
  ·exact h.new b o g
  ·exact .inr (.inl (A0J h.size g))
  ·exact .inr ((h.may b g).elim .inr .inl)
theorem o_ {w w':World}{a:Act}{σ:ah}{env:List D}{ρ:dD}{S:Sets}{az may:Nat→Prop}{EJ:List Deferred}{bs:List D}(h:aF w ⟨may,S,az,EJ⟩ w' a σ env ρ)(hst:cI w' ρ.S ρ.az bs)(cO:∃cf x,σ.obj br=some (.store cf x))(tg:∀b,may b→az b):Left w S az may w' ρ.S ρ.az bs:=by
 obtain⟨cf,x,cO⟩:=cO;refine⟨hst,h.sub,h.os,h.tape,h.output,h.grown,h.old,fun b hb=>?_,fun b o hs=>?_,h.cells⟩
 ·obtain⟨g1,g2⟩:=h.own br _ b cO hb;refine⟨?_,g2⟩;rcases g1 with g1 | g1 | g1
  ·exact .inl g1.2
  ·exact .inr g1
  ·exact .inl (tg b g1)
 ·rcases h.new b o hs with g | g | g
  ·exact .inl g
  ·exact .inr (.inr g)
  ·exact .inr (.inl g)
theorem tC {env:List D}:∀{l:List E} {ds:List D} {i:Nat} {x:E},aA env l=some ds→l[i]? = some x→∃d,ds[i]? = some d∧x.eval env=some d
 | [],_,_,_,_,h=>by simp at h
 | y :: r,ds,i,x,h,hi=>by
  simp only[aA,A0b,A0a] at h;obtain⟨d,h1,kL,h2,rfl⟩:=h;cases i with
  | zero=>simp at hi;subst hi;exact⟨d,rfl,h1⟩
  | succ i=>
   obtain⟨d',g1,g2⟩:=tC (i:=i) h2 (by simpa using hi);exact⟨d',by simpa using g1,g2⟩
theorem B9 {w:World}{ρ:dD}{env:List D}:∀{ps:List Tmp} {vs:List Value} {u:Nat} {tm:Array Value} {rU:List SV},tm.size=rU.length→ps.length=vs.length→(∀t,cS w ρ env (tm.getD t undef) (rU.getD t .cz))→(∀(i:Nat) (v:Value),vs[i]? = some v→∃d,env[u+i]? = some d∧bA w ρ.S v d) →
  ((ps.zip vs).foldl (fun tmps (x:Tmp×Value)=>tmps.setIfInBounds x.1 x.2) tm).size=(qX u ps rU).length∧∀t,cS w ρ env (((ps.zip vs).foldl (fun tmps (x:Tmp×Value)=>tmps.setIfInBounds x.1 x.2) tm).getD t undef) ((qX u ps rU).getD t .cz)
 | [],[],u,tm,rU,hs,_,h,_=>⟨hs,h⟩
 | [],_ :: _,_,_,_,_,hl,_,_=>by simp at hl
 | _ :: _,[],_,_,_,_,hl,_,_=>by simp at hl
 | p :: ps,v :: vs,u,tm,rU,hs,hl,h,hv=>by
  simp only[List.zip_cons_cons,B0Y,qX];refine B9 (by simp[hs]) (by simpa using hl) (fun t=>?_) fun i v' hi=>?_
  ·by_cases hp:p<rU.length
   ·simp only[A0s,B0D,A0k,A0N]
    by_cases e:p=t
    ·subst e;obtain⟨d,hd,hr⟩:=hv 0 v rfl;simp only[B0d,hs,hp];exact .e (by simpa[E.eval] using hd) hr (fun hh=>by cases hh)
    ·simp only[e,B0n];have:=h t;simpa only[A0s,A0k] using this
   ·have hge:rU.length≤p:=Nat.le_of_not_lt hp;rw[Array.setIfInBounds_eq_of_size_le (by rw[hs];exact hge),List.set_eq_of_length_le hge];exact h t
  ·obtain⟨d,h1,h2⟩:=hv (i+1) v' (by simpa using hi);exact⟨d,by rw[show u+1+i=u+(i+1) from by omega];exact h1,h2⟩
theorem sP:∀(ps:List Tmp) (u:Nat) (rU:List SV),(qX u ps rU).length=rU.length
 | [],_,_=>rfl
 | p :: ps,u,rU=>by simp[qX,sP ps]
structure NI (w w':World)(cs:List Nat):Prop where
 other:∀b,b∉cs→w'.heap[b]? = w.heap[b]?
 size:w'.heap.size=w.heap.size
 os:w'.os=w.os
 tape:TL w' w
 output:w'.output=w.output
 cell:∀b o,w'.cell? ⟨b,o,none⟩=w.cell? ⟨b,o,none⟩
theorem Az {w:World}{l:Nat}{x:Option (List Deferred)}(h:w.heap[l]? = some (.deferred x))(y:Option (List Deferred))(b o:Nat):(w.putObj l (.deferred y)).cell? ⟨b,o,none⟩=w.cell? ⟨b,o,none⟩:=by
 by_cases e:b=l
 ·subst e;have h1:w.cell? ⟨b,o,none⟩=none:=by simp[World.cell?,h]
  have h2:=World.putObj_heap_same (o:=.deferred y) (A0l.1 h).1;rw[h1];simp[World.cell?,h2]
 ·exact A0V (a:=⟨b,o,none⟩) (World.putObj_heap_other e)
theorem xm {F:Fence}{n:Nat}{fn:Func}{tmps:Array Value}{R:Ending→World→Prop}{u:FrameMode}(hu:u≠.run):∀(cs:List Nat) (w:World),cs.Nodup→(∀D,D∈cs→w.heap[D]? = some (.deferred (some []))) →
  (∀w',NI w w' cs→LeavesIn F n P fn tmps R [] u w')→LeavesInM F n P fn tmps R (cs.map fun D=>({ target:=.collected D,args:=#[] }:Deferred)) u w
 | [],w,_,_,h=>h w ⟨fun _ _=>rfl,rfl,rfl,.refl _,rfl,fun _ _=>rfl⟩
 | D :: cs,w,hn,hD,h=>by
  rw[E0x] at hn;have hd:=hD D (by simp);refine⟨hu,.inl ⟨D,_,rfl,run_takeDeferred hd,xm hu cs _ hn.2 (fun D' hD'=>?_) fun w' hm=>h w' ?_⟩⟩
  ·rw[World.putObj_heap_other (fun e=>by subst e;exact hn.1 hD')];exact hD D' (by simp[hD'])
  ·refine⟨fun b hb=>?_,hm.size.trans (by simp),hm.os,⟨hm.tape.tape,hm.tape.dr⟩,hm.output,fun b o=>(hm.cell b o).trans (Az hd _ b o)⟩;simp only[A0E,E0G] at hb;rw[hm.other b hb.2,World.putObj_heap_other hb.1]
theorem aF.marked {w0 w1 w w':World}{X0 X1:jN}{a:Act}{σ:ah}{env:List D}{ρ:dD}{cs:List Nat}(h:aF w1 X1 w a σ env ρ)(h0:aF w0 X0 w a σ env ρ)(hc:∀D,D∈cs→D<w1.heap.size∧¬X1.may D∧¬X1.az D∧w0.heap.size≤D)(hm:NI w w' cs):aF w0 X0 w' a σ env ρ:=
 h0.move (fun b o _=>hm.cell b o) (dD.tO.refl ρ _) (fun o x b hx hb=>hm.other b fun hD=>by
  obtain⟨h1,h2,h3,_⟩:=hc b hD;rcases(h.own o x b hx hb).1 with g | g | g
  ·exact h3 g.2
  ·omega
  ·exact h2 g) (fun _ _ _ _ _ _ hs=>hs) (fun b o hs=>by rw[hm.size];exact h0.cells b o hs) hm.os hm.tape hm.output (by rw[hm.size];exact A0m _) (fun b hb _=>hm.other b fun hD=>by have:=(hc b hD).2.2.2;omega) fun b o hs=>.inl hs
theorem aF.Xj {w0 w:World}{X:jN}{a:Act}{σ:ah}{env:List D}{ρ:dD}(h:aF w0 X w a σ env ρ){m:Nat}{r r':Loop}(hm:w0.heap[m]? = some (.loop r))(Qy:¬X.may m)(Ee:¬X.az m)(hh:X.S.hold m=none) :
  w.heap[m]? = some (.loop r)∧aF (w0.putObj m (.loop r')) X (w.putObj m (.loop r')) a σ env ρ:=by
 have hlt:m<w0.heap.size:=(A0l.1 hm).1;have hw:w.heap[m]? = some (.loop r):=(h.old m hlt Qy).trans hm;have Ye:m<w.heap.size:=(A0l.1 hw).1;have hb:∀o x b,σ.obj o=some x→bN ρ o x b→b≠m:=fun o x b hx hb e=>by
  subst e;rcases(h.own o x b hx hb).1 with g | g | g
  ·exact Ee g.2
  ·omega
  ·exact Qy g
 have h1:aF w0 X w a σ env ρ:=h;refine⟨hw,h.size,fun t=>(h.tmps t).keep (bM.putObj hw r') (dD.tO.refl ρ (fun _=>False)) fun _ hf=>hf.elim,fun o x hx=>(h.cT o x hx).keep (bM.putObj hw r') (dD.tO.refl ρ (fun _=>False)) id (fun _ hf=>hf.elim) (fun b fI=>World.putObj_heap_other (hb o x b hx fI)) (fun _ _ _ hs=>hs),h.inj,fun o x b hx fI=>?_,fun b o hs=>?_,h.os,⟨h.tape.tape,h.tape.dr⟩,h.output,?_,fun b sk wh=>?_,h.sub,fun b o hs=>?_,h.yo,fun l rec hl=>?_⟩
 ·simp only[World.putObj_size];exact h.own o x b hx fI
 ·simp only[World.putObj_size];exact h.cells b o hs
 ·simp only[World.putObj_size];exact h.grown
 ·simp only[World.putObj_size] at sk
  by_cases e:b=m
  ·subst e;rw[World.putObj_heap_same hlt,World.putObj_heap_same Ye]
  ·rw[World.putObj_heap_other e,World.putObj_heap_other e];exact h.old b sk wh
 ·simp only[World.putObj_size];exact h.new b o hs
 ·obtain⟨g1,g2,g3⟩:=h.hold l rec hl;have e:l≠m:=fun e=>by subst e;rw[hh] at hl;cases hl
  exact⟨by rw[World.putObj_heap_other e];exact g1,g2,g3⟩
end
end
end
end Go.Am
